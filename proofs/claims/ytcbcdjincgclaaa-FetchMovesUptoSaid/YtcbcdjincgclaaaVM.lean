/- Text. -/
import Derived.Test.YtcbcdjincgclaaaZ
set_option linter.unusedSimpArgs false
set_option linter.unusedVariables false
set_option maxHeartbeats 1000000
set_option linter.unusedVariables false
set_option linter.unusedSimpArgs false
set_option maxRecDepth 100000
namespace Go.Proofs.Ytcbcdjincgclaaa
open Go.AE
theorem new_val (n:Nat) (q:Nat) (h1:1≤q) (h2:q≤32):store_New_M1 n (2048 * (q:Int))=some (zreps (2048 * q) 0,zreps q 0,0)∧ref07_New_M1 n (2048 * (q:Int))=some (zreps (2048 * q) 0,zreps q 0):=by
  have ht:Int.tdiv (2048 * (q:Int)) 2048=q:=by
    rw [Int.tdiv_eq_ediv_of_nonneg (by omega)];omega
  have hm:=tmodB (q:Int)
  have e:(if (if (decide (2048 * (q:Int) < 2048))=true then true else (decide (2048 * (q:Int) > 65536)))=true then true else ((Int.tmod (2048 * (q:Int)) 2048) != 0))=false:=by
    rw [ite_tt,ite_tt,hm];simp only [Bool.or_eq_false_iff,decide_eq_false_iff_not,bne_self_eq_false,and_true];omega
  have e1:(2048 * (q:Int)).toNat=2048 * q:=by omega
  constructor
  · unfold store_New_M1
    rw [e,cond_false,ht,wid (n:=(q:Int)) (by omega),gd_pos _ (by omega),e1,Int.toNat_natCast]
  · unfold ref07_New_M1
    rw [e,cond_false,ht,wid (n:=(q:Int)) (by omega),gd_pos _ (by omega),e1,Int.toNat_natCast]
def mod0:TLoad:=⟨(List.set (zreps 28 0) 7 20),[(⟨4,4,false⟩:TReloc)],[(⟨(-1),0,0,16⟩:TSegment),(⟨0,16,16,8⟩:TSegment),(⟨0,16,24,4⟩:TSegment)],8⟩
theorem mod_val (n:Nat):law33_module n=some mod0:=by
  unfold law33_module mod0
  rw [gd_pos _ (by decide),gd_pos _ (by decide)]
theorem mod_good (n:Nat) (hn:4194304≤n):Good n mod0:=⟨by decide,by decide,by decide,hn,by unfold bytesOk;decide⟩
theorem mod_chk (c:Nat):module_CheckLoad (c+100) mod0=some 0:=by kernel_rfl
theorem mod_fit (c:Nat):fetch_Fit (c+100) mod0 2048=some 0:=by kernel_rfl
theorem mod_size (c:Nat):fetch_Size (c+100) mod0=some 24:=by kernel_rfl
theorem mod_path (c:Nat):pathM mod0 (c+100) 1=[0,1]:=by kernel_rfl
theorem mod_new:newL mod0 [0] [0,1]=[0,1]:=by decide +kernel
theorem mod_txt:gt (txt mod0 4096) 4=0∧gt (txt mod0 4096) 5=0∧gt (txt mod0 4096) 6=16∧gt (txt mod0 4096) 7=20:=by decide +kernel
theorem mod_keys (n:Nat) (hn:4194304≤n) (s:List Int) (hs:s.length=8192):loopF (fun (x:(List Int)×Int)=>ref33_Put_M1_b2 n s 4096 2048 3 mod0 x.1 x.2) n (zreps 4 0,4096)=some [0,0,7,0]:=by
  obtain ⟨f,rfl⟩:∃ f,n=f+2:=⟨n - 2,by omega⟩
  generalize hN:f+2=N
  have e1:IntKind.wrap .i64 (4096+2048)=6144:=by decide
  have e2:IntKind.wrap .i64 (IntKind.wrap .i64 (2 * 3)+1)=7:=by decide
  have h:ref07_Store__SetKey_M1 N s (zreps 4 0) 4096 7=some (true,[0,0,7,0]):=by
    unfold ref07_Store__SetKey_M1
    rw [hs]
    rfl
  rw [← hN,loopF_step (x':=([0,0,7,0],6144)),loopF_done (y:=[0,0,7,0])]
  · unfold ref33_Put_M1_b2
    rw [e1];rfl
  · unfold ref33_Put_M1_b2
    rw [e1,e2]
    simp only
    rw [hN,h];rfl
theorem works_val (n:Nat) (hn:4194304≤n):law33_works n=some true:=by
  have hG:=mod_good n hn
  obtain ⟨f,hf⟩:∃ f,n=f+100:=⟨n - 100,by omega⟩
  have m1:module_CheckLoad n mod0=some 0:=by rw [hf];exact mod_chk f
  have m2:fetch_Fit n mod0 2048=some 0:=by rw [hf];exact mod_fit f
  have m3:fetch_Size n mod0=some 24:=by rw [hf];exact mod_size f
  have m4:pathM mod0 n 1=[0,1]:=by rw [hf];exact mod_path f
  have n4:store_New_M1 n 8192=some (zreps 8192 0,zreps 4 0,0):=(new_val n 4 (by omega) (by omega)).1
  have hl0:(zreps 8192 (0:Int)).length=8192:=zreps_len _ _
  have hSI:SI (zreps 8192 (0:Int)) (zreps 4 0):=⟨by rw [zreps_len];omega,by rw [zreps_len];omega,by rw [zreps_len,zreps_len]⟩
  unfold law33_works
  rw [n4,Option.bind_some]
  simp only [bne_self_eq_false,cond_false,Bool.not_false,gd_t]
  rw [mod_val,Option.bind_some]
  rcases put_cases hG hSI 4096 2048 3 (by omega) with ⟨h,_⟩ | ⟨_,r,hr,h,_⟩ | ⟨_,_,hV,_,k',hkl,hk,h,_⟩
  · rw [hl0] at h
    exact absurd h (by
      have e:Int.tmod 4096 2048=0:=by decide
      have e':Int.tmod 2048 2048=0:=by decide
      unfold Bad;omega)
  · rw [m2] at h;exact absurd (Option.some.inj h).symm hr
  · have hc:(clrP (zreps 8192 0) 4096 2048).length=8192:=by rw [clrP_len,hl0]
    rw [mod_keys n hn _ hc] at hk
    obtain rfl:=Option.some.inj hk
    rw [h,Option.bind_some]
    simp only
    rw [Option.bind_some]
    generalize hs1:ldP mod0 4096 (clrP (zreps 8192 0) 4096 2048) 0=s1
    have hl1:s1.length=8192:=by rw [← hs1,ldP_len,hc]
    have hSI1:SI s1 [0,0,7,0]:=⟨by decide,by decide,by rw [hl1];rfl⟩
    have ent:(4096:Int)+mod0.Entry=4104:=rfl
    rcases seg_cases hG hSI1 4096 1 [0] (by simp) (by omega) with ⟨r,r0,_,_,r3⟩ | ⟨_,_,_,_,_,_,_,r1,_⟩
    · exact absurd (show SegOk n mod0 s1.length 4096 1 [0] from ⟨m1,by omega,⟨24,m3,by rw [hl1];omega⟩,by decide,by decide⟩) r3
    · rw [m4,mod_new] at r1
      rw [r1,Option.bind_some]
      simp only
      have hns:newS mod0 4096 [0] [0,1] s1=ldP mod0 4096 s1 1:=by
        unfold newS
        have:freshOf [0] [0,1]=[1]:=by decide
        rw [this];rfl
      rw [hns]
      have hl2:(ldP mod0 4096 s1 1).length=8192:=by rw [ldP_len,hl1]
      have hSI2:SI (ldP mod0 4096 s1 1) [0,0,7,0]:=⟨by decide,by decide,by rw [hl2];rfl⟩
      have hko:store_Store__KeyOf_M1 n (ldP mod0 4096 s1 1) [0,0,7,0] 4096=some (7,true):=by
        unfold store_Store__KeyOf_M1
        rw [hl2]
        rfl
      rw [hko,Option.bind_some,ent]
      have hcut:cut (ldP mod0 4096 s1 1) 4100 4=[0,0,16,20]:=by
        have hcl:(cut (ldP mod0 4096 s1 1) 4100 4).length=4:=by
          have:=cut_len (s:=ldP mod0 4096 s1 1) (a:=4100) (y:=4) (by omega) (by omega) (by rw [hl2];omega)
          omega
        have hb:∀ i:Nat,i < 4→gt (cut (ldP mod0 4096 s1 1) 4100 4) i=gt (txt mod0 4096) (4+i):=by
          intro i hi
          have e1:(gt mod0.Segments (1:Int).toNat)=⟨0,16,16,8⟩:=rfl
          have e0:(gt mod0.Segments (0:Int).toNat)=⟨-1,0,0,16⟩:=rfl
          rw [gt_cut (by omega),gt_ldP hG hV (by omega) (by omega) (i:=1) (by omega) (by decide) (by rw [e1,hl1];simp only;omega),e1,if_neg (by simp only;omega),← hs1,gt_ldP hG hV (by omega) (by omega) (i:=0) (by omega) (by decide) (by rw [e0,hc];simp only;omega),e0,if_pos (by simp only;omega)]
          congr 1
          simp only
          omega
        refine ext_gt (by rw [hcl];rfl) (fun i hi=>?_)
        rw [hcl] at hi
        rw [hb i hi]
        obtain ⟨t4,t5,t6,t7⟩:=mod_txt
        have:i=0∨i=1∨i=2∨i=3:=by omega
        rcases this with rfl | rfl | rfl | rfl
        · exact t4
        · exact t5
        · exact t6
        · exact t7
      simp only [show (if (if ((0:Int) == 0)=true then ((4104:Int) == 4104) else false)=true then ((7:Int) == 7) else false)=true from rfl,cond_true,gd_t]
      rw [bytesW n hSI2 4100 4 (by omega) (by omega) (by rw [hl2];omega),Option.bind_some,hcut,SameBytes_refl n _ (by decide) (by omega),Option.bind_some]
      rfl
end Go.Proofs.Ytcbcdjincgclaaa
/-
  ch. 33: FetchMoves.
-/
set_option maxHeartbeats 1000000
set_option linter.unusedVariables false
set_option linter.unusedSimpArgs false
set_option maxRecDepth 100000
namespace Go.Proofs.Ytcbcdjincgclaaa
open Go.AE
theorem gt_relF {a:Int} {L:Nat} {q:Nat}:∀ {rs:List TReloc} {b:List Int},RelsOk L rs→(∀ r∈rs,¬ (r.At≤(q:Int)∧(q:Int) < r.At+r.Len))→gt (relF a rs b) q=gt b q
  | [],b,_,_=>rfl
  | r :: rs,b,⟨h1,h2,h3⟩,h=>by
    obtain ⟨r1,r2,r3,r4⟩:=h1
    have:=h r (by simp)
    rw [relF,gt_relF h3 (fun s hs=>h s (by simp [hs]))]
    unfold rel1
    exact gt_adj _ _ _ _ _ (by omega)
theorem and15 (a:Int):∃ q:Int,0≤q∧q≤15∧IntKind.wrap .i64 (((BitVec.ofInt (IntKind.bits .i64) a &&& BitVec.ofInt (IntKind.bits .i64) 15).toNat:Int))=q:=by
  have h:(BitVec.ofInt (IntKind.bits .i64) a &&& BitVec.ofInt (IntKind.bits .i64) 15).toNat≤15:=by
    rw [BitVec.toNat_and]
    exact Nat.le_trans Nat.and_le_right (by decide)
  exact ⟨_,by omega,by omega,wid (by omega)⟩
theorem const_loop {n:Nat} {m:TLoad} (hG:Good n m) (hV:Valid n m) (g g1 g2 g3:Int) (one two:List Int) (i:Nat):∃ c,loopF (fun (x:Bool×Int)=>law33_FetchMoves_b5 n m g g1 g2 g3 one two (i:Int) x.1 x.2) n (false,0)=some c∧(c=false→∀ r∈m.Relocs,¬ (r.At≤(i:Int)∧(i:Int) < r.At+r.Len)):=by
  have hn:=hG.hn
  have hR:=hG.hR
  have hT:=hG.hT
  refine loopF_inv (fun x=>∃ k:Nat,x.2=(k:Int)∧k≤m.Relocs.length∧(x.1=false→∀ j,j < k→¬ ((gt m.Relocs j).At≤(i:Int)∧(i:Int) < (gt m.Relocs j).At+(gt m.Relocs j).Len))) (fun x=>m.Relocs.length - x.2.toNat) (fun c=>c=false→∀ r∈m.Relocs,¬ (r.At≤(i:Int)∧(i:Int) < r.At+r.Len)) (fun x hx=>?_) n (false,0) ⟨0,rfl,by omega,fun _ j hj=>absurd hj (by omega)⟩ (by simp only;omega)
  obtain ⟨c,j⟩:=x
  obtain ⟨k,e,hk,hc⟩:=hx
  simp only at e hc ⊢
  subst e
  by_cases cx:(k:Int) < (m.Relocs.length:Int)
  · have hkl:k < m.Relocs.length:=by omega
    obtain ⟨r1,r2,r3,r4⟩:=RelsOk.mem hV.rel (gt m.Relocs k) (by rw [gt_lt hkl];exact List.getElem_mem hkl)
    refine .inl ⟨((if c=true then true else (if (decide ((i:Int) ≥ ((gt m.Relocs k).At)))=true then (decide ((i:Int) < ((gt m.Relocs k).At+(gt m.Relocs k).Len))) else false)),(k:Int)+1),?_,⟨k+1,by simp,by omega,?_⟩,by simp only;omega⟩
    · unfold law33_FetchMoves_b5
      rw [decide_eq_true cx,cond_true,gd_pos _ ⟨fun _=>by omega,fun _=>by omega,fun _=>by omega⟩,Int.toNat_natCast,wid (n:=(k:Int)+1) (by omega),wid (by omega)]
    · simp only
      intro hf j hj
      rw [ite_tt,ite_ff,Bool.or_eq_false_iff,Bool.and_eq_false_iff,decide_eq_false_iff_not,decide_eq_false_iff_not] at hf
      by_cases e:j=k
      · subst e;omega
      · exact hc hf.1 j (by omega)
  · refine .inr ⟨c,?_,fun hcf r hr=>?_⟩
    · unfold law33_FetchMoves_b5
      rw [decide_eq_false cx,cond_false]
    · obtain ⟨j,hj,rfl⟩:=List.getElem_of_mem hr
      rw [← gt_lt hj]
      exact hc hcf j (by omega)
theorem moves_loop {n:Nat} {m:TLoad} (hG:Good n m) (hV:Valid n m) (g g1 g2:Int) (L:Nat) (one two:List Int) (h1:one.length=L) (h2:two.length=L) (hL:L≤65536)
    (he:∀ i,i < L→(∀ r∈m.Relocs,¬ (r.At≤(i:Int)∧(i:Int) < r.At+r.Len))→gt one i=gt two i) :
    loopF (fun (x:Int)=>law33_FetchMoves_b2 n m g g1 g2 (L:Int) one two x) n 0=some (.inr ()):=by
  have hn:=hG.hn
  obtain ⟨y,hy,rfl⟩:=loopF_inv (body:=fun (x:Int)=>law33_FetchMoves_b2 n m g g1 g2 (L:Int) one two x) (fun x=>∃ k:Nat,x=(k:Int)∧k≤L) (fun x=>L - x.toNat) (fun y=>y = .inr ()) (fun x hx=>by
    obtain ⟨k,rfl,hk⟩:=hx
    by_cases cx:(k:Int) < (L:Int)
    · refine .inl ⟨(k:Int)+1,?_,⟨k+1,by simp,by omega⟩,by omega⟩
      obtain ⟨c,c1,c2⟩:=const_loop hG hV g g1 g2 (L:Int) one two k
      unfold law33_FetchMoves_b2
      rw [decide_eq_true cx,cond_true,c1,Option.bind_some]
      unfold law33_FetchMoves_k4
      rw [gd_pos _ ⟨fun _=>by omega,fun _=>by omega,fun _=>by omega,fun _=>by omega⟩,Int.toNat_natCast]
      have e:(if (!c)=true then (gt one k != gt two k) else false)=false:=by
        cases c with
        | true=>rfl
        | false=>rw [he k (by omega) (c2 rfl)];simp
      rw [e,cond_false]
      unfold law33_FetchMoves_k3
      rw [wid (n:=(k:Int)+1) (by omega)]
    · refine .inr ⟨_,?_,rfl⟩
      unfold law33_FetchMoves_b2
      rw [decide_eq_false cx,cond_false]) n 0 ⟨0,rfl,by omega⟩ (by simp only [Int.toNat_zero];omega)
  exact hy
theorem new64 (n:Nat):store_New_M1 n 65536=some (zreps 65536 0,zreps 32 0,0):=rfl
theorem si64:SI (zreps 65536 0) (zreps 32 0):=⟨by rw [zreps_len];omega,by rw [zreps_len];omega,by rw [zreps_len,zreps_len]⟩
theorem moves_bytes {n:Nat} {m:TLoad} (hG:Good n m) (hV:Valid n m) {A:Int} (a0:0≤A) (a1:A≤65536) {s:List Int} (hfit:A+(gt m.Segments 0).Len≤s.length) {i:Nat} (hi:(i:Int) < (gt m.Segments 0).Len) (hu:∀ r∈m.Relocs,¬ (r.At≤(i:Int)∧(i:Int) < r.At+r.Len)) :
    gt (cut (ldP m A s 0) A (gt m.Segments 0).Len) i=gt m.Text i:=by
  have s1:=hV.s1
  have e0:(0:Int).toNat=0:=rfl
  have ho:=hV.ok 0 (by omega)
  have hx:=(hV.x 0 (by omega)).1 rfl
  have horg:(gt m.Segments 0).Origin=0:=(ho.2.2.2.2.2.2.2.1 rfl).2
  rw [gt_cut hi,gt_ldP hG hV a0 a1 (i:=0) (by omega) (by omega) (by rw [e0,horg];omega),e0,horg,if_pos (by omega),hx]
  have:(0:Int).toNat+(A.toNat+i - (A+0).toNat)=i:=by omega
  rw [this]
  unfold txt
  exact gt_relF hV.rel hu
theorem p_law33_FetchMoves (n:Nat) (hn:N0≤n) (x0:TLoad) (x1:Int) (x2:Int) (hc:∀ i,i < 3→CanL Try.prog (([(true,[.slice 5,.slice 58,.slice 52,.int .i64]),(false,[.int .i64]),(false,[.int .i64])]:List (Bool×List Kd)).getD i (false,[])).2 (([[.slice (List.map e_Int x0.Text),.slice (List.map e_TReloc x0.Relocs),.slice (List.map e_TSegment x0.Segments),.int x0.Entry],[.int x1],[.int x2]]:List (List C)).getD i []))
    (hb:cbss [[.slice (List.map e_Int x0.Text),.slice (List.map e_TReloc x0.Relocs),.slice (List.map e_TSegment x0.Segments),.int x0.Entry],[.int x1],[.int x2]]≤2097152):law33_FetchMoves n x0 x1 x2=some true:=by
  have hk:bytesOk x0.Text:=can_bytes ((hc 0 (by decide)).2 0 (by decide))
  clear hc
  have hT:x0.Text.length≤2097152:=len_of_cbss (f:=e_Int) (xs:=[.slice (List.map e_Int x0.Text),.slice (List.map e_TReloc x0.Relocs),.slice (List.map e_TSegment x0.Segments),.int x0.Entry]) hb (by simp) (by simp)
  have hR:x0.Relocs.length≤2097152:=len_of_cbss (f:=e_TReloc) (xs:=[.slice (List.map e_Int x0.Text),.slice (List.map e_TReloc x0.Relocs),.slice (List.map e_TSegment x0.Segments),.int x0.Entry]) hb (by simp) (by simp)
  have hS:x0.Segments.length≤2097152:=len_of_cbss (f:=e_TSegment) (xs:=[.slice (List.map e_Int x0.Text),.slice (List.map e_TReloc x0.Relocs),.slice (List.map e_TSegment x0.Segments),.int x0.Entry]) hb (by simp) (by simp)
  clear hb
  have hG:Good n x0:=⟨hS,hT,hR,hn,hk⟩
  have hw:law33_works n=some true:=works_val n hn
  obtain ⟨qa,qa0,qa1,ea⟩:=and15 x1
  obtain ⟨qb,qb0,qb1,eb⟩:=and15 x2
  unfold law33_FetchMoves
  simp only [ea,eb]
  rw [wid (n:=2048 * qa) (by omega),wid (n:=2048 * qb) (by omega),new64,Option.bind_some]
  simp only [bne_self_eq_false,cond_false,Bool.not_false,gd_t]
  have l0:(zreps 65536 (0:Int)).length=65536:=zreps_len _ _
  have nb:∀ (L:Nat) (q k:Int),L=65536→0≤q→q≤15→1≤k→k≤15→¬ Bad L (2048 * q) 32768 k:=by
    intro L q k hL h1 h2 h3 h4
    have:=tmodB q
    have e:Int.tmod 32768 2048=0:=by decide
    unfold Bad
    omega
  rcases put_cases hG si64 (2048 * qa) 32768 1 (by omega) with ⟨h,_⟩ | ⟨_,r,hr,_,h,_⟩ | ⟨_,hfit,hV,⟨z,hz1,hz2⟩,k',hkl,_,h,_⟩
  · exact absurd h (nb _ qa 1 l0 qa0 qa1 (by omega) (by omega))
  · rw [h,Option.bind_some]
    simp only [bne_t hr,cond_true,hw,Option.bind_some]
  · rw [h,Option.bind_some]
    simp only [bne_self_eq_false,cond_false]
    have s1:=hV.s1
    rw [gd_pos _ (by omega)]
    obtain ⟨z',hz',_,z0,z1,z2⟩:=size_ge hG hV
    have ezz:z'=z:=Option.some.inj (hz'.symm.trans hz1)
    subst ezz
    have hL0:=z2 0 (by omega) (by omega)
    have ho:=hV.ok 0 (by omega)
    have horg:(gt x0.Segments 0).Origin=0:=(ho.2.2.2.2.2.2.2.1 rfl).2
    have e0:(0:Int).toNat=0:=rfl
    rw [e0,horg] at hL0
    have hLn:0≤(gt x0.Segments 0).Len:=ho.1
    have l1:(ldP x0 (2048 * qa) (clrP (zreps 65536 0) (2048 * qa) 32768) 0).length=65536:=by rw [ldP_len,clrP_len,l0]
    have hSI1:SI (ldP x0 (2048 * qa) (clrP (zreps 65536 0) (2048 * qa) 32768) 0) k':=⟨by rw [hkl,zreps_len];omega,by rw [hkl,zreps_len];omega,by rw [hkl,zreps_len,l1]⟩
    rw [bytesW n hSI1 _ _ (by omega) hLn (by rw [l1];omega),Option.bind_some]
    rcases put_cases hG hSI1 (2048 * qb) 32768 2 (by omega) with ⟨h2,_⟩ | ⟨_,r,hr,hf,h2,_⟩ | ⟨_,_,_,_,k2,hkl2,_,h2,_⟩
    · exact absurd h2 (nb _ qb 2 l1 qb0 qb1 (by omega) (by omega))
    · rw [hf] at hfit;exact absurd (Option.some.inj hfit) hr
    · rw [h2,Option.bind_some]
      simp only
      generalize hs1:ldP x0 (2048 * qa) (clrP (zreps 65536 0) (2048 * qa) 32768) 0=S1 at *
      have l2:(ldP x0 (2048 * qb) (clrP S1 (2048 * qb) 32768) 0).length=65536:=by rw [ldP_len,clrP_len,l1]
      have hSI2:SI (ldP x0 (2048 * qb) (clrP S1 (2048 * qb) 32768) 0) k2:=⟨by rw [hkl2];exact hSI1.1,by rw [hkl2];exact hSI1.2.1,by rw [hkl2,l2,← l1];exact hSI1.2.2⟩
      rw [bytesW n hSI2 _ _ (by omega) hLn (by rw [l2];omega),Option.bind_some]
      have hent:=hV.ent
      have c1:=cut_len (s:=S1) (a:=2048 * qa) (y:=(gt x0.Segments 0).Len) (by omega) hLn (by omega)
      have c2:=cut_len (s:=ldP x0 (2048 * qb) (clrP S1 (2048 * qb) 32768) 0) (a:=2048 * qb) (y:=(gt x0.Segments 0).Len) (by omega) hLn (by omega)
      rw [wid (n:=2048 * qb+x0.Entry - 2048 * qb) (by omega),wid (n:=2048 * qa+x0.Entry - 2048 * qa) (by omega)]
      have ee:2048 * qb+x0.Entry - 2048 * qb=2048 * qa+x0.Entry - 2048 * qa:=by omega
      rw [ee,c1,c2]
      simp only [bne_self_eq_false,Bool.false_eq_true,if_false,cond_false]
      obtain ⟨L,hL⟩:∃ L:Nat,(gt x0.Segments 0).Len=(L:Int):=⟨(gt x0.Segments 0).Len.toNat,by omega⟩
      have hml:=moves_loop hG hV (gt x0.Segments 0).Parent (gt x0.Segments 0).Origin (gt x0.Segments 0).From L (cut S1 (2048 * qa) (gt x0.Segments 0).Len) (cut (ldP x0 (2048 * qb) (clrP S1 (2048 * qb) 32768) 0) (2048 * qb) (gt x0.Segments 0).Len) (by omega) (by omega) (by omega) (fun i hi hu=>by
        have hi':(i:Int) < (gt x0.Segments 0).Len:=by omega
        rw [moves_bytes hG hV (by omega) (by omega) (s:=clrP S1 (2048 * qb) 32768) (by rw [clrP_len];omega) hi' hu]
        rw [← hs1]
        exact moves_bytes hG hV (by omega) (by omega) (s:=clrP (zreps 65536 0) (2048 * qa) 32768) (by rw [clrP_len];omega) hi' hu)
      rw [← hL] at hml
      rw [hml,Option.bind_some]
      simp only
      unfold law33_FetchMoves_k1
      rw [hw]
      rfl
end Go.Proofs.Ytcbcdjincgclaaa
