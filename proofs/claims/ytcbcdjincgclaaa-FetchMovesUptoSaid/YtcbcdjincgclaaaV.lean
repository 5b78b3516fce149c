/- Text. -/
import Derived.Test.YtcbcdjincgclaaaU
import Derived.Test.YtcbcdjincgclaaaFL
set_option maxHeartbeats 1000000
set_option linter.unusedVariables false
set_option linter.unusedSimpArgs false
set_option maxRecDepth 100000
namespace Go.Proofs.Ytcbcdjincgclaaa
open Go.AE
theorem keyE (k:Int) (h1:1≤k) (h2:k≤15):IntKind.wrap .i64 (((BitVec.ofInt (IntKind.bits .i64) (IntKind.wrap .i64 (k * 2 ^ min 1 (IntKind.bits .i64))) ||| BitVec.ofInt (IntKind.bits .i64) 1).toNat:Int))=IntKind.wrap .i64 ((IntKind.wrap .i64 (2 * k))+1):=by
  have:k=1∨k=2∨k=3∨k=4∨k=5∨k=6∨k=7∨k=8∨k=9∨k=10∨k=11∨k=12∨k=13∨k=14∨k=15:=by omega
  rcases this with rfl | rfl | rfl | rfl | rfl | rfl | rfl | rfl | rfl | rfl | rfl | rfl | rfl | rfl | rfl <;> decide
theorem keys_body (n:Nat) (s:List Int) (at_ size key:Int) (m:TLoad) (k:List Int) (b:Int) (h1:1≤key) (h2:key≤15):fetch_Put_M1_b2 n s at_ size key m k b=ref33_Put_M1_b2 n s at_ size key m k b:=by
  unfold fetch_Put_M1_b2 ref33_Put_M1_b2
  rw [keyE key h1 h2]
  rfl
theorem setKey_some (n:Nat) (s k:List Int) (h:SI s k) (b key:Int):∃ r,ref07_Store__SetKey_M1 n s k b key=some r∧r.2.length=k.length:=by
  obtain ⟨h1,h2,h3⟩:=h
  unfold ref07_Store__SetKey_M1
  by_cases c:b < 0
  · rw [decide_eq_true c];exact ⟨_,rfl,rfl⟩
  · simp only [decide_eq_false c,cond_false,Bool.not_false,and_self,gd_t]
    by_cases c2:b ≥ (s.length:Int)∨key < 0∨key > 31
    · have e:(if (if (decide (b ≥ ((s.length:Nat):Int)))=true then true else (decide (key < 0)))=true then true else (decide (key > 31)))=true:=by
        rw [ite_tt,ite_tt];simp only [Bool.or_eq_true,decide_eq_true_eq];omega
      simp only [e,cond_true]
      exact ⟨_,rfl,rfl⟩
    · have e:(if (if (decide (b ≥ ((s.length:Nat):Int)))=true then true else (decide (key < 0)))=true then true else (decide (key > 31)))=false:=by
        rw [ite_tt,ite_tt];simp only [Bool.or_eq_false_iff,decide_eq_false_iff_not];omega
      simp only [e,cond_false]
      have ht:=tdiv_in (i:=b) (K:=k.length) (by omega) (by omega) h2
      rw [gd_pos _ ⟨ht,by omega⟩]
      exact ⟨_,rfl,by simp⟩
theorem keys_loop (n:Nat) (hn:4194304≤n) (s k:List Int) (h:SI s k) (at_ size key:Int) (m:TLoad) (a0:0≤at_) (a1:0≤size) (a2:at_+size≤s.length):∃ k',loopF (fun (x:(List Int)×Int)=>ref33_Put_M1_b2 n s at_ size key m x.1 x.2) n (k,at_)=some k'∧k'.length=k.length:=by
  have hl:s.length≤65536:=by obtain ⟨h1,h2,h3⟩:=h;omega
  refine loopF_inv (fun x=>x.1.length=k.length∧at_≤x.2) (fun x=>(at_+size - x.2).toNat) (fun (y:List Int)=>y.length=k.length) (fun x hx=>?_) n (k,at_) ⟨rfl,by simp⟩ (by simp only;omega)
  obtain ⟨k',b⟩:=x
  simp only at hx ⊢
  by_cases c:b < at_+size
  · obtain ⟨r,hr,hrl⟩:=setKey_some n s k' ⟨by rw [hx.1];exact h.1,by rw [hx.1];exact h.2.1,by rw [hx.1];exact h.2.2⟩ b (IntKind.wrap .i64 ((IntKind.wrap .i64 (2 * key))+1))
    refine .inl ⟨(r.2,b+2048),?_,⟨by simp only;omega,by simp only;omega⟩,by simp only;omega⟩
    unfold ref33_Put_M1_b2
    rw [wid (n:=at_+size) (by omega),decide_eq_true c,cond_true,hr,Option.bind_some,gd_pos _ hrl,wid (n:=b+2048) (by omega)]
  · refine .inr ⟨k',?_,hx.1⟩
    unfold ref33_Put_M1_b2
    rw [wid (n:=at_+size) (by omega),decide_eq_false c,cond_false]
def Bad (L:Nat) (at_ size key:Int):Prop:=at_ < 0∨size < 1∨Int.tmod at_ 2048≠0∨Int.tmod size 2048≠0∨size > (L:Int) - at_∨key < 1∨key > 15
theorem bne_t {x y:Int} (h:x≠y):(x != y)=true:=by simpa using h
theorem put_cases {n:Nat} {m:TLoad} (hG:Good n m) {s k:List Int} (h:SI s k) (at_ size key:Int) (hat:at_ < 9223372036854775808) :
    (Bad s.length at_ size key∧fetch_Put_M1 n s k m at_ size key=some (0,1,s,k)∧ref33_Put_M1 n s k s.length m at_ size key=some (0,1,s,k)) ∨
    (¬ Bad s.length at_ size key∧∃ r,r≠0∧fetch_Fit n m size=some r∧fetch_Put_M1 n s k m at_ size key=some (0,r,s,k)∧ref33_Put_M1 n s k s.length m at_ size key=some (0,r,s,k)) ∨
    (¬ Bad s.length at_ size key∧fetch_Fit n m size=some 0∧Valid n m∧(∃ z,fetch_Size n m=some z∧z≤size)∧∃ k',k'.length=k.length∧fetch_Put_M1 n s k m at_ size key=some (at_+m.Entry,0,ldP m at_ (clrP s at_ size) 0,k')∧ref33_Put_M1 n s k s.length m at_ size key=some (at_+m.Entry,0,ldP m at_ (clrP s at_ size) 0,k')):=by
  have hn:=hG.hn
  have hl:s.length≤65536:=by obtain ⟨h1,h2,h3⟩:=h;omega
  by_cases hB:Bad s.length at_ size key
  · refine .inl ⟨hB,?_,?_⟩
    · unfold fetch_Put_M1
      by_cases c:at_ < 0∨size < 1∨Int.tmod at_ 2048≠0∨Int.tmod size 2048≠0
      · have e:(if (if (if (decide (at_ < 0))=true then true else (decide (size < 1)))=true then true else ((Int.tmod at_ 2048) != 0))=true then true else ((Int.tmod size 2048) != 0))=true:=by
          rw [ite_tt,ite_tt,ite_tt];simp only [Bool.or_eq_true,decide_eq_true_eq,bne_iff_ne];omega
        rw [e];rfl
      · have e:(if (if (if (decide (at_ < 0))=true then true else (decide (size < 1)))=true then true else ((Int.tmod at_ 2048) != 0))=true then true else ((Int.tmod size 2048) != 0))=false:=by
          rw [ite_tt,ite_tt,ite_tt];simp only [Bool.or_eq_false_iff,decide_eq_false_iff_not,bne_eq_false_iff_eq];omega
        have e2:(if (if (decide (size > (IntKind.wrap .i64 ((s.length:Int) - at_))))=true then true else (decide (key < 1)))=true then true else (decide (key > 15)))=true:=by
          rw [ite_tt,ite_tt,w64_id (by omega) (by omega)];simp only [Bool.or_eq_true,decide_eq_true_eq]
          unfold Bad at hB
          omega
        simp only [e,cond_false,Bool.not_false,gd_t,store_Store__Size_M1,Option.bind_some,e2,cond_true]
    · unfold ref33_Put_M1
      have e:(if (if (if (if (if (if (if ((Int.tmod at_ 2048) != 0)=true then true else ((Int.tmod size 2048) != 0))=true then true else (decide (at_ < 0)))=true then true else (decide (size < 1)))=true then true else (decide (at_ > (s.length:Int))))=true then true else (decide (size > (IntKind.wrap .i64 ((s.length:Int) - at_)))))=true then true else (decide (key < 1)))=true then true else (decide (key > 15)))=true:=by
        rw [ite_tt,ite_tt,ite_tt,ite_tt,ite_tt,ite_tt,ite_tt]
        simp only [Bool.or_eq_true,decide_eq_true_eq,bne_iff_ne]
        unfold Bad at hB
        by_cases c:at_ < 0
        · omega
        · rw [w64_id (by omega) (by omega)];omega
      rw [e];rfl
  · have hB':=hB
    unfold Bad at hB
    have ew1:(if (if (if (decide (at_ < 0))=true then true else (decide (size < 1)))=true then true else ((Int.tmod at_ 2048) != 0))=true then true else ((Int.tmod size 2048) != 0))=false:=by
      rw [ite_tt,ite_tt,ite_tt];simp only [Bool.or_eq_false_iff,decide_eq_false_iff_not,bne_eq_false_iff_eq];omega
    have ew2:(if (if (decide (size > (IntKind.wrap .i64 ((s.length:Int) - at_))))=true then true else (decide (key < 1)))=true then true else (decide (key > 15)))=false:=by
      rw [ite_tt,ite_tt,w64_id (by omega) (by omega)];simp only [Bool.or_eq_false_iff,decide_eq_false_iff_not];omega
    have er:(if (if (if (if (if (if (if ((Int.tmod at_ 2048) != 0)=true then true else ((Int.tmod size 2048) != 0))=true then true else (decide (at_ < 0)))=true then true else (decide (size < 1)))=true then true else (decide (at_ > (s.length:Int))))=true then true else (decide (size > (IntKind.wrap .i64 ((s.length:Int) - at_)))))=true then true else (decide (key < 1)))=true then true else (decide (key > 15)))=false:=by
      rw [ite_tt,ite_tt,ite_tt,ite_tt,ite_tt,ite_tt,ite_tt,w64_id (by omega) (by omega)]
      simp only [Bool.or_eq_false_iff,decide_eq_false_iff_not,bne_eq_false_iff_eq]
      omega
    obtain ⟨r,f1,f2⟩:=fit_eq n m size hG.hS hG.hT hG.hR (by omega)
    by_cases hr:r=0
    · subst hr
      refine .inr (.inr ⟨hB',f1,?_⟩)
      have hc:module_CheckLoad n m=some 0:=by
        obtain ⟨b,b1,b2⟩:=check_eq n m hG.hS hG.hT hG.hR (by omega)
        cases b with
        | true=>exact b1
        | false =>
          simp only [Bool.false_eq_true,if_false] at b1
          unfold fetch_Fit at f1
          rw [b1] at f1
          exact absurd (Option.some.inj f1) (by decide)
      have hV:=valid_of hG hc
      obtain ⟨z,z1,z2,z3,z4,z5⟩:=size_ge hG hV
      have hz:z≤size:=by
        unfold fetch_Fit at f1
        rw [hc,Option.bind_some] at f1
        simp only [bne_self_eq_false,cond_false] at f1
        rw [z1,Option.bind_some] at f1
        by_cases c:z > size
        · rw [decide_eq_true c] at f1;exact absurd (Option.some.inj f1) (by decide)
        · omega
      obtain ⟨k',hk',hkl⟩:=keys_loop n hn (clrP s at_ size) k ⟨h.1,h.2.1,by rw [clrP_len];exact h.2.2⟩ at_ size key m (by omega) (by omega) (by rw [clrP_len];omega)
      refine ⟨hV,⟨z,z1,hz⟩,k',hkl,?_,?_⟩
      · unfold fetch_Put_M1
        simp only [ew1,cond_false,Bool.not_false,gd_t,store_Store__Size_M1,Option.bind_some,ew2,f1,bne_self_eq_false,clrW n h at_ size (by omega) (by omega) (by omega)]
        rw [gd_pos _ clrP_len]
        have e:(fun (x:(List Int)×Int)=>fetch_Put_M1_b2 n (clrP s at_ size) at_ size key m x.1 x.2)=fun (x:(List Int)×Int)=>ref33_Put_M1_b2 n (clrP s at_ size) at_ size key m x.1 x.2:=by
          funext x;exact keys_body n _ at_ size key m x.1 x.2 (by omega) (by omega)
        rw [e,hk',Option.bind_some]
        unfold fetch_Put_M1_k1
        rw [loaderW hG hV (by omega) (by omega),Option.bind_some]
        simp only
        rw [loadW hG hV (by omega) (by omega) (s:=clrP s at_ size) (k:=k') ⟨by rw [hkl];exact h.1,by rw [hkl];exact h.2.1,by rw [hkl,clrP_len];exact h.2.2⟩ (i:=0) (by omega) (by have:=hV.s1;omega),Option.bind_some]
        have he:=hV.ent
        have ho:=hV.o (i:=0) (by omega) (by have:=hV.s1;omega)
        have e0:(0:Int).toNat=0:=rfl
        rw [e0] at ho
        rw [wid (by omega)]
      · unfold ref33_Put_M1
        simp only [er,cond_false,Option.bind_some,f2,bne_self_eq_false,clrR n (by omega) h at_ size (by omega) (by omega) (by omega),hk']
        unfold ref33_Put_M1_k1
        rw [loadR hG hV (by omega) (by omega) (s:=clrP s at_ size) (k:=k') ⟨by rw [hkl];exact h.1,by rw [hkl];exact h.2.1,by rw [hkl,clrP_len];exact h.2.2⟩ (i:=0) (by omega) (by have:=hV.s1;omega),Option.bind_some]
        have he:=hV.ent
        have ho:=hV.o (i:=0) (by omega) (by have:=hV.s1;omega)
        have e0:(0:Int).toNat=0:=rfl
        rw [e0] at ho
        rw [wid (by omega)]
    · refine .inr (.inl ⟨hB',r,hr,f1,?_,?_⟩)
      · unfold fetch_Put_M1
        simp only [ew1,cond_false,Bool.not_false,gd_t,store_Store__Size_M1,Option.bind_some,ew2,f1,bne_t hr,cond_true]
      · unfold ref33_Put_M1
        simp only [er,cond_false,Option.bind_some,f2,bne_t hr,cond_true]
theorem gt_relF {a:Int} {L:Nat} {q:Nat}:∀ {rs:List TReloc} {b:List Int},RelsOk L rs→(∀ r∈rs,¬ (r.At≤(q:Int)∧(q:Int) < r.At+r.Len))→gt (relF a rs b) q=gt b q
  | [],b,_,_=>rfl
  | r :: rs,b,⟨h1,h2,h3⟩,h=>by
    obtain ⟨r1,r2,r3,r4⟩:=h1
    have:=h r (by simp)
    rw [relF,gt_relF h3 (fun s hs=>h s (by simp [hs]))]
    unfold rel1
    exact gt_adj _ _ _ _ _ (by omega)
theorem and15 (a:Int):∃ q:Int,0≤q∧q≤15∧IntKind.wrap .i64 (((BitVec.ofInt (IntKind.bits .i64) a &&& BitVec.ofInt (IntKind.bits .i64) 15).toNat:Int))=q:=by
  have h:(BitVec.ofInt (IntKind.bits .i64) a &&& BitVec.ofInt (IntKind.bits .i64) 15).toNat≤15:=by
    rw [BitVec.toNat_and]
    exact Nat.le_trans Nat.and_le_right (by decide)
  exact ⟨_,by omega,by omega,wid (by omega)⟩
theorem const_loop {n:Nat} {m:TLoad} (hG:Good n m) (hV:Valid n m) (g g1 g2 g3:Int) (one two:List Int) (i:Nat):∃ c,loopF (fun (x:Bool×Int)=>law33_FetchMoves_b5 n m g g1 g2 g3 one two (i:Int) x.1 x.2) n (false,0)=some c∧(c=false→∀ r∈m.Relocs,¬ (r.At≤(i:Int)∧(i:Int) < r.At+r.Len)):=by
  have hn:=hG.hn
  have hR:=hG.hR
  have hT:=hG.hT
  refine loopF_inv (fun x=>∃ k:Nat,x.2=(k:Int)∧k≤m.Relocs.length∧(x.1=false→∀ j,j < k→¬ ((gt m.Relocs j).At≤(i:Int)∧(i:Int) < (gt m.Relocs j).At+(gt m.Relocs j).Len))) (fun x=>m.Relocs.length - x.2.toNat) (fun c=>c=false→∀ r∈m.Relocs,¬ (r.At≤(i:Int)∧(i:Int) < r.At+r.Len)) (fun x hx=>?_) n (false,0) ⟨0,rfl,by omega,fun _ j hj=>absurd hj (by omega)⟩ (by simp only;omega)
  obtain ⟨c,j⟩:=x
  obtain ⟨k,e,hk,hc⟩:=hx
  simp only at e hc ⊢
  subst e
  by_cases cx:(k:Int) < (m.Relocs.length:Int)
  · have hkl:k < m.Relocs.length:=by omega
    obtain ⟨r1,r2,r3,r4⟩:=RelsOk.mem hV.rel (gt m.Relocs k) (by rw [gt_lt hkl];exact List.getElem_mem hkl)
    refine .inl ⟨((if c=true then true else (if (decide ((i:Int) ≥ ((gt m.Relocs k).At)))=true then (decide ((i:Int) < ((gt m.Relocs k).At+(gt m.Relocs k).Len))) else false)),(k:Int)+1),?_,⟨k+1,by simp,by omega,?_⟩,by simp only;omega⟩
    · unfold law33_FetchMoves_b5
      rw [decide_eq_true cx,cond_true,gd_pos _ ⟨fun _=>by omega,fun _=>by omega,fun _=>by omega⟩,Int.toNat_natCast,wid (n:=(k:Int)+1) (by omega),wid (by omega)]
    · simp only
      intro hf j hj
      rw [ite_tt,ite_ff,Bool.or_eq_false_iff,Bool.and_eq_false_iff,decide_eq_false_iff_not,decide_eq_false_iff_not] at hf
      by_cases e:j=k
      · subst e;omega
      · exact hc hf.1 j (by omega)
  · refine .inr ⟨c,?_,fun hcf r hr=>?_⟩
    · unfold law33_FetchMoves_b5
      rw [decide_eq_false cx,cond_false]
    · obtain ⟨j,hj,rfl⟩:=List.getElem_of_mem hr
      rw [← gt_lt hj]
      exact hc hcf j (by omega)
theorem moves_loop {n:Nat} {m:TLoad} (hG:Good n m) (hV:Valid n m) (g g1 g2:Int) (L:Nat) (one two:List Int) (h1:one.length=L) (h2:two.length=L) (hL:L≤65536)
    (he:∀ i,i < L→(∀ r∈m.Relocs,¬ (r.At≤(i:Int)∧(i:Int) < r.At+r.Len))→gt one i=gt two i) :
    loopF (fun (x:Int)=>law33_FetchMoves_b2 n m g g1 g2 (L:Int) one two x) n 0=some (.inr ()):=by
  have hn:=hG.hn
  obtain ⟨y,hy,rfl⟩:=loopF_inv (body:=fun (x:Int)=>law33_FetchMoves_b2 n m g g1 g2 (L:Int) one two x) (fun x=>∃ k:Nat,x=(k:Int)∧k≤L) (fun x=>L - x.toNat) (fun y=>y = .inr ()) (fun x hx=>by
    obtain ⟨k,rfl,hk⟩:=hx
    by_cases cx:(k:Int) < (L:Int)
    · refine .inl ⟨(k:Int)+1,?_,⟨k+1,by simp,by omega⟩,by omega⟩
      obtain ⟨c,c1,c2⟩:=const_loop hG hV g g1 g2 (L:Int) one two k
      unfold law33_FetchMoves_b2
      rw [decide_eq_true cx,cond_true,c1,Option.bind_some]
      unfold law33_FetchMoves_k4
      rw [gd_pos _ ⟨fun _=>by omega,fun _=>by omega,fun _=>by omega,fun _=>by omega⟩,Int.toNat_natCast]
      have e:(if (!c)=true then (gt one k != gt two k) else false)=false:=by
        cases c with
        | true=>rfl
        | false=>rw [he k (by omega) (c2 rfl)];simp
      rw [e,cond_false]
      unfold law33_FetchMoves_k3
      rw [wid (n:=(k:Int)+1) (by omega)]
    · refine .inr ⟨_,?_,rfl⟩
      unfold law33_FetchMoves_b2
      rw [decide_eq_false cx,cond_false]) n 0 ⟨0,rfl,by omega⟩ (by simp only [Int.toNat_zero];omega)
  exact hy
theorem new64 (n:Nat):store_New_M1 n 65536=some (zreps 65536 0,zreps 32 0,0):=rfl
theorem si64:SI (zreps 65536 0) (zreps 32 0):=⟨by rw [zreps_len];omega,by rw [zreps_len];omega,by rw [zreps_len,zreps_len]⟩
theorem tmodB (q:Int):Int.tmod (2048 * q) 2048=0:=Int.mul_tmod_right 2048 q
theorem moves_bytes {n:Nat} {m:TLoad} (hG:Good n m) (hV:Valid n m) {A:Int} (a0:0≤A) (a1:A≤65536) {s:List Int} (hfit:A+(gt m.Segments 0).Len≤s.length) {i:Nat} (hi:(i:Int) < (gt m.Segments 0).Len) (hu:∀ r∈m.Relocs,¬ (r.At≤(i:Int)∧(i:Int) < r.At+r.Len)) :
    gt (cut (ldP m A s 0) A (gt m.Segments 0).Len) i=gt m.Text i:=by
  have s1:=hV.s1
  have e0:(0:Int).toNat=0:=rfl
  have ho:=hV.ok 0 (by omega)
  have hx:=(hV.x 0 (by omega)).1 rfl
  have horg:(gt m.Segments 0).Origin=0:=(ho.2.2.2.2.2.2.2.1 rfl).2
  rw [gt_cut hi,gt_ldP hG hV a0 a1 (i:=0) (by omega) (by omega) (by rw [e0,horg];omega),e0,horg,if_pos (by omega),hx]
  have:(0:Int).toNat+(A.toNat+i - (A+0).toNat)=i:=by omega
  rw [this]
  unfold txt
  exact gt_relF hV.rel hu
theorem p_law33_FetchMoves (n:Nat) (hn:N0≤n) (x0:TLoad) (x1:Int) (x2:Int) (hc:∀ i,i < 3→CanL Try.prog (([(true,[.slice 5,.slice 58,.slice 52,.int .i64]),(false,[.int .i64]),(false,[.int .i64])]:List (Bool×List Kd)).getD i (false,[])).2 (([[.slice (List.map e_Int x0.Text),.slice (List.map e_TReloc x0.Relocs),.slice (List.map e_TSegment x0.Segments),.int x0.Entry],[.int x1],[.int x2]]:List (List C)).getD i []))
    (hb:cbss [[.slice (List.map e_Int x0.Text),.slice (List.map e_TReloc x0.Relocs),.slice (List.map e_TSegment x0.Segments),.int x0.Entry],[.int x1],[.int x2]]≤2097152):law33_FetchMoves n x0 x1 x2=some true:=by
  have hk:bytesOk x0.Text:=can_bytes ((hc 0 (by decide)).2 0 (by decide))
  clear hc
  have hT:x0.Text.length≤2097152:=len_of_cbss (f:=e_Int) (xs:=[.slice (List.map e_Int x0.Text),.slice (List.map e_TReloc x0.Relocs),.slice (List.map e_TSegment x0.Segments),.int x0.Entry]) hb (by simp) (by simp)
  have hR:x0.Relocs.length≤2097152:=len_of_cbss (f:=e_TReloc) (xs:=[.slice (List.map e_Int x0.Text),.slice (List.map e_TReloc x0.Relocs),.slice (List.map e_TSegment x0.Segments),.int x0.Entry]) hb (by simp) (by simp)
  have hS:x0.Segments.length≤2097152:=len_of_cbss (f:=e_TSegment) (xs:=[.slice (List.map e_Int x0.Text),.slice (List.map e_TReloc x0.Relocs),.slice (List.map e_TSegment x0.Segments),.int x0.Entry]) hb (by simp) (by simp)
  clear hb
  have hG:Good n x0:=⟨hS,hT,hR,hn,hk⟩
  have hw:works n=some true:=rfl
  obtain ⟨qa,qa0,qa1,ea⟩:=and15 x1
  obtain ⟨qb,qb0,qb1,eb⟩:=and15 x2
  unfold law33_FetchMoves
  simp only [ea,eb]
  rw [wid (n:=2048 * qa) (by omega),wid (n:=2048 * qb) (by omega),new64,Option.bind_some]
  simp only [bne_self_eq_false,cond_false,Bool.not_false,gd_t]
  have l0:(zreps 65536 (0:Int)).length=65536:=zreps_len _ _
  have nb:∀ (L:Nat) (q k:Int),L=65536→0≤q→q≤15→1≤k→k≤15→¬ Bad L (2048 * q) 32768 k:=by
    intro L q k hL h1 h2 h3 h4
    have:=tmodB q
    have e:Int.tmod 32768 2048=0:=by decide
    unfold Bad
    omega
  rcases put_cases hG si64 (2048 * qa) 32768 1 (by omega) with ⟨h,_⟩ | ⟨_,r,hr,_,h,_⟩ | ⟨_,hfit,hV,⟨z,hz1,hz2⟩,k',hkl,h,_⟩
  · exact absurd h (nb _ qa 1 l0 qa0 qa1 (by omega) (by omega))
  · rw [h,Option.bind_some]
    simp only [bne_t hr,cond_true,hw,Option.bind_some]
  · rw [h,Option.bind_some]
    simp only [bne_self_eq_false,cond_false]
    have s1:=hV.s1
    rw [gd_pos _ (by omega)]
    obtain ⟨z',hz',_,z0,z1,z2⟩:=size_ge hG hV
    have ezz:z'=z:=Option.some.inj (hz'.symm.trans hz1)
    subst ezz
    have hL0:=z2 0 (by omega) (by omega)
    have ho:=hV.ok 0 (by omega)
    have horg:(gt x0.Segments 0).Origin=0:=(ho.2.2.2.2.2.2.2.1 rfl).2
    have e0:(0:Int).toNat=0:=rfl
    rw [e0,horg] at hL0
    have hLn:0≤(gt x0.Segments 0).Len:=ho.1
    have l1:(ldP x0 (2048 * qa) (clrP (zreps 65536 0) (2048 * qa) 32768) 0).length=65536:=by rw [ldP_len,clrP_len,l0]
    have hSI1:SI (ldP x0 (2048 * qa) (clrP (zreps 65536 0) (2048 * qa) 32768) 0) k':=⟨by rw [hkl,zreps_len];omega,by rw [hkl,zreps_len];omega,by rw [hkl,zreps_len,l1]⟩
    rw [bytesW n hSI1 _ _ (by omega) hLn (by rw [l1];omega),Option.bind_some]
    rcases put_cases hG hSI1 (2048 * qb) 32768 2 (by omega) with ⟨h2,_⟩ | ⟨_,r,hr,hf,h2,_⟩ | ⟨_,_,_,_,k2,hkl2,h2,_⟩
    · exact absurd h2 (nb _ qb 2 l1 qb0 qb1 (by omega) (by omega))
    · rw [hf] at hfit;exact absurd (Option.some.inj hfit) hr
    · rw [h2,Option.bind_some]
      simp only
      generalize hs1:ldP x0 (2048 * qa) (clrP (zreps 65536 0) (2048 * qa) 32768) 0=S1 at *
      have l2:(ldP x0 (2048 * qb) (clrP S1 (2048 * qb) 32768) 0).length=65536:=by rw [ldP_len,clrP_len,l1]
      have hSI2:SI (ldP x0 (2048 * qb) (clrP S1 (2048 * qb) 32768) 0) k2:=⟨by rw [hkl2];exact hSI1.1,by rw [hkl2];exact hSI1.2.1,by rw [hkl2,l2,← l1];exact hSI1.2.2⟩
      rw [bytesW n hSI2 _ _ (by omega) hLn (by rw [l2];omega),Option.bind_some]
      have hent:=hV.ent
      have c1:=cut_len (s:=S1) (a:=2048 * qa) (y:=(gt x0.Segments 0).Len) (by omega) hLn (by omega)
      have c2:=cut_len (s:=ldP x0 (2048 * qb) (clrP S1 (2048 * qb) 32768) 0) (a:=2048 * qb) (y:=(gt x0.Segments 0).Len) (by omega) hLn (by omega)
      rw [wid (n:=2048 * qb+x0.Entry - 2048 * qb) (by omega),wid (n:=2048 * qa+x0.Entry - 2048 * qa) (by omega)]
      have ee:2048 * qb+x0.Entry - 2048 * qb=2048 * qa+x0.Entry - 2048 * qa:=by omega
      rw [ee,c1,c2]
      simp only [bne_self_eq_false,Bool.false_eq_true,if_false,cond_false]
      obtain ⟨L,hL⟩:∃ L:Nat,(gt x0.Segments 0).Len=(L:Int):=⟨(gt x0.Segments 0).Len.toNat,by omega⟩
      have hml:=moves_loop hG hV (gt x0.Segments 0).Parent (gt x0.Segments 0).Origin (gt x0.Segments 0).From L (cut S1 (2048 * qa) (gt x0.Segments 0).Len) (cut (ldP x0 (2048 * qb) (clrP S1 (2048 * qb) 32768) 0) (2048 * qb) (gt x0.Segments 0).Len) (by omega) (by omega) (by omega) (fun i hi hu=>by
        have hi':(i:Int) < (gt x0.Segments 0).Len:=by omega
        rw [moves_bytes hG hV (by omega) (by omega) (s:=clrP S1 (2048 * qb) 32768) (by rw [clrP_len];omega) hi' hu]
        rw [← hs1]
        exact moves_bytes hG hV (by omega) (by omega) (s:=clrP (zreps 65536 0) (2048 * qa) 32768) (by rw [clrP_len];omega) hi' hu)
      rw [← hL] at hml
      rw [hml,Option.bind_some]
      rfl
end Go.Proofs.Ytcbcdjincgclaaa
