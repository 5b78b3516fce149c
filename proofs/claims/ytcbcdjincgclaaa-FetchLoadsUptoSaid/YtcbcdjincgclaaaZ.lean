/- Text. -/
import Derived.Test.YtcbcdjincgclaaaU
import Derived.Test.YtcbcdjincgclaaaFL
set_option linter.unusedSimpArgs false
set_option linter.unusedVariables false
set_option maxHeartbeats 1000000
set_option linter.unusedVariables false
set_option linter.unusedSimpArgs false
set_option maxRecDepth 100000
namespace Go.Proofs.Ytcbcdjincgclaaa
open Go.AE
theorem keyE (k:Int) (h1:1≤k) (h2:k≤15):IntKind.wrap .i64 (((BitVec.ofInt (IntKind.bits .i64) (IntKind.wrap .i64 (k * 2 ^ min 1 (IntKind.bits .i64))) ||| BitVec.ofInt (IntKind.bits .i64) 1).toNat:Int))=IntKind.wrap .i64 ((IntKind.wrap .i64 (2 * k))+1):=by
  have:k=1∨k=2∨k=3∨k=4∨k=5∨k=6∨k=7∨k=8∨k=9∨k=10∨k=11∨k=12∨k=13∨k=14∨k=15:=by omega
  rcases this with rfl | rfl | rfl | rfl | rfl | rfl | rfl | rfl | rfl | rfl | rfl | rfl | rfl | rfl | rfl <;> decide
theorem keys_body (n:Nat) (s:List Int) (at_ size key:Int) (m:TLoad) (k:List Int) (b:Int) (h1:1≤key) (h2:key≤15):fetch_Put_M1_b2 n s at_ size key m k b=ref33_Put_M1_b2 n s at_ size key m k b:=by
  unfold fetch_Put_M1_b2 ref33_Put_M1_b2
  rw [keyE key h1 h2]
  rfl
theorem setKey_some (n:Nat) (s k:List Int) (h:SI s k) (b key:Int):∃ r,ref07_Store__SetKey_M1 n s k b key=some r∧r.2.length=k.length:=by
  obtain ⟨h1,h2,h3⟩:=h
  unfold ref07_Store__SetKey_M1
  by_cases c:b < 0
  · rw [decide_eq_true c];exact ⟨_,rfl,rfl⟩
  · simp only [decide_eq_false c,cond_false,Bool.not_false,and_self,gd_t]
    by_cases c2:b ≥ (s.length:Int)∨key < 0∨key > 31
    · have e:(if (if (decide (b ≥ ((s.length:Nat):Int)))=true then true else (decide (key < 0)))=true then true else (decide (key > 31)))=true:=by
        rw [ite_tt,ite_tt];simp only [Bool.or_eq_true,decide_eq_true_eq];omega
      simp only [e,cond_true]
      exact ⟨_,rfl,rfl⟩
    · have e:(if (if (decide (b ≥ ((s.length:Nat):Int)))=true then true else (decide (key < 0)))=true then true else (decide (key > 31)))=false:=by
        rw [ite_tt,ite_tt];simp only [Bool.or_eq_false_iff,decide_eq_false_iff_not];omega
      simp only [e,cond_false]
      have ht:=tdiv_in (i:=b) (K:=k.length) (by omega) (by omega) h2
      rw [gd_pos _ ⟨ht,by omega⟩]
      exact ⟨_,rfl,by simp⟩
theorem keys_loop (n:Nat) (hn:4194304≤n) (s k:List Int) (h:SI s k) (at_ size key:Int) (m:TLoad) (a0:0≤at_) (a1:0≤size) (a2:at_+size≤s.length):∃ k',loopF (fun (x:(List Int)×Int)=>ref33_Put_M1_b2 n s at_ size key m x.1 x.2) n (k,at_)=some k'∧k'.length=k.length:=by
  have hl:s.length≤65536:=by obtain ⟨h1,h2,h3⟩:=h;omega
  refine loopF_inv (fun x=>x.1.length=k.length∧at_≤x.2) (fun x=>(at_+size - x.2).toNat) (fun (y:List Int)=>y.length=k.length) (fun x hx=>?_) n (k,at_) ⟨rfl,by simp⟩ (by simp only;omega)
  obtain ⟨k',b⟩:=x
  simp only at hx ⊢
  by_cases c:b < at_+size
  · obtain ⟨r,hr,hrl⟩:=setKey_some n s k' ⟨by rw [hx.1];exact h.1,by rw [hx.1];exact h.2.1,by rw [hx.1];exact h.2.2⟩ b (IntKind.wrap .i64 ((IntKind.wrap .i64 (2 * key))+1))
    refine .inl ⟨(r.2,b+2048),?_,⟨by simp only;omega,by simp only;omega⟩,by simp only;omega⟩
    unfold ref33_Put_M1_b2
    rw [wid (n:=at_+size) (by omega),decide_eq_true c,cond_true,hr,Option.bind_some,gd_pos _ hrl,wid (n:=b+2048) (by omega)]
  · refine .inr ⟨k',?_,hx.1⟩
    unfold ref33_Put_M1_b2
    rw [wid (n:=at_+size) (by omega),decide_eq_false c,cond_false]
theorem tmodB (q:Int):Int.tmod (2048 * q) 2048=0:=Int.mul_tmod_right 2048 q
def Bad (L:Nat) (at_ size key:Int):Prop:=at_ < 0∨size < 1∨Int.tmod at_ 2048≠0∨Int.tmod size 2048≠0∨size > (L:Int) - at_∨key < 1∨key > 15
theorem beq_f {x y:Int} (h:x≠y):(x == y)=false:=by simpa using h
theorem bne_t {x y:Int} (h:x≠y):(x != y)=true:=by simpa using h
theorem put_cases {n:Nat} {m:TLoad} (hG:Good n m) {s k:List Int} (h:SI s k) (at_ size key:Int) (hat:at_ < 9223372036854775808) :
    (Bad s.length at_ size key∧fetch_Put_M1 n s k m at_ size key=some (0,1,s,k)∧ref33_Put_M1 n s k s.length m at_ size key=some (0,1,s,k)) ∨
    (¬ Bad s.length at_ size key∧∃ r,r≠0∧fetch_Fit n m size=some r∧fetch_Put_M1 n s k m at_ size key=some (0,r,s,k)∧ref33_Put_M1 n s k s.length m at_ size key=some (0,r,s,k)) ∨
    (¬ Bad s.length at_ size key∧fetch_Fit n m size=some 0∧Valid n m∧(∃ z,fetch_Size n m=some z∧z≤size)∧∃ k',k'.length=k.length∧loopF (fun (x:(List Int)×Int)=>ref33_Put_M1_b2 n (clrP s at_ size) at_ size key m x.1 x.2) n (k,at_)=some k'∧fetch_Put_M1 n s k m at_ size key=some (at_+m.Entry,0,ldP m at_ (clrP s at_ size) 0,k')∧ref33_Put_M1 n s k s.length m at_ size key=some (at_+m.Entry,0,ldP m at_ (clrP s at_ size) 0,k')):=by
  have hn:=hG.hn
  have hl:s.length≤65536:=by obtain ⟨h1,h2,h3⟩:=h;omega
  by_cases hB:Bad s.length at_ size key
  · refine .inl ⟨hB,?_,?_⟩
    · unfold fetch_Put_M1
      by_cases c:at_ < 0∨size < 1∨Int.tmod at_ 2048≠0∨Int.tmod size 2048≠0
      · have e:(if (if (if (decide (at_ < 0))=true then true else (decide (size < 1)))=true then true else ((Int.tmod at_ 2048) != 0))=true then true else ((Int.tmod size 2048) != 0))=true:=by
          rw [ite_tt,ite_tt,ite_tt];simp only [Bool.or_eq_true,decide_eq_true_eq,bne_iff_ne];omega
        rw [e];rfl
      · have e:(if (if (if (decide (at_ < 0))=true then true else (decide (size < 1)))=true then true else ((Int.tmod at_ 2048) != 0))=true then true else ((Int.tmod size 2048) != 0))=false:=by
          rw [ite_tt,ite_tt,ite_tt];simp only [Bool.or_eq_false_iff,decide_eq_false_iff_not,bne_eq_false_iff_eq];omega
        have e2:(if (if (decide (size > (IntKind.wrap .i64 ((s.length:Int) - at_))))=true then true else (decide (key < 1)))=true then true else (decide (key > 15)))=true:=by
          rw [ite_tt,ite_tt,w64_id (by omega) (by omega)];simp only [Bool.or_eq_true,decide_eq_true_eq]
          unfold Bad at hB
          omega
        simp only [e,cond_false,Bool.not_false,gd_t,store_Store__Size_M1,Option.bind_some,e2,cond_true]
    · unfold ref33_Put_M1
      have e:(if (if (if (if (if (if (if ((Int.tmod at_ 2048) != 0)=true then true else ((Int.tmod size 2048) != 0))=true then true else (decide (at_ < 0)))=true then true else (decide (size < 1)))=true then true else (decide (at_ > (s.length:Int))))=true then true else (decide (size > (IntKind.wrap .i64 ((s.length:Int) - at_)))))=true then true else (decide (key < 1)))=true then true else (decide (key > 15)))=true:=by
        rw [ite_tt,ite_tt,ite_tt,ite_tt,ite_tt,ite_tt,ite_tt]
        simp only [Bool.or_eq_true,decide_eq_true_eq,bne_iff_ne]
        unfold Bad at hB
        by_cases c:at_ < 0
        · omega
        · rw [w64_id (by omega) (by omega)];omega
      rw [e];rfl
  · have hB':=hB
    unfold Bad at hB
    have ew1:(if (if (if (decide (at_ < 0))=true then true else (decide (size < 1)))=true then true else ((Int.tmod at_ 2048) != 0))=true then true else ((Int.tmod size 2048) != 0))=false:=by
      rw [ite_tt,ite_tt,ite_tt];simp only [Bool.or_eq_false_iff,decide_eq_false_iff_not,bne_eq_false_iff_eq];omega
    have ew2:(if (if (decide (size > (IntKind.wrap .i64 ((s.length:Int) - at_))))=true then true else (decide (key < 1)))=true then true else (decide (key > 15)))=false:=by
      rw [ite_tt,ite_tt,w64_id (by omega) (by omega)];simp only [Bool.or_eq_false_iff,decide_eq_false_iff_not];omega
    have er:(if (if (if (if (if (if (if ((Int.tmod at_ 2048) != 0)=true then true else ((Int.tmod size 2048) != 0))=true then true else (decide (at_ < 0)))=true then true else (decide (size < 1)))=true then true else (decide (at_ > (s.length:Int))))=true then true else (decide (size > (IntKind.wrap .i64 ((s.length:Int) - at_)))))=true then true else (decide (key < 1)))=true then true else (decide (key > 15)))=false:=by
      rw [ite_tt,ite_tt,ite_tt,ite_tt,ite_tt,ite_tt,ite_tt,w64_id (by omega) (by omega)]
      simp only [Bool.or_eq_false_iff,decide_eq_false_iff_not,bne_eq_false_iff_eq]
      omega
    obtain ⟨r,f1,f2⟩:=fit_eq n m size hG.hS hG.hT hG.hR (by omega)
    by_cases hr:r=0
    · subst hr
      refine .inr (.inr ⟨hB',f1,?_⟩)
      have hc:module_CheckLoad n m=some 0:=by
        obtain ⟨b,b1,b2⟩:=check_eq n m hG.hS hG.hT hG.hR (by omega)
        cases b with
        | true=>exact b1
        | false =>
          simp only [Bool.false_eq_true,if_false] at b1
          unfold fetch_Fit at f1
          rw [b1] at f1
          exact absurd (Option.some.inj f1) (by decide)
      have hV:=valid_of hG hc
      obtain ⟨z,z1,z2,z3,z4,z5⟩:=size_ge hG hV
      have hz:z≤size:=by
        unfold fetch_Fit at f1
        rw [hc,Option.bind_some] at f1
        simp only [bne_self_eq_false,cond_false] at f1
        rw [z1,Option.bind_some] at f1
        by_cases c:z > size
        · rw [decide_eq_true c] at f1;exact absurd (Option.some.inj f1) (by decide)
        · omega
      obtain ⟨k',hk',hkl⟩:=keys_loop n hn (clrP s at_ size) k ⟨h.1,h.2.1,by rw [clrP_len];exact h.2.2⟩ at_ size key m (by omega) (by omega) (by rw [clrP_len];omega)
      refine ⟨hV,⟨z,z1,hz⟩,k',hkl,hk',?_,?_⟩
      · unfold fetch_Put_M1
        simp only [ew1,cond_false,Bool.not_false,gd_t,store_Store__Size_M1,Option.bind_some,ew2,f1,bne_self_eq_false,clrW n h at_ size (by omega) (by omega) (by omega)]
        rw [gd_pos _ clrP_len]
        have e:(fun (x:(List Int)×Int)=>fetch_Put_M1_b2 n (clrP s at_ size) at_ size key m x.1 x.2)=fun (x:(List Int)×Int)=>ref33_Put_M1_b2 n (clrP s at_ size) at_ size key m x.1 x.2:=by
          funext x;exact keys_body n _ at_ size key m x.1 x.2 (by omega) (by omega)
        rw [e,hk',Option.bind_some]
        unfold fetch_Put_M1_k1
        rw [loaderW hG hV (by omega) (by omega),Option.bind_some]
        simp only
        rw [loadW hG hV (by omega) (by omega) (s:=clrP s at_ size) (k:=k') ⟨by rw [hkl];exact h.1,by rw [hkl];exact h.2.1,by rw [hkl,clrP_len];exact h.2.2⟩ (i:=0) (by omega) (by have:=hV.s1;omega),Option.bind_some]
        have he:=hV.ent
        have ho:=hV.o (i:=0) (by omega) (by have:=hV.s1;omega)
        have e0:(0:Int).toNat=0:=rfl
        rw [e0] at ho
        rw [wid (by omega)]
      · unfold ref33_Put_M1
        simp only [er,cond_false,Option.bind_some,f2,bne_self_eq_false,clrR n (by omega) h at_ size (by omega) (by omega) (by omega),hk']
        unfold ref33_Put_M1_k1
        rw [loadR hG hV (by omega) (by omega) (s:=clrP s at_ size) (k:=k') ⟨by rw [hkl];exact h.1,by rw [hkl];exact h.2.1,by rw [hkl,clrP_len];exact h.2.2⟩ (i:=0) (by omega) (by have:=hV.s1;omega),Option.bind_some]
        have he:=hV.ent
        have ho:=hV.o (i:=0) (by omega) (by have:=hV.s1;omega)
        have e0:(0:Int).toNat=0:=rfl
        rw [e0] at ho
        rw [wid (by omega)]
    · refine .inr (.inl ⟨hB',r,hr,f1,?_,?_⟩)
      · unfold fetch_Put_M1
        simp only [ew1,cond_false,Bool.not_false,gd_t,store_Store__Size_M1,Option.bind_some,ew2,f1,bne_t hr,cond_true]
      · unfold ref33_Put_M1
        simp only [er,cond_false,Option.bind_some,f2,bne_t hr,cond_true]
end Go.Proofs.Ytcbcdjincgclaaa
/-
  ch. 33: what is loaded, in plain lists.
-/
set_option maxHeartbeats 1000000
set_option linter.unusedVariables false
set_option linter.unusedSimpArgs false
set_option maxRecDepth 100000
namespace Go.Proofs.Ytcbcdjincgclaaa
open Go.AE
def ov (m:TLoad) (k f:Int):Bool:=decide (0 < (gt m.Segments k.toNat).Len∧0 < (gt m.Segments f.toNat).Len∧(gt m.Segments k.toNat).Origin < (gt m.Segments f.toNat).Origin+(gt m.Segments f.toNat).Len∧(gt m.Segments f.toNat).Origin < (gt m.Segments k.toNat).Origin+(gt m.Segments k.toNat).Len)
theorem ov_comm (m:TLoad) (k f:Int):ov m k f=ov m f k:=by
  unfold ov
  rw [Bool.eq_iff_iff,decide_eq_true_eq,decide_eq_true_eq]
  omega
theorem wrap_eq (x:Int) (h:0≤x∧x≤131072):RowKit.wrap64 x=x:=by
  simp only [RowKit.wrap64];omega
section
variable {n:Nat} {m:TLoad} (hV:Valid n m)
include hV
theorem delM_ov {k f:Int} (k0:0≤k) (k1:k < m.Segments.length) (f0:0≤f) (f1:f < m.Segments.length):delM m.Segments (gt m.Segments f.toNat).Origin (gt m.Segments f.toNat).Len k=ov m k f:=by
  obtain ⟨a1,a2,a3,a4,a5,a6,a7⟩:=hV.o k0 k1
  obtain ⟨b1,b2,b3,b4,b5,b6,b7⟩:=hV.o f0 f1
  unfold delM ov
  rw [wrap_eq _ (by omega),wrap_eq _ (by omega),Bool.eq_iff_iff,decide_eq_true_eq,decide_eq_true_eq]
  omega
theorem share_ov {k f:Int} (k0:0≤k) (k1:k < m.Segments.length) (f0:0≤f) (f1:f < m.Segments.length):ref33_share n (gt m.Segments k.toNat) (gt m.Segments f.toNat)=some (ov m k f):=by
  obtain ⟨a1,a2,a3,a4,a5,a6,a7⟩:=hV.o k0 k1
  obtain ⟨b1,b2,b3,b4,b5,b6,b7⟩:=hV.o f0 f1
  unfold ref33_share ov
  rw [ite_ff,ite_ff,ite_ff,wid (by omega),wid (by omega)]
  congr 1
  rw [Bool.eq_iff_iff]
  simp only [Bool.and_eq_true,decide_eq_true_eq]
  omega
theorem path_inv:∀ (c:Nat) (x:Int),-1≤x→x < (m.Segments.length:Int)→(∀ y∈pathM m c x,0≤y∧y≤x∧(y=x∨(gt m.Segments y.toNat).Origin+(gt m.Segments y.toNat).Len≤(gt m.Segments x.toNat).Origin))∧(pathM m c x).Pairwise (fun y z=>y < z∧(gt m.Segments y.toNat).Origin+(gt m.Segments y.toNat).Len≤(gt m.Segments z.toNat).Origin)
  | 0,x,_,_=>⟨by simp [pathM],by simp [pathM]⟩
  | c+1,x,h0,h1=>by
    unfold pathM
    by_cases hx:x < 0
    · rw [if_pos hx];simp
    · rw [if_neg hx]
      have hp:=par_ok hV.ok (x:=x) (by omega) h1
      obtain ⟨i1,i2⟩:=path_inv c (gt m.Segments (Int.toNat x)).Parent hp.1 (by omega)
      have hle:∀ y∈pathM m c (gt m.Segments (Int.toNat x)).Parent,0≤y∧y < x∧(gt m.Segments y.toNat).Origin+(gt m.Segments y.toNat).Len≤(gt m.Segments x.toNat).Origin:=by
        intro y hy
        obtain ⟨y0,y1,y2⟩:=i1 y hy
        have hx0:0 < x.toNat:=by
          by_cases e:x.toNat=0
          · have:=(hV.ok x.toNat (by omega)).2.2.2.2.2.2.2.1 e
            omega
          · omega
        have hX:=(hV.x x.toNat (by omega)).2 hx0
        have hpo:=hV.o (i:=(gt m.Segments (Int.toNat x)).Parent) (by omega) (by omega)
        refine ⟨y0,by omega,?_⟩
        rcases y2 with e | e
        · rw [e];exact hX
        · omega
      refine ⟨fun y hy=>?_,?_⟩
      · rcases List.mem_append.1 hy with hy | hy
        · obtain ⟨y0,y1,y2⟩:=hle y hy
          exact ⟨y0,by omega,.inr y2⟩
        · rw [List.mem_singleton] at hy
          subst hy
          exact ⟨by omega,by omega,.inl rfl⟩
      · rw [List.pairwise_append]
        refine ⟨i2,by simp,fun y hy z hz=>?_⟩
        rw [List.mem_singleton] at hz
        subst hz
        obtain ⟨y0,y1,y2⟩:=hle y hy
        exact ⟨y1,y2⟩
end
structure PathOk (m:TLoad) (P:List Int):Prop where
  rng:∀ y∈P,0≤y∧y < (m.Segments.length:Int)
  apart:P.Pairwise (fun y z=>y < z∧ov m y z=false)
theorem pathOk {n:Nat} {m:TLoad} (hV:Valid n m) (c:Nat) (x:Int) (h0:-1≤x) (h1:x < (m.Segments.length:Int)):PathOk m (pathM m c x):=by
  obtain ⟨i1,i2⟩:=path_inv hV c x h0 h1
  refine ⟨fun y hy=>by have:=i1 y hy;omega,i2.imp (fun {y z} h=>⟨h.1,?_⟩)⟩
  unfold ov
  exact decide_eq_false (by omega)
theorem PathOk.ne {m:TLoad} {P:List Int} (h:PathOk m P):∀ y∈P,∀ z∈P,y≠z→ov m y z=false:=by
  obtain ⟨hr,h⟩:=h
  clear hr
  induction P with
  | nil=>intro y hy;simp at hy
  | cons a P ih =>
    rw [List.pairwise_cons] at h
    intro y hy z hz hne
    rcases List.mem_cons.1 hy with e1 | hy'
    · rcases List.mem_cons.1 hz with e2 | hz'
      · exact absurd (e1.trans e2.symm) hne
      · rw [e1];exact (h.1 z hz').2
    · rcases List.mem_cons.1 hz with e2 | hz'
      · rw [ov_comm,e2];exact (h.1 y hy').2
      · exact ih h.2 y hy' z hz' hne
structure NowOk (m:TLoad) (now:List (Int×Bool)):Prop where
  nd:(now.map Prod.fst).Nodup
  rng:∀ x∈now,0≤x.1∧x.1 < (m.Segments.length:Int)
  tru:∀ x∈now,x.2=true
theorem NowOk.get {m:TLoad} {now:List (Int×Bool)} (h:NowOk m now) (k:Int):(tget k now).getD default=decide (k∈now.map Prod.fst):=by
  obtain ⟨h1,h2,h⟩:=h
  clear h1 h2
  induction now with
  | nil=>rfl
  | cons e now ih =>
    have ih:=ih (fun x hx=>h x (by simp [hx]))
    unfold tget
    by_cases c:k=e.1
    · subst c
      have:=h e (by simp)
      simp [this]
    · have e1:(k == e.1)=false:=by simpa using c
      rw [e1]
      simp only [Bool.false_eq_true,if_false,ih,List.map_cons,List.mem_cons,c,false_or]
theorem NowOk.set {m:TLoad} {now:List (Int×Bool)} (h:NowOk m now) {k:Int} (k0:0≤k) (k1:k < m.Segments.length):NowOk m (tset k true now):=by
  refine ⟨nodup_tset k true now h.nd,fun x hx=>?_,fun x hx=>?_⟩
  · have:x.1∈(tset k true now).map (·.1):=List.mem_map_of_mem hx
    rcases (keys_tset k true now x.1).1 this with e | e
    · omega
    · obtain ⟨y,hy,e⟩:=List.mem_map.1 e
      have:=h.rng y hy
      omega
  · have ht:=h.tru
    clear h
    induction now with
    | nil=>simp [tset] at hx;subst hx;rfl
    | cons e now ih =>
      unfold tset at hx
      split at hx
      · rcases List.mem_cons.1 hx with rfl | hx
        · rfl
        · exact ht x (by simp [hx])
      · rcases List.mem_cons.1 hx with rfl | hx
        · exact ht x (by simp)
        · exact ih hx (fun y hy=>ht y (by simp [hy]))
theorem keys_filter {now:List (Int×Bool)} (p:Int→Bool) (k:Int):k∈(now.filter (fun x=>p x.1)).map Prod.fst↔k∈now.map Prod.fst∧p k=true:=by
  simp only [List.mem_map,List.mem_filter]
  constructor
  · rintro ⟨x,⟨h1,h2⟩,rfl⟩;exact ⟨⟨x,h1,rfl⟩,h2⟩
  · rintro ⟨⟨x,h1,rfl⟩,h2⟩;exact ⟨x,⟨h1,h2⟩,rfl⟩
theorem NowOk.filter {m:TLoad} {now:List (Int×Bool)} (h:NowOk m now) (p:(Int×Bool)→Bool):NowOk m (now.filter p) :=
  ⟨(List.Sublist.map Prod.fst List.filter_sublist).nodup h.nd,fun x hx=>h.rng x (List.mem_filter.1 hx).1,fun x hx=>h.tru x (List.mem_filter.1 hx).1⟩
def ascOf (q:Nat→Bool) (k:Nat):List Int:=((List.range k).filter q).map (fun i:Nat=>(i:Int))
theorem ascOf_succ (q:Nat→Bool) (k:Nat):ascOf q (k+1)=if q k=true then ascOf q k ++ [(k:Int)] else ascOf q k:=by
  unfold ascOf
  rw [List.range_succ,List.filter_append,List.map_append]
  cases h:q k <;> simp [h]
theorem ascOf_len (q:Nat→Bool) (k:Nat):(ascOf q k).length≤k:=by
  unfold ascOf
  rw [List.length_map]
  exact Nat.le_trans (List.length_filter_le _ _) (by simp)
theorem mem_ascOf {q:Nat→Bool} {k:Nat} {x:Int}:x∈ascOf q k↔0≤x∧x < (k:Int)∧q x.toNat=true:=by
  unfold ascOf
  simp only [List.mem_map,List.mem_filter,List.mem_range]
  constructor
  · rintro ⟨i,⟨h1,h2⟩,rfl⟩
    refine ⟨by omega,by omega,by simpa using h2⟩
  · rintro ⟨h1,h2,h3⟩
    exact ⟨x.toNat,⟨by omega,h3⟩,by omega⟩
theorem ascOf_lt (q:Nat→Bool) (k:Nat):(ascOf q k).Pairwise (fun a b=>a < b):=by
  unfold ascOf
  rw [List.pairwise_map]
  refine List.Pairwise.filter _ (List.Pairwise.imp ?_ List.pairwise_lt_range)
  intro a b h
  omega
theorem keys_perm {now:List (Int×Bool)} {m:TLoad} (h:NowOk m now) (q:Nat→Bool) (hq:∀ x:Int,0≤x→x < m.Segments.length→(x∈now.map Prod.fst↔q x.toNat=true)):(now.map Prod.fst).Perm (ascOf q m.Segments.length):=by
  have ha:=ascOf_lt q m.Segments.length
  refine (List.perm_ext_iff_of_nodup h.nd (ha.imp (fun {a b} h=>by omega))).2 (fun x=>?_)
  rw [mem_ascOf]
  constructor
  · intro hx
    obtain ⟨y,hy,rfl⟩:=List.mem_map.1 hx
    have:=h.rng y hy
    exact ⟨this.1,this.2,(hq y.1 this.1 this.2).1 hx⟩
  · rintro ⟨h1,h2,h3⟩
    exact (hq x h1 h2).2 h3
theorem NowOk.len {m:TLoad} {now:List (Int×Bool)} (h:NowOk m now):now.length≤m.Segments.length:=by
  have h1:=(keys_perm h (fun i=>decide ((i:Int)∈now.map Prod.fst)) (fun x h0 h1=>by
    have e:((x.toNat:Nat):Int)=x:=by omega
    rw [decide_eq_true_eq,e])).length_eq
  rw [List.length_map] at h1
  rw [h1]
  exact ascOf_len _ _
theorem sort_asc {now:List (Int×Bool)} {m:TLoad} (h:NowOk m now) (q:Nat→Bool) (hq:∀ x:Int,0≤x→x < m.Segments.length→(x∈now.map Prod.fst↔q x.toNat=true)) :
    (now.map Prod.fst).mergeSort (fun x y=>decide (x≤y))=ascOf q m.Segments.length:=by
  have hs:=List.pairwise_mergeSort (le:=fun x y:Int=>decide (x≤y)) (fun a b c h1 h2=>by simp only [decide_eq_true_eq] at h1 h2 ⊢;omega) (fun a b=>by simp only [Bool.or_eq_true,decide_eq_true_eq];omega) (now.map Prod.fst)
  have ha:=ascOf_lt q m.Segments.length
  have hp:=keys_perm h q hq
  refine List.Perm.eq_of_pairwise (le:=fun x y:Int=>x≤y) (fun a b _ _ h1 h2=>by omega) ?_ (ha.imp (fun {a b} h=>by omega)) ((List.mergeSort_perm _ _).trans hp)
  exact hs.imp (fun {a b} h=>by simpa using h)
end Go.Proofs.Ytcbcdjincgclaaa
/-
  ch. 33: Segment, the program's and the specification's, in plain lists.
-/
set_option maxHeartbeats 1000000
set_option linter.unusedVariables false
set_option linter.unusedSimpArgs false
set_option maxRecDepth 100000
namespace Go.Proofs.Ytcbcdjincgclaaa
open Go.AE
theorem mem_take_succ {l:List Int} {j:Nat} (h:j < l.length) (x:Int):x∈l.take (j+1)↔x∈l.take j∨x=gt l j:=by
  rw [List.take_succ_eq_append_getElem h,List.mem_append,List.mem_singleton,gt_lt h]
theorem in_val (n:Nat) (l:List Int) (x:Int) (hl:l.length≤2097154) (hn:4194304≤n):ref33_in n l x=some (decide (x∈l)):=by
  have h:=loop_any (body:=fun (y:Int)=>ref33_in_b2 n l x y) l (fun y=>y == x) (.inl true) (.inr ()) (fun k hk=>by
    have e1:decide ((k:Int) < (l.length:Int))=true:=by simp;omega
    simp only [ref33_in_b2,e1,cond_true,Int.toNat_natCast,gt_lt hk]
    rw [gd_pos _ (by omega),wid (by omega)]
    cases (l[k] == x) <;> simp) (by
    have e1:decide ((l.length:Int) < (l.length:Int))=false:=by simp
    simp only [ref33_in_b2,e1,cond_false]) (n:=n) (by omega)
  unfold ref33_in
  rw [h]
  have e:l.any (fun y=>y == x)=decide (x∈l):=by
    rw [Bool.eq_iff_iff,List.any_eq_true,decide_eq_true_eq]
    constructor
    · rintro ⟨y,h1,h2⟩
      have:y=x:=by simpa using h2
      rw [← this];exact h1
    · intro h;exact ⟨x,h,by simp⟩
  rw [e]
  cases decide (x∈l) <;> rfl
def oob (m:TLoad) (x:Int):Bool:=decide (x < 0∨x ≥ (m.Segments.length:Int))
theorem oob_w (n:Nat) (x:Int) (m:TLoad):fetch_Segment_1_M1 n x m.Text m.Relocs m.Segments m.Entry=some (oob m x):=by
  unfold fetch_Segment_1_M1 oob
  rw [ite_tt]
  congr 1
  rw [Bool.eq_iff_iff,Bool.or_eq_true,decide_eq_true_eq,decide_eq_true_eq,decide_eq_true_eq]
theorem oob_list (n:Nat) (l:List Int) (m:TLoad) (hl:l.length≤2097154) (hn:4194304≤n):slices_ContainsFunc_f42_M1 n l m.Text m.Relocs m.Segments m.Entry=some (l.any (oob m)):=by
  have h:∀ (l':List Int) (k0:Nat),∃ y,runL (fun (k:Nat) s=>if oob m s then (.inr (.inl (k:Int)):Nat ⊕ (Int ⊕ Unit)) else .inl (k+1)) (fun _=>.inr ()) l' k0=y∧((l'.any (oob m)=true∧∃ j:Nat,y = .inl (j:Int))∨(l'.any (oob m)=false∧y = .inr ())):=by
    intro l'
    induction l' with
    | nil=>intro k;exact ⟨_,rfl,.inr ⟨rfl,rfl⟩⟩
    | cons s b ih =>
      intro k
      simp only [runL,List.any_cons]
      cases h:oob m s
      · simp only [Bool.false_eq_true,if_false,Bool.false_or]
        exact ih (k+1)
      · simp only [if_true,Bool.true_or]
        exact ⟨_,rfl,.inl ⟨trivial,k,rfl⟩⟩
  have hb:=loop_list (σ:=Nat) (body:=fun (x:Int)=>slices_IndexFunc_f63_M1_b2 n m.Text m.Relocs m.Segments m.Entry l (l.length:Int) x) l (fun k _=>(k:Int))
    (fun (k:Nat) s=>if oob m s then (.inr (.inl (k:Int)):Nat ⊕ (Int ⊕ Unit)) else .inl (k+1)) (fun _=>.inr ()) (fun k s=>s=k) (s:=0) rfl
    (fun k hk s hs=>by
      subst hs
      have h1:decide ((s:Int) < (l.length:Int))=true:=by simp;omega
      simp only [slices_IndexFunc_f63_M1_b2,oob_w,h1,bif_ite,if_true,gd_pos _ (show (0:Int)≤(s:Int)∧(s:Int) < (l.length:Int) by omega),Option.bind_some,Int.toNat_natCast,gt_lt hk]
      rw [wid (n:=(s:Int)+1) (by omega)]
      cases oob m l[s] <;> simp)
    (fun k hk s hs s' h=>by
      subst hs
      cases hi:oob m l[s] <;> rw [hi] at h <;> simp at h
      exact h.symm)
    (fun s _=>by simp [slices_IndexFunc_f63_M1_b2,bif_ite]) (n:=n) (by omega)
  obtain ⟨y,hy,hc⟩:=h l 0
  rw [hy] at hb
  simp only [slices_ContainsFunc_f42_M1,slices_IndexFunc_f63_M1,slices_IndexFunc_f63_M1_k1]
  have h':loopF (fun (x:Int)=>slices_IndexFunc_f63_M1_b2 n m.Text m.Relocs m.Segments m.Entry l (l.length:Int) x) n 0=some y:=hb
  rw [h']
  rcases hc with ⟨e,j,rfl⟩ | ⟨e,rfl⟩
  · rw [e]
    simp only [Option.bind_some]
    have:decide ((j:Int) ≥ 0)=true:=by simp
    rw [this]
  · rw [e];rfl
theorem oob_ref (n:Nat) (s k l:List Int) (a x:Int) (m:TLoad) (hl:l.length≤2097154) (hn:4194304≤n):loopF (fun (y:Int)=>ref33_Segment_M1_b10 n s k a l x m y) n 0=some (if l.any (oob m) then .inl ([],1) else .inr ()) :=
  loop_any (body:=fun (y:Int)=>ref33_Segment_M1_b10 n s k a l x m y) l (oob m) (.inl ([],1)) (.inr ()) (fun j hj=>by
    have e1:decide ((j:Int) < (l.length:Int))=true:=by simp;omega
    have e2:(if (decide ((gt l j) < 0))=true then true else (decide ((gt l j) ≥ (m.Segments.length:Int))))=oob m l[j]:=by
      rw [ite_tt,gt_lt hj]
      unfold oob
      rw [Bool.eq_iff_iff,Bool.or_eq_true,decide_eq_true_eq,decide_eq_true_eq,decide_eq_true_eq]
    simp only [ref33_Segment_M1_b10,e1,cond_true,Int.toNat_natCast,e2]
    rw [gd_pos _ ⟨by omega,fun _=>by omega⟩,wid (by omega)]
    cases oob m l[j] <;> simp) (by
    have e1:decide ((l.length:Int) < (l.length:Int))=false:=by simp
    simp only [ref33_Segment_M1_b10,e1,cond_false]) (by omega)
theorem now_loop {n:Nat} {m:TLoad} (s k:List Int) (a x:Int) (l:List Int) (hl:l.length≤2097154) (hn:4194304≤n) (ho:∀ y∈l,0≤y∧y < (m.Segments.length:Int)):∃ now,loopF (fun (y:(List (Int×Bool))×Int)=>fetch_Segment_M1_b5 n s k a x m l (l.length:Int) y.1 y.2) n ([],0)=some now∧NowOk m now∧∀ y,y∈now.map Prod.fst↔y∈l:=by
  refine loopF_inv (fun y=>∃ j:Nat,y.2=(j:Int)∧j≤l.length∧NowOk m y.1∧∀ z,z∈y.1.map Prod.fst↔z∈l.take j) (fun y=>l.length - y.2.toNat) (fun now=>NowOk m now∧∀ y,y∈now.map Prod.fst↔y∈l) (fun y hy=>?_) n ([],0) ⟨0,rfl,by omega,⟨by simp,by simp,by simp⟩,by simp⟩ (by simp only;omega)
  obtain ⟨now,j'⟩:=y
  obtain ⟨j,e,hj,h1,h2⟩:=hy
  simp only at e h1 h2 ⊢
  subst e
  by_cases c:(j:Int) < (l.length:Int)
  · have hjl:j < l.length:=by omega
    have hg:=ho (gt l j) (by rw [gt_lt hjl];exact List.getElem_mem hjl)
    refine .inl ⟨(tset (gt l j) true now,(j:Int)+1),?_,⟨j+1,by simp,by omega,h1.set hg.1 hg.2,fun z=>?_⟩,by simp only;omega⟩
    · unfold fetch_Segment_M1_b5
      rw [decide_eq_true c,cond_true,gd_pos _ (by omega),Int.toNat_natCast,wid (by omega)]
    · rw [keys_tset (gt l j) true now z,mem_take_succ hjl,← h2 z]
      exact Or.comm
  · refine .inr ⟨now,?_,h1,fun z=>?_⟩
    · unfold fetch_Segment_M1_b5
      rw [decide_eq_false c,cond_false]
    · rw [h2 z,List.take_of_length_le (by omega)]
theorem pathW {n:Nat} {m:TLoad} (hG:Good n m) (hV:Valid n m) {x:Int} (x0:0≤x) (x1:x < m.Segments.length):link_Path n m x=some (pathM m n x,true):=by
  have hn:=hG.hn
  have hs:=hG.hS
  have:(if (if ((0:Int) != 0)=true then true else (decide (x < 0)))=true then true else (decide (x ≥ (m.Segments.length:Int))))=false:=by
    rw [decide_eq_false (show ¬ x < 0 by omega),decide_eq_false (show ¬ x ≥ (m.Segments.length:Int) by omega)];rfl
  obtain ⟨c,rfl⟩:∃ c,n=c+1:=⟨n - 1,by omega⟩
  simp only [link_Path,hV.chk,Option.bind_some,this,cond_false,walk_eq hV.ok hG.hS c x (by omega) x1 (by omega)]
theorem pathR {n:Nat} {m:TLoad} (hG:Good n m) (hV:Valid n m) {x:Int} (x0:0≤x) (x1:x < m.Segments.length):ref32_Path n m x=some (pathM m n x,true):=by
  have hn:=hG.hn
  have hs:=hG.hS
  have:(if (if (!true)=true then true else (decide (x < 0)))=true then true else (decide (x ≥ (m.Segments.length:Int))))=false:=by
    rw [decide_eq_false (show ¬ x < 0 by omega),decide_eq_false (show ¬ x ≥ (m.Segments.length:Int) by omega)];rfl
  simp only [ref32_Path,hV.chkR,Option.bind_some,this,cond_false,rpath_loop hV.ok hG.hS n n x [] (by omega) x1 (by omega) (by simp;omega),ref32_Path_k1,List.append_nil]
def freshOf (l P:List Int):List Int:=P.filter (fun g=>!decide (g∈l))
theorem freshOf_succ {l P:List Int} {j:Nat} (h:j < P.length):freshOf l (P.take (j+1))=if gt P j∈l then freshOf l (P.take j) else freshOf l (P.take j) ++ [gt P j]:=by
  unfold freshOf
  rw [List.take_succ_eq_append_getElem h,List.filter_append,gt_lt h]
  by_cases c:P[j]∈l <;> simp [c]
theorem mem_fresh {l P:List Int} {x:Int}:x∈freshOf l P↔x∈P∧¬ x∈l:=by
  unfold freshOf
  simp [List.mem_filter]
def KeepJ (m:TLoad) (l F:List Int) (now:List (Int×Bool)):Prop:=∀ k,k∈now.map Prod.fst↔(k∈l∧∀ f∈F,ov m k f=false)∨k∈F
theorem PathOk.prev {m:TLoad} {P:List Int} (h:PathOk m P) {j:Nat} (hj:j < P.length):∀ f∈P.take j,f < gt P j∧ov m f (gt P j)=false:=by
  intro f hf
  obtain ⟨i,hi,e⟩:=List.getElem_of_mem hf
  rw [List.length_take] at hi
  rw [List.getElem_take] at e
  have:=List.pairwise_iff_getElem.1 h.apart i j (by omega) hj (by omega)
  rw [gt_lt hj,← e]
  exact this
theorem keepJ_step {m:TLoad} {l P:List Int} (hP:PathOk m P) {now:List (Int×Bool)} (hN:NowOk m now) {j:Nat} (hj:j < P.length) (hK:KeepJ m l (freshOf l (P.take j)) now) :
    (gt P j∈l→gt P j∈now.map Prod.fst)∧(¬ gt P j∈l→¬ gt P j∈now.map Prod.fst∧KeepJ m l (freshOf l (P.take j) ++ [gt P j]) (tset (gt P j) true (now.filter fun x=>!ov m x.1 (gt P j)))):=by
  have hprev:=hP.prev hj
  refine ⟨fun h=>(hK _).2 (.inl ⟨h,fun f hf=>?_⟩),fun h=>⟨fun h'=>?_,fun k=>?_⟩⟩
  · rw [ov_comm];exact (hprev f (mem_fresh.1 hf).1).2
  · rcases (hK _).1 h' with ⟨h1,_⟩ | h1
    · exact h h1
    · have:=(hprev _ (mem_fresh.1 h1).1).1;omega
  · rw [keys_tset (gt P j) true _ k]
    have e:=keys_filter (now:=now) (fun k=>!ov m k (gt P j)) k
    have hk:=hK k
    constructor
    · rintro (h1 | h1)
      · right;rw [h1];simp
      · obtain ⟨h2,h3⟩:=e.1 h1
        have h3:ov m k (gt P j)=false:=by simpa using h3
        rcases hk.1 h2 with ⟨h4,h5⟩ | h4
        · left
          refine ⟨h4,fun f hf=>?_⟩
          rcases List.mem_append.1 hf with hf | hf
          · exact h5 f hf
          · rw [List.mem_singleton] at hf;rw [hf];exact h3
        · right;simp [h4]
    · rintro (⟨h1,h2⟩ | h1)
      · right
        refine e.2 ⟨hk.2 (.inl ⟨h1,fun f hf=>h2 f (by simp [hf])⟩),?_⟩
        rw [h2 (gt P j) (by simp)];rfl
      · rcases List.mem_append.1 h1 with h1 | h1
        · right
          refine e.2 ⟨hk.2 (.inr h1),?_⟩
          rw [(hprev k (mem_fresh.1 h1).1).2];rfl
        · left;simpa using h1
section
variable {n:Nat} {m:TLoad} (hG:Good n m) (hV:Valid n m) {a:Int} (a0:0≤a) (a1:a≤65536)
include hG hV a0 a1
theorem prog_loop {s k:List Int} (h:SI s k) {l P:List Int} (hP:PathOk m P) (hPl:P.length≤65536) {now:List (Int×Bool)} (hN:NowOk m now) (hK:∀ y,y∈now.map Prod.fst↔y∈l) :
    ∃ z,loopF (fun (x:(List Int)×(List (Int×Bool))×Int)=>fetch_Segment_M1_b3 n k m m.Text m.Relocs m.Segments m.Entry a (txt m a) P (P.length:Int) x.1 x.2.1 x.2.2) n (s,now,0)=some z∧z.1=(freshOf l P).foldl (ldP m a) s∧NowOk m z.2∧KeepJ m l (freshOf l P) z.2:=by
  have hn:=hG.hn
  refine loopF_inv (fun x=>∃ j:Nat,x.2.2=(j:Int)∧j≤P.length∧x.1=(freshOf l (P.take j)).foldl (ldP m a) s∧SI x.1 k∧NowOk m x.2.1∧KeepJ m l (freshOf l (P.take j)) x.2.1) (fun x=>P.length - x.2.2.toNat) (fun (z:List Int×List (Int×Bool))=>z.1=(freshOf l P).foldl (ldP m a) s∧NowOk m z.2∧KeepJ m l (freshOf l P) z.2) (fun x hx=>?_) n (s,now,0) ⟨0,rfl,by omega,rfl,h,hN,fun k=>?_⟩ (by simp only;omega)
  · obtain ⟨b,w,j'⟩:=x
    obtain ⟨j,e,hj,e1,hS,hNw,hKw⟩:=hx
    simp only at e e1 hS hNw hKw ⊢
    subst e
    by_cases c:(j:Int) < (P.length:Int)
    · have hjl:j < P.length:=by omega
      have hg:=hP.rng (gt P j) (by rw [gt_lt hjl];exact List.getElem_mem hjl)
      obtain ⟨k1,k2⟩:=keepJ_step hP hNw hjl hKw
      have hfs:=freshOf_succ (l:=l) hjl
      by_cases cl:gt P j∈l
      · rw [if_pos cl] at hfs
        refine .inl ⟨(b,w,(j:Int)+1),?_,⟨j+1,by simp,by omega,by rw [hfs];exact e1,hS,hNw,by rw [hfs];exact hKw⟩,by simp only;omega⟩
        unfold fetch_Segment_M1_b3
        rw [decide_eq_true c,cond_true,gd_pos _ (by omega),Int.toNat_natCast,hNw.get,decide_eq_true (k1 cl),cond_true]
        unfold fetch_Segment_M1_k4
        rw [wid (n:=(j:Int)+1) (by omega)]
      · rw [if_neg cl] at hfs
        obtain ⟨k3,k4⟩:=k2 cl
        have ef:w.filter (fun x=>!delM m.Segments (gt m.Segments (gt P j).toNat).Origin (gt m.Segments (gt P j).toNat).Len x.1)=w.filter (fun x=>!ov m x.1 (gt P j)):=by
          refine List.filter_congr (fun x hx=>?_)
          rw [delM_ov hV (hNw.rng x hx).1 (hNw.rng x hx).2 hg.1 hg.2]
        refine .inl ⟨(ldP m a b (gt P j),tset (gt P j) true (w.filter fun x=>!ov m x.1 (gt P j)),(j:Int)+1),?_,⟨j+1,by simp,by omega,?_,?_,(hNw.filter _).set hg.1 hg.2,by rw [hfs];exact k4⟩,by simp only;omega⟩
        · unfold fetch_Segment_M1_b3
          rw [decide_eq_true c,cond_true,gd_pos _ (by omega),Int.toNat_natCast,hNw.get,decide_eq_false k3,cond_false,loadW hG hV a0 a1 hS hg.1 hg.2,Option.bind_some,gd_pos _ hg]
          unfold maps_DeleteFunc_M
          rw [gd_pos _ ⟨hNw.rng,hNw.nd⟩,Option.bind_some,ef]
          unfold fetch_Segment_M1_k4
          rw [wid (n:=(j:Int)+1) (by omega)]
        · rw [hfs,List.foldl_append,← e1];rfl
        · exact ⟨hS.1,hS.2.1,by rw [ldP_len];exact hS.2.2⟩
    · have:P.take j=P:=List.take_of_length_le (by omega)
      rw [this] at e1 hKw
      refine .inr ⟨(b,w),?_,e1,hNw,hKw⟩
      unfold fetch_Segment_M1_b3
      rw [decide_eq_false c,cond_false]
  · rw [hK k]
    simp [freshOf]
theorem ref_loop {s k:List Int} (h:SI s k) {l P:List Int} (hl:l.length≤2097154) (hP:PathOk m P) (hPl:P.length≤65536) :
    loopF (fun (x:(List Int)×(List Int)×Int)=>ref33_Segment_M1_b8 n k a l m P x.1 x.2.1 x.2.2) n (s,[],0)=some ((freshOf l P).foldl (ldP m a) s,freshOf l P):=by
  have hn:=hG.hn
  obtain ⟨z,hz,rfl⟩:=loopF_inv (body:=fun (x:(List Int)×(List Int)×Int)=>ref33_Segment_M1_b8 n k a l m P x.1 x.2.1 x.2.2) (fun x=>∃ j:Nat,x.2.2=(j:Int)∧j≤P.length∧x.1=(freshOf l (P.take j)).foldl (ldP m a) s∧SI x.1 k∧x.2.1=freshOf l (P.take j)) (fun x=>P.length - x.2.2.toNat) (fun z=>z=((freshOf l P).foldl (ldP m a) s,freshOf l P)) (fun x hx=>by
    obtain ⟨b,w,j'⟩:=x
    obtain ⟨j,e,hj,e1,hS,hw⟩:=hx
    simp only at e e1 hS hw ⊢
    subst e
    have hfl:(freshOf l (P.take j)).length≤65536:=by
      unfold freshOf
      refine Nat.le_trans (List.length_filter_le _ _) ?_
      rw [List.length_take];omega
    by_cases c:(j:Int) < (P.length:Int)
    · have hjl:j < P.length:=by omega
      have hg:=hP.rng (gt P j) (by rw [gt_lt hjl];exact List.getElem_mem hjl)
      have hfs:=freshOf_succ (l:=l) hjl
      by_cases cl:gt P j∈l
      · rw [if_pos cl] at hfs
        refine .inl ⟨(b,w,(j:Int)+1),?_,⟨j+1,by simp,by omega,by rw [hfs];exact e1,hS,by rw [hfs];exact hw⟩,by simp only;omega⟩
        unfold ref33_Segment_M1_b8
        rw [decide_eq_true c,cond_true,gd_pos _ ⟨by omega,by omega⟩,Int.toNat_natCast,in_val n l _ hl hn,Option.bind_some,decide_eq_true cl]
        simp only [Bool.not_true,cond_false]
        unfold ref33_Segment_M1_k9
        rw [wid (n:=(j:Int)+1) (by omega)]
      · rw [if_neg cl] at hfs
        refine .inl ⟨(ldP m a b (gt P j),w ++ [gt P j],(j:Int)+1),?_,⟨j+1,by simp,by omega,?_,⟨hS.1,hS.2.1,by rw [ldP_len];exact hS.2.2⟩,by rw [hfs,hw]⟩,by simp only;omega⟩
        · unfold ref33_Segment_M1_b8
          rw [decide_eq_true c,cond_true,gd_pos _ ⟨by omega,by omega⟩,Int.toNat_natCast,in_val n l _ hl hn,Option.bind_some,decide_eq_false cl]
          simp only [Bool.not_false,cond_true]
          rw [gd_pos _ ⟨by omega,by omega⟩,loadR hG hV a0 a1 hS hg.1 hg.2,Option.bind_some,gd_pos _ ⟨by omega,by omega,by rw [hw];omega⟩]
          unfold ref33_Segment_M1_k9
          rw [wid (n:=(j:Int)+1) (by omega)]
        · rw [hfs,List.foldl_append,← e1];rfl
    · have:P.take j=P:=List.take_of_length_le (by omega)
      rw [this] at e1 hw
      refine .inr ⟨(b,w),?_,by rw [e1,hw]⟩
      unfold ref33_Segment_M1_b8
      rw [decide_eq_false c,cond_false]) n (s,[],0) ⟨0,rfl,by omega,rfl,h,rfl⟩ (by simp only;omega)
  exact hz
end
end Go.Proofs.Ytcbcdjincgclaaa
/-
  ch. 33: Segment: both answer alike.
-/
set_option maxHeartbeats 1000000
set_option linter.unusedVariables false
set_option linter.unusedSimpArgs false
set_option maxRecDepth 100000
namespace Go.Proofs.Ytcbcdjincgclaaa
open Go.AE
def keepL (m:TLoad) (l F:List Int) (k:Int):Bool:=decide (k∈l∧∀ f∈F,ov m k f=false)
def keepB (m:TLoad) (l F P:List Int) (i:Nat):Bool:=keepL m l F (i:Int) || decide ((i:Int)∈P)
section
variable {n:Nat} {m:TLoad} (hG:Good n m) (hV:Valid n m)
include hG hV
theorem keep_loop (b s_ l P F out:List Int) (hF:∀ f∈F,0≤f∧f < (m.Segments.length:Int)) (hFl:F.length≤65536) {k:Int} (k0:0≤k) (k1:k < m.Segments.length) :
    loopF (fun (x:Bool×Int)=>ref33_Segment_M1_b7 n b s_ l m P F out k x.1 x.2) n (decide (k∈l),0)=some (keepL m l F k):=by
  have hn:=hG.hn
  obtain ⟨z,hz,rfl⟩:=loopF_inv (body:=fun (x:Bool×Int)=>ref33_Segment_M1_b7 n b s_ l m P F out k x.1 x.2) (fun x=>∃ j:Nat,x.2=(j:Int)∧j≤F.length∧x.1=keepL m l (F.take j) k) (fun x=>F.length - x.2.toNat) (fun z=>z=keepL m l F k) (fun x hx=>by
    obtain ⟨b',j'⟩:=x
    obtain ⟨j,e,hj,e1⟩:=hx
    simp only at e e1 ⊢
    subst e
    by_cases c:(j:Int) < (F.length:Int)
    · have hjl:j < F.length:=by omega
      have hg:=hF (gt F j) (by rw [gt_lt hjl];exact List.getElem_mem hjl)
      refine .inl ⟨((if b'=true then (!(ov m k (gt F j))) else false),(j:Int)+1),?_,⟨j+1,by simp,by omega,?_⟩,by simp only;omega⟩
      · unfold ref33_Segment_M1_b7
        rw [decide_eq_true c,cond_true,Int.toNat_natCast,share_ov hV k0 k1 hg.1 hg.2,gd_pos _ ⟨fun _=>⟨k0,k1⟩,fun _=>by omega,fun _=>by omega,fun _=>hg,fun _=>rfl⟩,wid (n:=(j:Int)+1) (by omega)]
        rfl
      · simp only
        rw [e1]
        unfold keepL
        rw [ite_ff,Bool.eq_iff_iff,Bool.and_eq_true,decide_eq_true_eq,decide_eq_true_eq]
        constructor
        · rintro ⟨⟨h1,h2⟩,h3⟩
          refine ⟨h1,fun f hf=>?_⟩
          rcases (mem_take_succ hjl f).1 hf with hf | rfl
          · exact h2 f hf
          · simpa using h3
        · rintro ⟨h1,h2⟩
          refine ⟨⟨h1,fun f hf=>h2 f ((mem_take_succ hjl f).2 (.inl hf))⟩,?_⟩
          rw [h2 (gt F j) ((mem_take_succ hjl _).2 (.inr rfl))];rfl
    · have:F.take j=F:=List.take_of_length_le (by omega)
      rw [this] at e1
      refine .inr ⟨b',?_,e1⟩
      unfold ref33_Segment_M1_b7
      rw [decide_eq_false c,cond_false]) n (decide (k∈l),0) ⟨0,rfl,by omega,by simp [keepL]⟩ (by simp only;omega)
  exact hz
theorem out_loop (b s_ l P F:List Int) (hl:l.length≤2097154) (hPl:P.length≤65536) (hF:∀ f∈F,0≤f∧f < (m.Segments.length:Int)) (hFl:F.length≤65536) :
    loopF (fun (x:(List Int)×Int)=>ref33_Segment_M1_b4 n b s_ l m P F x.1 x.2) n ([],0)=some (ascOf (keepB m l F P) m.Segments.length):=by
  have hn:=hG.hn
  have h64:=hV.s64
  obtain ⟨z,hz,rfl⟩:=loopF_inv (body:=fun (x:(List Int)×Int)=>ref33_Segment_M1_b4 n b s_ l m P F x.1 x.2) (fun x=>∃ j:Nat,x.2=(j:Int)∧j≤m.Segments.length∧x.1=ascOf (keepB m l F P) j) (fun x=>m.Segments.length - x.2.toNat) (fun z=>z=ascOf (keepB m l F P) m.Segments.length) (fun x hx=>by
    obtain ⟨o,j'⟩:=x
    obtain ⟨j,e,hj,e1⟩:=hx
    simp only at e e1 ⊢
    subst e
    have hol:o.length≤65536:=by rw [e1];exact Nat.le_trans (ascOf_len _ _) (by omega)
    by_cases c:(j:Int) < (m.Segments.length:Int)
    · refine .inl ⟨(ascOf (keepB m l F P) (j+1),(j:Int)+1),?_,⟨j+1,by simp,by omega,rfl⟩,by simp only;omega⟩
      unfold ref33_Segment_M1_b4
      rw [decide_eq_true c,cond_true,in_val n l _ hl hn,Option.bind_some,keep_loop hG hV b s_ l P F o hF hFl (k:=(j:Int)) (by omega) (by omega),Option.bind_some]
      unfold ref33_Segment_M1_k6
      rw [in_val n P _ (by omega) hn,gd_pos _ (show (!keepL m l F (j:Int))=true→(some (decide ((j:Int)∈P))).isSome=true from fun _=>rfl),ite_tt,ascOf_succ]
      have ek:(keepL m l F (j:Int) || (some (decide ((j:Int)∈P))).getD default)=keepB m l F P j:=rfl
      rw [ek,e1]
      cases keepB m l F P j with
      | true =>
        simp only [cond_true,if_true]
        rw [gd_pos _ (by rw [← e1];omega)]
        unfold ref33_Segment_M1_k5
        rw [wid (n:=(j:Int)+1) (by omega)]
      | false =>
        simp only [cond_false,Bool.false_eq_true,if_false]
        unfold ref33_Segment_M1_k5
        rw [wid (n:=(j:Int)+1) (by omega)]
    · have:j=m.Segments.length:=by omega
      refine .inr ⟨o,?_,by rw [e1,this]⟩
      unfold ref33_Segment_M1_b4
      rw [decide_eq_false c,cond_false]) n ([],0) ⟨0,rfl,by omega,by simp [ascOf]⟩ (by simp only;omega)
  exact hz
end
def newS (m:TLoad) (a:Int) (l P s:List Int):List Int:=(freshOf l P).foldl (ldP m a) s
theorem fold_len {m:TLoad} {a:Int}:∀ (F:List Int) (s:List Int),(F.foldl (ldP m a) s).length=s.length
  | [],s=>rfl
  | f :: F,s=>by rw [List.foldl_cons,fold_len F,ldP_len]
def newL (m:TLoad) (l P:List Int):List Int:=ascOf (keepB m l (freshOf l P) P) m.Segments.length
def SegOk (n:Nat) (m:TLoad) (L:Nat) (a x:Int) (l:List Int):Prop:=module_CheckLoad n m=some 0∧0≤a∧(∃ z,fetch_Size n m=some z∧a+z≤(L:Int))∧oob m x=false∧l.any (oob m)=false
theorem seg_cases {n:Nat} {m:TLoad} (hG:Good n m) {s k:List Int} (h:SI s k) (a x:Int) (l:List Int) (hl:l.length≤2097154) (ha:a < 9223372036854775808) :
    (∃ c,c≠0∧fetch_Segment_M1 n s k m a l x=some ([],c,s)∧ref33_Segment_M1 n s k s.length m a l x=some ([],c,s)∧¬ SegOk n m s.length a x l) ∨
    (Valid n m∧0≤a∧a≤65536∧(∃ z,fetch_Size n m=some z∧a+z≤s.length)∧0≤x∧x < m.Segments.length∧(∀ y∈l,0≤y∧y < (m.Segments.length:Int)) ∧
      fetch_Segment_M1 n s k m a l x=some (newL m l (pathM m n x),0,newS m a l (pathM m n x) s)∧ref33_Segment_M1 n s k s.length m a l x=some (newL m l (pathM m n x),0,newS m a l (pathM m n x) s)):=by
  have hn:=hG.hn
  have hsl:s.length≤65536:=by obtain ⟨h1,h2,h3⟩:=h;omega
  obtain ⟨b,c1,c2⟩:=check_eq n m hG.hS hG.hT hG.hR (by omega)
  cases b with
  | false =>
    simp only [Bool.false_eq_true,if_false] at c1
    refine .inl ⟨310,by decide,?_,?_,fun ⟨q1,_⟩=>by rw [c1] at q1;exact absurd (Option.some.inj q1) (by decide)⟩
    · unfold fetch_Segment_M1
      rw [c1];rfl
    · unfold ref33_Segment_M1
      rw [c2];rfl
  | true =>
    simp only [if_true] at c1
    have hV:=valid_of hG c1
    obtain ⟨z,z1,z2,z3,z4,z5⟩:=size_ge hG hV
    have hr:∀ cc,(if (if (if (if (decide (a < 0))=true then true else (decide (a > (s.length:Int))))=true then true else (decide (((ref33_Size n m).getD default) > (IntKind.wrap .i64 ((s.length:Int) - a)))))=true then true else (decide (x < 0)))=true then true else (decide (x ≥ (m.Segments.length:Int))))=cc↔(decide (a < 0∨a+z > s.length∨oob m x=true))=cc:=by
      intro cc
      have:(if (if (if (if (decide (a < 0))=true then true else (decide (a > (s.length:Int))))=true then true else (decide (((ref33_Size n m).getD default) > (IntKind.wrap .i64 ((s.length:Int) - a)))))=true then true else (decide (x < 0)))=true then true else (decide (x ≥ (m.Segments.length:Int))))=(decide (a < 0∨a+z > s.length∨oob m x=true)):=by
        rw [z2,ite_tt,ite_tt,ite_tt,ite_tt]
        show (decide (a < 0) || decide (a > (s.length:Int)) || decide (z > IntKind.wrap .i64 ((s.length:Int) - a)) || decide (x < 0) || decide (x ≥ (m.Segments.length:Int)))=_
        rw [Bool.eq_iff_iff]
        unfold oob
        simp only [Bool.or_eq_true,decide_eq_true_eq]
        by_cases ca:a < 0
        · simp [ca]
        · rw [w64_id (by omega) (by omega)]
          omega
      rw [this]
    by_cases hb1:a < 0
    · refine .inl ⟨1,by decide,?_,?_,fun ⟨_,q2,_⟩=>by omega⟩
      · unfold fetch_Segment_M1
        rw [c1,Option.bind_some]
        simp only [bne_self_eq_false,cond_false,decide_eq_true hb1,cond_true]
      · unfold ref33_Segment_M1
        rw [c2,Option.bind_some]
        simp only [Bool.not_true,cond_false]
        rw [gd_pos _ (fun _=>by rw [z2];rfl),(hr true).2 (decide_eq_true (.inl hb1))]
        rfl
    · by_cases hb2:a+z > s.length
      · refine .inl ⟨1,by decide,?_,?_,fun ⟨_,_,⟨y,q3,q4⟩,_⟩=>by have e:=Option.some.inj (z1.symm.trans q3);omega⟩
        · unfold fetch_Segment_M1
          rw [c1,Option.bind_some]
          simp only [bne_self_eq_false,cond_false,decide_eq_false hb1,Bool.not_false,gd_t,store_Store__Size_M1,Option.bind_some,z1]
          rw [wid (n:=(s.length:Int) - z) (by omega),decide_eq_true (show a > (s.length:Int) - z by omega)]
          rfl
        · unfold ref33_Segment_M1
          rw [c2,Option.bind_some]
          simp only [Bool.not_true,cond_false]
          rw [gd_pos _ (fun _=>by rw [z2];rfl),(hr true).2 (decide_eq_true (.inr (.inl hb2)))]
          rfl
      · cases hb3:oob m x with
        | true =>
          refine .inl ⟨1,by decide,?_,?_,fun ⟨_,_,_,q5,_⟩=>by rw [hb3] at q5;exact absurd q5 (by decide)⟩
          · unfold fetch_Segment_M1
            rw [c1,Option.bind_some]
            simp only [bne_self_eq_false,cond_false,decide_eq_false hb1,Bool.not_false,gd_t,store_Store__Size_M1,Option.bind_some,z1]
            rw [wid (n:=(s.length:Int) - z) (by omega),decide_eq_false (show ¬ a > (s.length:Int) - z by omega)]
            simp only [cond_false,Bool.not_false,gd_t,oob_w,hb3,Option.bind_some,cond_true]
          · unfold ref33_Segment_M1
            rw [c2,Option.bind_some]
            simp only [Bool.not_true,cond_false]
            rw [gd_pos _ (fun _=>by rw [z2];rfl),(hr true).2 (decide_eq_true (.inr (.inr hb3)))]
            rfl
        | false =>
          have hr0:=(hr false).2 (decide_eq_false (by rw [hb3];simp only [Bool.false_eq_true,or_false];omega))
          cases hb4:l.any (oob m) with
          | true =>
            refine .inl ⟨1,by decide,?_,?_,fun ⟨_,_,_,_,q6⟩=>by rw [hb4] at q6;exact absurd q6 (by decide)⟩
            · unfold fetch_Segment_M1
              rw [c1,Option.bind_some]
              simp only [bne_self_eq_false,cond_false,decide_eq_false hb1,Bool.not_false,gd_t,store_Store__Size_M1,Option.bind_some,z1]
              rw [wid (n:=(s.length:Int) - z) (by omega),decide_eq_false (show ¬ a > (s.length:Int) - z by omega)]
              simp only [cond_false,Bool.not_false,gd_t,oob_w,hb3,Option.bind_some,oob_list n l m hl hn,hb4,cond_true]
            · unfold ref33_Segment_M1
              rw [c2,Option.bind_some]
              simp only [Bool.not_true,cond_false]
              rw [gd_pos _ (fun _=>by rw [z2];rfl),hr0,cond_false,oob_ref n s k l a x m hl hn,hb4]
              rfl
          | false =>
            have hx:0≤x∧x < (m.Segments.length:Int):=by
              unfold oob at hb3
              rw [decide_eq_false_iff_not] at hb3
              omega
            have hlr:∀ y∈l,0≤y∧y < (m.Segments.length:Int):=by
              intro y hy
              have:=(List.any_eq_false.1 hb4) y hy
              unfold oob at this
              rw [decide_eq_true_eq] at this
              omega
            have a0:0≤a:=by omega
            have a1:a≤65536:=by omega
            have hP:=pathOk hV n x (by omega) hx.2
            have hPl:(pathM m n x).length≤65536:=by
              have:=path_short hV.ok n x (by omega) hx.2
              have:=hV.s64
              omega
            have hFr:∀ f∈freshOf l (pathM m n x),0≤f∧f < (m.Segments.length:Int):=fun f hf=>hP.rng f (mem_fresh.1 hf).1
            have hFl:(freshOf l (pathM m n x)).length≤65536:=by
              unfold freshOf
              exact Nat.le_trans (List.length_filter_le _ _) hPl
            refine .inr ⟨hV,a0,a1,⟨z,z1,by omega⟩,hx.1,hx.2,hlr,?_,?_⟩
            · obtain ⟨now,n1,n2,n3⟩:=now_loop (n:=n) (m:=m) s k a x l hl hn hlr
              obtain ⟨w,w1,w2,w3,w4⟩:=prog_loop hG hV a0 a1 h hP hPl n2 n3
              have hsort:slices_Sorted_M n w.2=some (newL m l (pathM m n x)):=by
                unfold slices_Sorted_M
                have:=w3.len
                have h64:=hV.s64
                rw [gd_pos _ ⟨by omega,w3.nd⟩]
                congr 1
                refine sort_asc w3 _ (fun y y0 y1=>?_)
                have ey:((y.toNat:Nat):Int)=y:=by omega
                rw [w4 y]
                unfold keepB keepL
                rw [ey,Bool.or_eq_true,decide_eq_true_eq,decide_eq_true_eq]
                constructor
                · rintro (h1 | h1)
                  · exact .inl h1
                  · exact .inr (mem_fresh.1 h1).1
                · rintro (h1 | h1)
                  · exact .inl h1
                  · by_cases c:y∈l
                    · left
                      refine ⟨c,fun f hf=>?_⟩
                      obtain ⟨f1,f2⟩:=mem_fresh.1 hf
                      exact hP.ne y h1 f f1 (fun e=>f2 (e ▸ c))
                    · exact .inr (mem_fresh.2 ⟨h1,c⟩)
              unfold fetch_Segment_M1
              rw [c1,Option.bind_some]
              simp only [bne_self_eq_false,cond_false,decide_eq_false hb1,Bool.not_false,gd_t,store_Store__Size_M1,Option.bind_some,z1]
              rw [wid (n:=(s.length:Int) - z) (by omega),decide_eq_false (show ¬ a > (s.length:Int) - z by omega)]
              simp only [cond_false,Bool.not_false,gd_t,oob_w,hb3,Option.bind_some,oob_list n l m hl hn,hb4,n1]
              unfold fetch_Segment_M1_k1
              rw [loaderW hG hV a0 a1,Option.bind_some,pathW hG hV hx.1 hx.2,Option.bind_some]
              simp only
              rw [w1,Option.bind_some]
              unfold fetch_Segment_M1_k2 maps_Keys_f47_M1
              rw [Option.bind_some,hsort,Option.bind_some,w2]
              rfl
            · unfold ref33_Segment_M1
              rw [c2,Option.bind_some]
              simp only [Bool.not_true,cond_false]
              rw [gd_pos _ (fun _=>by rw [z2];rfl),hr0,cond_false,oob_ref n s k l a x m hl hn,hb4]
              simp only [Bool.false_eq_true,if_false,Option.bind_some]
              unfold ref33_Segment_M1_k1
              rw [pathR hG hV hx.1 hx.2,Option.bind_some]
              simp only
              rw [ref_loop hG hV a0 a1 h hl hP hPl,Option.bind_some]
              simp only
              unfold ref33_Segment_M1_k2
              rw [out_loop hG hV _ k l (pathM m n x) (freshOf l (pathM m n x)) hl hPl hFr hFl,Option.bind_some]
              rfl
end Go.Proofs.Ytcbcdjincgclaaa
