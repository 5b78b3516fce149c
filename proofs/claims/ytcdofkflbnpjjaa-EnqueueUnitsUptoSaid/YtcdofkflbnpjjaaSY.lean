/- Text. -/
import Derived.Test.YtcdofkflbnpjjaaSU
import Derived.Test.YtcdofkflbnpjjaaF
set_option linter.unusedSimpArgs false
set_option linter.unusedVariables false
set_option maxHeartbeats 1000000
set_option linter.unusedVariables false
set_option linter.unusedSimpArgs false
set_option maxRecDepth 100000
namespace Go.Proofs.Ytcdofkflbnpjjaa
open Go.AE
theorem ite_ff (p q:Bool):(if p=true then q else false)=(p && q):=by cases p <;> simp
theorem ite_tt (p q:Bool):(if p=true then true else q)=(p || q):=by cases p <;> simp
theorem loop_find {α Y:Type} {body:Int→Option (Int ⊕ Y)} (L:List α) (p:α→Bool) (yt:α→Y) (yf:Y)
    (hb:∀ k (hk:k < L.length),body (k:Int)=some (if p L[k]=true then .inr (yt L[k]) else .inl ((k+1:Nat):Int))) (he:body (L.length:Int)=some (.inr yf)) {n:Nat} (hn:L.length < n) :
    loopF body n 0=some (match L.find? p with | some a=>yt a | none=>yf):=by
  have h:=loop_list (σ:=Unit) (body:=body) L (fun k _=>(k:Int)) (fun _ a=>if p a=true then .inr (yt a) else .inl ()) (fun _=>yf) (fun _ _=>True) (s:=()) trivial
    (fun k hk s _=>by rw [hb k hk];by_cases hp:p L[k]=true <;> simp [hp]) (fun _ _ _ _ _ _=>trivial) (fun _ _=>he) hn
  have e:∀ l:List α,runL (fun (_:Unit) a=>if p a=true then (.inr (yt a):Unit ⊕ Y) else .inl ()) (fun _=>yf) l ()=(match l.find? p with | some a=>yt a | none=>yf):=by
    intro l
    induction l with
    | nil=>rfl
    | cons a l ih =>
      rw [List.find?_cons]
      cases hp:p a with
      | true=>simp [runL,hp]
      | false=>simp only [runL,hp,Bool.false_eq_true,if_false];exact ih
  rw [e] at h
  exact h
def firstP (U:List TUnitConf) (k:Nat):Prop:=∀ i,i < k→(gt U i).Addr≠(gt U k).Addr
theorem first_of (U:List TUnitConf):∀ (i:Nat),∃ k,k≤i∧firstP U k∧(gt U k).Addr=(gt U i).Addr:=by
  intro i
  induction i using Nat.strongRecOn with
  | _ i ih =>
    by_cases h:firstP U i
    · exact ⟨i,Nat.le_refl _,h,rfl⟩
    · unfold firstP at h
      obtain ⟨j,hj⟩:=Classical.not_forall.1 h
      obtain ⟨h1,h2⟩:=Classical.not_imp.1 hj
      obtain ⟨k,k1,k2,k3⟩:=ih j h1
      exact ⟨k,by omega,k2,k3.trans (Classical.not_not.1 h2)⟩
theorem some2_val (n:Nat) (hn:4194304≤n) (p:List TUnitConf) (x k c h:Int) (s:List UInt8) (hl:p.length≤64):enqueue_some_f47_M2 n p x k s c h=some (p.any fun u=>u.Addr == x):=by
  have h0:=loop_scanI n hn p x k c h s hl
  exact h0
where
  loop_scanI (n:Nat) (hn:4194304≤n) (p:List TUnitConf) (x k c h:Int) (s:List UInt8) (hl:p.length≤64):enqueue_some_f47_M2 n p x k s c h=some (p.any fun u=>u.Addr == x):=by
    have hb:=loop_list (σ:=Nat) (body:=fun (y:Int)=>slices_IndexFunc_f71_M2_b2 n p x k s c h ((p.length:Nat):Int) y) p (fun k _=>(k:Int))
      (fun (k:Nat) u=>if u.Addr == x then (.inr (.inl (k:Int)):Nat ⊕ (Int ⊕ Unit)) else .inl (k+1)) (fun _=>.inr ()) (fun k s=>s=k) (s:=0) rfl
      (fun k hk s hs=>by
        subst hs
        have h1:decide ((s:Int) < ((p.length:Nat):Int))=true:=by simp;omega
        simp only [slices_IndexFunc_f71_M2_b2,enqueue_Assign_1_M1,h1,cond_true,Option.bind_some,Int.toNat_natCast,gt_lt hk]
        rw [gd_pos _ (by omega),wid (by omega)]
        cases (p[s].Addr == x) <;> simp)
      (fun k hk s hs s' h=>by
        subst hs
        cases hi:(p[s].Addr == x) <;> rw [hi] at h <;> simp at h
        exact h.symm)
      (fun s _=>by simp [slices_IndexFunc_f71_M2_b2]) (n:=n) (by omega)
    have hr:∀ (l:List TUnitConf) (k0:Nat),∃ y,runL (fun (k:Nat) u=>if u.Addr == x then (.inr (.inl (k:Int)):Nat ⊕ (Int ⊕ Unit)) else .inl (k+1)) (fun _=>.inr ()) l k0=y∧((l.any (fun u=>u.Addr == x)=true∧∃ j:Nat,y = .inl (j:Int))∨(l.any (fun u=>u.Addr == x)=false∧y = .inr ())):=by
      intro l
      induction l with
      | nil=>intro k;exact ⟨_,rfl,.inr ⟨rfl,rfl⟩⟩
      | cons u l ih =>
        intro k
        simp only [runL,List.any_cons]
        cases h:(u.Addr == x)
        · simp only [Bool.false_eq_true,if_false,Bool.false_or]
          exact ih (k+1)
        · simp only [if_true,Bool.true_or]
          exact ⟨_,rfl,.inl ⟨trivial,k,rfl⟩⟩
    obtain ⟨y,hy,hc⟩:=hr p 0
    rw [hy] at hb
    unfold enqueue_some_f47_M2 slices_IndexFunc_f71_M2
    have hb':loopF (fun (y:Int)=>slices_IndexFunc_f71_M2_b2 n p x k s c h ((p.length:Nat):Int) y) n 0=some y:=hb
    rw [hb']
    rcases hc with ⟨e,j,rfl⟩ | ⟨e,rfl⟩
    · rw [e]
      simp only [Option.bind_some]
      rw [decide_eq_true (by omega)]
    · rw [e];rfl
theorem units_loop (n:Nat) (hn:4194304≤n) (U:List TUnitConf) (busy:List Int) (needs:List TNeed) (hU:U.length≤40) :
    ∃ p,loopF (fun (x:(List TUnitConf)×Int)=>enqueue_Assign_b9 n needs busy U (U.length:Int) x.1 x.2) n ([],0)=some p∧p.length≤U.length∧∀ u,u∈p↔∃ k,k < U.length∧firstP U k∧gt U k=u:=by
  refine loopF_inv (fun x=>∃ j:Nat,x.2=(j:Int)∧j≤U.length∧x.1.length≤j∧∀ u,u∈x.1↔∃ k,k < j∧firstP U k∧gt U k=u) (fun x=>U.length - x.2.toNat) (fun (p:List TUnitConf)=>p.length≤U.length∧∀ u,u∈p↔∃ k,k < U.length∧firstP U k∧gt U k=u) (fun x hx=>?_) n ([],0) ⟨0,rfl,by omega,by simp,fun u=>by simp⟩ (by simp only;omega)
  obtain ⟨p,j'⟩:=x
  obtain ⟨j,e,hj,hl,hm⟩:=hx
  simp only at e hl hm ⊢
  subst e
  by_cases c:(j:Int) < (U.length:Int)
  · have ha:(p.any fun u=>u.Addr == (gt U j).Addr)=true↔¬ firstP U j:=by
      rw [List.any_eq_true]
      constructor
      · rintro ⟨u,h1,h2⟩ hf
        obtain ⟨k,k1,k2,k3⟩:=(hm u).1 h1
        have:u.Addr=(gt U j).Addr:=by simpa using h2
        exact hf k k1 (by rw [k3];exact this)
      · intro hf
        unfold firstP at hf
        obtain ⟨i,hi⟩:=Classical.not_forall.1 hf
        obtain ⟨h1,h2⟩:=Classical.not_imp.1 hi
        obtain ⟨k,k1,k2,k3⟩:=first_of U i
        exact ⟨gt U k,(hm _).2 ⟨k,by omega,k2,rfl⟩,by rw [k3,Classical.not_not.1 h2];simp⟩
    have hb:enqueue_Assign_b9 n needs busy U (U.length:Int) p (j:Int)=some (.inl (if (p.any fun u=>u.Addr == (gt U j).Addr)=true then p else p ++ [gt U j],((j+1:Nat):Int))):=by
      unfold enqueue_Assign_b9
      rw [decide_eq_true c,cond_true,gd_pos _ (by omega),Int.toNat_natCast,some2_val n hn p _ _ _ _ _ (by omega),Option.bind_some]
      have e1:IntKind.wrap .i64 ((j:Int)+1)=((j+1:Nat):Int):=by rw [wid (by omega)];omega
      cases (p.any fun u=>u.Addr == (gt U j).Addr) with
      | true =>
        simp only [Bool.not_true,cond_false,if_true]
        unfold enqueue_Assign_k10
        rw [e1]
      | false =>
        simp only [Bool.not_false,cond_true,Bool.false_eq_true,if_false]
        rw [gd_pos _ (by omega)]
        unfold enqueue_Assign_k10
        rw [e1]
    refine .inl ⟨_,hb,⟨j+1,rfl,by omega,?_,fun u=>?_⟩,by simp only;omega⟩
    · simp only
      split
      · omega
      · rw [List.length_append];simp;omega
    · simp only
      have step:(∃ k,k < j+1∧firstP U k∧gt U k=u)↔(∃ k,k < j∧firstP U k∧gt U k=u)∨(firstP U j∧gt U j=u):=by
        constructor
        · rintro ⟨k,k1,k2,k3⟩
          by_cases e:k=j
          · subst e;exact .inr ⟨k2,k3⟩
          · exact .inl ⟨k,by omega,k2,k3⟩
        · rintro (⟨k,k1,k2,k3⟩ | ⟨k2,k3⟩)
          · exact ⟨k,by omega,k2,k3⟩
          · exact ⟨j,by omega,k2,k3⟩
      rw [step,← hm u]
      by_cases hc:(p.any fun u=>u.Addr == (gt U j).Addr)=true
      · rw [if_pos hc]
        have:=ha.1 hc
        constructor
        · exact .inl
        · rintro (h | h)
          · exact h
          · exact absurd h.1 this
      · rw [if_neg hc]
        have hf:firstP U j:=Classical.not_not.1 (fun h=>hc (ha.2 h))
        rw [List.mem_append,List.mem_singleton]
        constructor
        · rintro (h | h)
          · exact .inl h
          · exact .inr ⟨hf,h.symm⟩
        · rintro (h | h)
          · exact .inl h
          · exact .inr h.2.symm
  · refine .inr ⟨p,?_,by omega,fun u=>?_⟩
    · unfold enqueue_Assign_b9
      rw [decide_eq_false c,cond_false]
    · rw [hm u]
      have:j=U.length:=by omega
      rw [this]
def suitsB (u:TUnitConf) (w:TNeed):Bool:=(u.Kind == w.Kind) && ((w.Serial == []) || (w.Serial == u.Serial))
theorem suits_val (n:Nat) (u:TUnitConf) (w:TNeed):enqueue_suits n u w=some (suitsB u w):=by
  unfold enqueue_suits suitsB
  rw [gd_pos _ (fun h=>h),ite_ff,ite_tt]
theorem suits2_val (n:Nat) (u:TUnitConf) (k:Int) (s:List UInt8):enqueue_Assign_2_M1 n u k s=some (suitsB u ⟨k,s⟩):=by
  unfold enqueue_Assign_2_M1
  rw [suits_val,Option.bind_some]
theorem some3_val (n:Nat) (hn:4194304≤n) (p:List TUnitConf) (w:TNeed) (hl:p.length≤64):enqueue_some_f47_M3 n p w.Kind w.Serial=some (p.any fun u=>suitsB u w):=by
  have hb:=loop_list (σ:=Nat) (body:=fun (y:Int)=>slices_IndexFunc_f71_M3_b2 n p w.Kind w.Serial ((p.length:Nat):Int) y) p (fun k _=>(k:Int))
    (fun (k:Nat) u=>if suitsB u w then (.inr (.inl (k:Int)):Nat ⊕ (Int ⊕ Unit)) else .inl (k+1)) (fun _=>.inr ()) (fun k s=>s=k) (s:=0) rfl
    (fun k hk s hs=>by
      subst hs
      have h1:decide ((s:Int) < ((p.length:Nat):Int))=true:=by simp;omega
      simp only [slices_IndexFunc_f71_M3_b2,suits2_val,h1,cond_true,Option.bind_some,Int.toNat_natCast,gt_lt hk]
      rw [gd_pos _ (by omega),wid (by omega)]
      cases suitsB p[s] w <;> simp)
    (fun k hk s hs s' h=>by
      subst hs
      cases hi:suitsB p[s] w <;> rw [hi] at h <;> simp at h
      exact h.symm)
    (fun s _=>by simp [slices_IndexFunc_f71_M3_b2]) (n:=n) (by omega)
  have hr:∀ (l:List TUnitConf) (k0:Nat),∃ y,runL (fun (k:Nat) u=>if suitsB u w then (.inr (.inl (k:Int)):Nat ⊕ (Int ⊕ Unit)) else .inl (k+1)) (fun _=>.inr ()) l k0=y∧((l.any (fun u=>suitsB u w)=true∧∃ j:Nat,y = .inl (j:Int))∨(l.any (fun u=>suitsB u w)=false∧y = .inr ())):=by
    intro l
    induction l with
    | nil=>intro k;exact ⟨_,rfl,.inr ⟨rfl,rfl⟩⟩
    | cons u l ih =>
      intro k
      simp only [runL,List.any_cons]
      cases h:suitsB u w
      · simp only [Bool.false_eq_true,if_false,Bool.false_or]
        exact ih (k+1)
      · simp only [if_true,Bool.true_or]
        exact ⟨_,rfl,.inl ⟨trivial,k,rfl⟩⟩
  obtain ⟨y,hy,hc⟩:=hr p 0
  rw [hy] at hb
  unfold enqueue_some_f47_M3 slices_IndexFunc_f71_M3
  have hb':loopF (fun (y:Int)=>slices_IndexFunc_f71_M3_b2 n p w.Kind w.Serial ((p.length:Nat):Int) y) n 0=some y:=hb
  rw [hb']
  rcases hc with ⟨e,j,rfl⟩ | ⟨e,rfl⟩
  · rw [e]
    simp only [Option.bind_some]
    rw [decide_eq_true (by omega)]
  · rw [e];rfl
theorem contains_val (n:Nat) (hn:4194304≤n) (l:List Int) (x:Int) (hl:l.length≤64):slices_Contains_f75 n l x=some (l.any fun y=>x == y):=by
  have hb:=loop_list (σ:=Nat) (body:=fun (y:Int)=>slices_Index_f94_b2 n l x (l.length:Int) y) l (fun k _=>(k:Int))
    (fun (k:Nat) u=>if x == u then (.inr (.inl (k:Int)):Nat ⊕ (Int ⊕ Unit)) else .inl (k+1)) (fun _=>.inr ()) (fun k s=>s=k) (s:=0) rfl
    (fun k hk s hs=>by
      subst hs
      have h1:decide ((s:Int) < (l.length:Int))=true:=by simp;omega
      simp only [slices_Index_f94_b2,h1,cond_true,Int.toNat_natCast,gt_lt hk]
      rw [gd_pos _ (by omega),wid (by omega)]
      cases (x == l[s]) <;> simp)
    (fun k hk s hs s' h=>by
      subst hs
      cases hi:(x == l[s]) <;> rw [hi] at h <;> simp at h
      exact h.symm)
    (fun s _=>by simp [slices_Index_f94_b2]) (n:=n) (by omega)
  have hr:∀ (l:List Int) (k0:Nat),∃ y,runL (fun (k:Nat) u=>if x == u then (.inr (.inl (k:Int)):Nat ⊕ (Int ⊕ Unit)) else .inl (k+1)) (fun _=>.inr ()) l k0=y∧((l.any (fun u=>x == u)=true∧∃ j:Nat,y = .inl (j:Int))∨(l.any (fun u=>x == u)=false∧y = .inr ())):=by
    intro l
    induction l with
    | nil=>intro k;exact ⟨_,rfl,.inr ⟨rfl,rfl⟩⟩
    | cons u l ih =>
      intro k
      simp only [runL,List.any_cons]
      cases h:(x == u)
      · simp only [Bool.false_eq_true,if_false,Bool.false_or]
        exact ih (k+1)
      · simp only [if_true,Bool.true_or]
        exact ⟨_,rfl,.inl ⟨trivial,k,rfl⟩⟩
  obtain ⟨y,hy,hc⟩:=hr l 0
  rw [hy] at hb
  unfold slices_Contains_f75 slices_Index_f94
  have hb':loopF (fun (y:Int)=>slices_Index_f94_b2 n l x (l.length:Int) y) n 0=some y:=hb
  rw [hb']
  rcases hc with ⟨e,j,rfl⟩ | ⟨e,rfl⟩
  · rw [e]
    simp only [Option.bind_some,slices_Index_f94_k1]
    rw [decide_eq_true (by omega)]
  · rw [e];rfl
def needEq (a b:TNeed):Bool:=(a.Kind == b.Kind) && (a.Serial == b.Serial)
theorem needEq_iff {a b:TNeed}:needEq a b=true↔a=b:=by
  unfold needEq
  cases a;cases b
  simp
def takenB (g:List (Int×TNeed)) (a:Int) (w:TNeed):Bool:=(tget a g).isSome && (!needEq ((tget a g).getD default) w || w.Serial == [])
def freeB (busy:List Int) (g:List (Int×TNeed)) (u:TUnitConf) (w:TNeed):Bool:=u.Kind == 5 || !((busy.any fun y=>u.Addr == y) || takenB g u.Addr w)
def gaveM (g:List (Int×TNeed)) (u:TUnitConf) (w:TNeed):List (Int×TNeed):=if (u.Kind == 5)=true then g else tset u.Addr w g
theorem assign_val (n:Nat) (hn:4194304≤n) (S:List TUnitConf) (busy:List Int) (g:List (Int×TNeed)) (w:TNeed) (hS:S.length≤64) (hB:busy.length≤64) :
    enqueue_pool__assign_M1 n S busy g w=some (match S.find? (fun u=>suitsB u w && freeB busy g u w) with | some u=>(u.Addr,true,gaveM g u w) | none=>(0,false,g)):=by
  have h:=loop_find (body:=fun (x:Int)=>enqueue_pool__assign_M1_b2 n S busy g w ((S.length:Nat):Int) x) S (fun u=>suitsB u w && freeB busy g u w) (fun u=>.inl (u.Addr,true,gaveM g u w)) (.inr ()) (fun k hk=>by
    have h1:decide ((k:Int) < ((S.length:Nat):Int))=true:=by simp;omega
    have e1:IntKind.wrap .i64 ((k:Int)+1)=((k+1:Nat):Int):=by rw [wid (by omega)];omega
    unfold enqueue_pool__assign_M1_b2
    simp only [h1,cond_true,Int.toNat_natCast,gt_lt hk,suits_val,Option.bind_some]
    rw [gd_pos _ (by omega)]
    unfold freeB gaveM
    cases hs:suitsB S[k] w with
    | false =>
      simp only [Bool.not_false,cond_true,Bool.false_and,Bool.false_eq_true,if_false]
      unfold enqueue_pool__assign_M1_k3
      rw [e1]
    | true =>
      simp only [Bool.not_true,cond_false,Bool.true_and]
      cases h5:(S[k].Kind == 5) with
      | true=>simp only [cond_true,Bool.true_or,if_true]
      | false =>
        simp only [cond_false,Bool.false_or,Bool.false_eq_true,if_false]
        rw [contains_val n hn busy _ hB,Option.bind_some,gd_pos _ (fun h=>h)]
        have hc:(if (busy.any fun y=>S[k].Addr == y)=true then true else (if (tget (S[k].Addr) g).isSome=true then (if (!(((((tget (S[k].Addr) g).getD default).Kind) == w.Kind) && ((((tget (S[k].Addr) g).getD default).Serial) == w.Serial)))=true then true else (w.Serial == [])) else false))=((busy.any fun y=>S[k].Addr == y) || takenB g S[k].Addr w):=by
          rw [ite_tt,ite_ff,ite_tt];rfl
        rw [hc]
        cases ((busy.any fun y=>S[k].Addr == y) || takenB g S[k].Addr w) with
        | true =>
          simp only [cond_true,Bool.not_true,Bool.false_eq_true,if_false]
          unfold enqueue_pool__assign_M1_k3
          rw [e1]
        | false=>simp only [cond_false,Bool.not_false,if_true]) (by
    have h1:decide (((S.length:Nat):Int) < ((S.length:Nat):Int))=false:=by simp
    unfold enqueue_pool__assign_M1_b2
    rw [h1,cond_false]) (n:=n) (by omega)
  unfold enqueue_pool__assign_M1
  rw [h]
  cases S.find? (fun u=>suitsB u w && freeB busy g u w) with
  | none=>rfl
  | some u=>rfl
end Go.Proofs.Ytcdofkflbnpjjaa
/-
  ch. 37: Assign, the specification's parts, in plain lists.
-/
set_option maxHeartbeats 1000000
set_option linter.unusedVariables false
set_option linter.unusedSimpArgs false
set_option maxRecDepth 100000
namespace Go.Proofs.Ytcdofkflbnpjjaa
open Go.AE
def firstB (U:List TUnitConf) (k:Nat):Bool:=(List.range k).all fun i=>!((gt U i).Addr == (gt U k).Addr)
theorem firstB_iff {U:List TUnitConf} {k:Nat}:firstB U k=true↔firstP U k:=by
  unfold firstB firstP
  rw [List.all_eq_true]
  constructor
  · intro h i hi e
    have:=h i (List.mem_range.2 hi)
    rw [e] at this
    simp at this
  · intro h i hi
    have:=h i (List.mem_range.1 hi)
    simpa using this
theorem getR {k i:Nat} (h:i < (List.range k).length):(List.range k)[i]=i:=List.getElem_range h
theorem first_val (n:Nat) (hn:4194304≤n) (U:List TUnitConf) (k:Nat) (hU:U.length≤40) (hk:k < U.length):ref37_first n U (k:Int)=some (firstB U k):=by
  have hl:(List.range k).length=k:=List.length_range
  have h:=loop_any (body:=fun (x:Int)=>ref37_first_b2 n U (k:Int) x) (List.range k) (fun i=>(gt U i).Addr == (gt U k).Addr) (.inl false) (.inr ()) (fun i hi=>by
    rw [getR hi]
    rw [hl] at hi
    have h1:decide ((i:Int) < (k:Int))=true:=by simp;omega
    simp only [ref37_first_b2,h1,cond_true,Int.toNat_natCast]
    rw [gd_pos _ (by omega),wid (by omega)]
    cases ((gt U i).Addr == (gt U k).Addr) <;> simp) (by
    rw [hl]
    have h1:decide ((k:Int) < (k:Int))=false:=by simp
    simp only [ref37_first_b2,h1,cond_false]) (n:=n) (by omega)
  unfold ref37_first
  rw [h]
  have e:firstB U k = !((List.range k).any fun i=>(gt U i).Addr == (gt U k).Addr):=by
    unfold firstB
    rw [List.all_eq_not_any_not]
    simp
  rw [e]
  cases (List.range k).any fun i=>(gt U i).Addr == (gt U k).Addr <;> rfl
theorem has_val (n:Nat) (hn:4194304≤n) (l:List Int) (x:Int) (hl:l.length≤64):ref37_has n l x=some (l.any fun y=>x == y):=by
  have h:=loop_any (body:=fun (y:Int)=>ref37_has_b2 n l x y) l (fun y=>y == x) (.inl true) (.inr ()) (fun k hk=>by
    have e1:decide ((k:Int) < (l.length:Int))=true:=by simp;omega
    simp only [ref37_has_b2,e1,cond_true,Int.toNat_natCast,gt_lt hk]
    rw [gd_pos _ (by omega),wid (by omega)]
    cases (l[k] == x) <;> simp) (by
    have e1:decide ((l.length:Int) < (l.length:Int))=false:=by simp
    simp only [ref37_has_b2,e1,cond_false]) (n:=n) (by omega)
  unfold ref37_has
  rw [h]
  have e:(fun y=>y == x)=fun y=>x == y:=by funext y;exact Bool.beq_comm
  rw [e]
  cases l.any fun y=>x == y <;> rfl
theorem rsuits_val (n:Nat) (u:TUnitConf) (w:TNeed):ref37_suits n u w=some (suitsB u w):=by
  unfold ref37_suits suitsB
  rw [gd_pos _ (fun h=>h),ite_ff,ite_tt]
  have:(u.Serial == w.Serial)=(w.Serial == u.Serial):=Bool.beq_comm
  rw [this]
theorem mounted_val (n:Nat) (hn:4194304≤n) (U:List TUnitConf) (w:TNeed) (hU:U.length≤40):ref37_mounted n U w=some ((List.range U.length).any fun k=>firstB U k && suitsB (gt U k) w):=by
  have hl:(List.range U.length).length=U.length:=List.length_range
  have h:=loop_any (body:=fun (x:Int)=>ref37_mounted_b2 n U w x) (List.range U.length) (fun k=>firstB U k && suitsB (gt U k) w) (.inl true) (.inr ()) (fun k hk=>by
    rw [getR hk]
    rw [hl] at hk
    have h1:decide ((k:Int) < (U.length:Int))=true:=by simp;omega
    simp only [ref37_mounted_b2,h1,cond_true,Int.toNat_natCast,first_val n hn U k hU hk,Option.bind_some,rsuits_val]
    rw [gd_pos _ ⟨fun _=>by omega,fun _=>rfl⟩,wid (by omega),ite_ff]
    show (bif (firstB U k && suitsB (gt U k) w) then _ else _)=_
    cases (firstB U k && suitsB (gt U k) w) <;> simp) (by
    rw [hl]
    have h1:decide ((U.length:Int) < (U.length:Int))=false:=by simp
    simp only [ref37_mounted_b2,h1,cond_false]) (n:=n) (by omega)
  unfold ref37_mounted
  rw [h]
  cases (List.range U.length).any fun k=>firstB U k && suitsB (gt U k) w <;> rfl
def cfB (needs:List TNeed) (out:List Int) (done:List Bool) (w:TNeed) (a:Int) (i:Nat):Bool:=gt done i && (gt out i == a) && (!needEq (gt needs i) w || w.Serial == [])
def okR (busy:List Int) (needs:List TNeed) (out:List Int) (done:List Bool) (u:TUnitConf) (w:TNeed):Bool:=u.Kind == 5 || (!(busy.any fun y=>u.Addr == y) && (List.range needs.length).all fun i=>!cfB needs out done w u.Addr i)
def candB (U:List TUnitConf) (busy:List Int) (needs:List TNeed) (out:List Int) (done:List Bool) (w:TNeed) (k:Nat):Bool:=firstB U k && suitsB (gt U k) w && okR busy needs out done (gt U k) w
theorem ok_loop (n:Nat) (hn:4194304≤n) (U:List TUnitConf) (busy:List Int) (needs:List TNeed) (out:List Int) (done:List Bool) (ni:Nat) (hN:needs.length≤40) (ho:out.length=needs.length) (hd:done.length=needs.length) (hni:ni < needs.length) (best k a c h:Int) (kd:Int) (s:List UInt8) (ok0:Bool):loopF (fun (x:Bool×Int)=>ref37_pick_b5 n U busy needs out done (ni:Int) best k a kd s c h x.1 x.2) n (ok0,0)=some (if (kd == 5)=true then ok0 else (ok0 && (List.range needs.length).all fun i=>!cfB needs out done (gt needs ni) a i)):=by
  by_cases h5:(kd == 5)=true
  · rw [if_pos h5]
    obtain ⟨f,hf⟩:∃ f,n=f+1:=⟨n - 1,by omega⟩
    have hb:ref37_pick_b5 n U busy needs out done (ni:Int) best k a kd s c h ok0 0=some (.inr ok0):=by
      have e:(kd != 5)=false:=by simpa using h5
      unfold ref37_pick_b5
      rw [e,ite_ff,Bool.and_false,cond_false]
    have:loopF (fun (x:Bool×Int)=>ref37_pick_b5 n U busy needs out done (ni:Int) best k a kd s c h x.1 x.2) (f+1) (ok0,0)=some ok0:=loopF_done hb
    rw [← hf] at this
    exact this
  · rw [if_neg h5]
    have e5:(kd != 5)=true:=by simpa using h5
    obtain ⟨y,hy,rfl⟩:=loopF_inv (body:=fun (x:Bool×Int)=>ref37_pick_b5 n U busy needs out done (ni:Int) best k a kd s c h x.1 x.2) (fun x=>∃ j:Nat,x.2=(j:Int)∧j≤needs.length∧x.1=(ok0 && (List.range j).all fun i=>!cfB needs out done (gt needs ni) a i)) (fun x=>needs.length - x.2.toNat) (fun y=>y=(ok0 && (List.range needs.length).all fun i=>!cfB needs out done (gt needs ni) a i)) (fun x hx=>by
      obtain ⟨ok,j'⟩:=x
      obtain ⟨j,e,hj,e1⟩:=hx
      simp only at e e1 ⊢
      subst e
      by_cases cj:(j:Int) < (needs.length:Int)
      · have hcf:(if (if (gt done j)=true then ((gt out j) == a) else false)=true then (if (!((((gt needs j).Kind) == ((gt needs ni).Kind)) && (((gt needs j).Serial) == ((gt needs ni).Serial))))=true then true else (((gt needs ni).Serial) == [])) else false)=cfB needs out done (gt needs ni) a j:=by
          rw [ite_ff,ite_ff,ite_tt];rfl
        refine .inl ⟨((ok && !cfB needs out done (gt needs ni) a j),((j+1:Nat):Int)),?_,⟨j+1,rfl,by omega,?_⟩,by simp only;omega⟩
        · have ew:IntKind.wrap .i64 ((j:Int)+1)=((j+1:Nat):Int):=by rw [wid (by omega)];omega
          unfold ref37_pick_b5
          simp only [Int.toNat_natCast]
          rw [e5,ite_ff,Bool.and_true,decide_eq_true cj,cond_true,hcf,gd_pos _ ⟨by omega,fun _=>by omega,fun _=>by omega,fun _=>by omega,fun _=>by omega,fun h=>h⟩]
          unfold ref37_pick_k6
          rw [ew]
          cases cfB needs out done (gt needs ni) a j <;> simp
        · simp only
          rw [e1,List.range_succ,List.all_append,Bool.and_assoc]
          simp
      · refine .inr ⟨ok,?_,?_⟩
        · unfold ref37_pick_b5
          rw [decide_eq_false cj,ite_ff,Bool.false_and,cond_false]
        · have:j=needs.length:=by omega
          rw [e1,this]) n (ok0,0) ⟨0,rfl,by omega,by simp⟩ (by simp only;omega)
    exact hy
section
variable (n:Nat) (hn:4194304≤n) (U:List TUnitConf) (busy:List Int) (needs:List TNeed) (out:List Int) (done:List Bool) (ni:Nat) (hU:U.length≤40) (hB:busy.length≤40) (hN:needs.length≤40) (ho:out.length=needs.length) (hd:done.length=needs.length) (hni:ni < needs.length)
include hn hU hB hN ho hd hni
theorem pick_val:∃ r:Int,ref37_pick n U busy needs out done (ni:Int)=some r∧((r = -1∧∀ k,k < U.length→candB U busy needs out done (gt needs ni) k=false)∨∃ b:Nat,r=(b:Int)∧b < U.length∧candB U busy needs out done (gt needs ni) b=true∧∀ k,k < U.length→candB U busy needs out done (gt needs ni) k=true→(gt U b).Addr≤(gt U k).Addr):=by
  obtain ⟨y,hy,hc⟩:=loopF_inv (body:=fun (x:Int×Int)=>ref37_pick_b2 n U busy needs out done (ni:Int) x.1 x.2) (fun x=>∃ j:Nat,x.2=(j:Int)∧j≤U.length∧((x.1 = -1∧∀ k,k < j→candB U busy needs out done (gt needs ni) k=false)∨∃ b:Nat,x.1=(b:Int)∧b < j∧candB U busy needs out done (gt needs ni) b=true∧∀ k,k < j→candB U busy needs out done (gt needs ni) k=true→(gt U b).Addr≤(gt U k).Addr)) (fun x=>U.length - x.2.toNat)
    (fun r=>(r = -1∧∀ k,k < U.length→candB U busy needs out done (gt needs ni) k=false)∨∃ b:Nat,r=(b:Int)∧b < U.length∧candB U busy needs out done (gt needs ni) b=true∧∀ k,k < U.length→candB U busy needs out done (gt needs ni) k=true→(gt U b).Addr≤(gt U k).Addr) (fun x hx=>by
    obtain ⟨best,j'⟩:=x
    obtain ⟨j,e,hj,hc⟩:=hx
    simp only at e hc ⊢
    subst e
    by_cases cj:(j:Int) < (U.length:Int)
    · have ew:IntKind.wrap .i64 ((j:Int)+1)=((j+1:Nat):Int):=by rw [wid (by omega)];omega
      have hj':j < U.length:=by omega
      have hb:ref37_pick_b2 n U busy needs out done (ni:Int) best (j:Int)=some (.inl ((if (candB U busy needs out done (gt needs ni) j && (decide (best < 0) || decide ((gt U j).Addr < (gt U best.toNat).Addr)))=true then (j:Int) else best),((j+1:Nat):Int))):=by
        unfold ref37_pick_b2
        rw [decide_eq_true cj,cond_true,gd_pos _ (by omega),first_val n hn U j hU hj',Option.bind_some]
        simp only [Int.toNat_natCast,rsuits_val]
        rw [gd_pos _ ⟨fun _=>by omega,fun _=>rfl⟩,ite_tt]
        have hfs:(!firstB U j || !((some (suitsB (gt U j) (gt needs ni))).getD default)) = !(firstB U j && suitsB (gt U j) (gt needs ni)):=by
          show (!firstB U j || !suitsB (gt U j) (gt needs ni))=_
          cases firstB U j <;> rfl
        rw [hfs]
        cases hfs2:(firstB U j && suitsB (gt U j) (gt needs ni)) with
        | false =>
          simp only [Bool.not_false,cond_true]
          unfold ref37_pick_k3 candB
          rw [ew,hfs2]
          rfl
        | true =>
          simp only [Bool.not_true,cond_false]
          rw [has_val n hn busy _ (by omega),gd_pos _ (show (!((gt U j).Kind == 5))=true→(some (busy.any fun y=>(gt U j).Addr == y)).isSome=true from fun _=>rfl),ok_loop n hn U busy needs out done ni hN ho hd hni,Option.bind_some]
          have hok:(if ((gt U j).Kind == 5)=true then (if ((gt U j).Kind == 5)=true then true else !((some (busy.any fun y=>(gt U j).Addr == y)).getD default)) else ((if ((gt U j).Kind == 5)=true then true else !((some (busy.any fun y=>(gt U j).Addr == y)).getD default)) && (List.range needs.length).all fun i=>!cfB needs out done (gt needs ni) (gt U j).Addr i))=okR busy needs out done (gt U j) (gt needs ni):=by
            unfold okR
            cases ((gt U j).Kind == 5) with
            | true=>simp
            | false=>simp
          rw [hok]
          have hcand:candB U busy needs out done (gt needs ni) j=okR busy needs out done (gt U j) (gt needs ni):=by
            unfold candB;rw [hfs2];rfl
          rw [hcand]
          unfold ref37_pick_k4
          have hbb:0≤best→best < (U.length:Int):=by
            rcases hc with ⟨h1,_⟩ | ⟨b,h1,h2,_⟩ <;> omega
          rw [gd_pos _ ⟨fun h=>by
            simp only [Bool.and_eq_true,Bool.not_eq_true',decide_eq_false_iff_not] at h
            have:=hbb (by omega)
            omega,fun h=>h⟩,ite_ff,ite_tt]
          unfold ref37_pick_k3
          rw [ew]
          cases (okR busy needs out done (gt U j) (gt needs ni) && (decide (best < 0) || decide ((gt U j).Addr < (gt U best.toNat).Addr))) <;> rfl
      refine .inl ⟨_,hb,⟨j+1,rfl,by omega,?_⟩,by simp only;omega⟩
      simp only
      rcases hc with ⟨h1,h2⟩ | ⟨b,h1,h2,h3,h4⟩
      · subst h1
        cases hcj:candB U busy needs out done (gt needs ni) j with
        | true =>
          rw [if_pos (by simp)]
          refine .inr ⟨j,rfl,by omega,hcj,fun k hk hck=>?_⟩
          by_cases e:k=j
          · subst e;omega
          · rw [h2 k (by omega)] at hck;cases hck
        | false =>
          rw [if_neg (by simp)]
          refine .inl ⟨rfl,fun k hk=>?_⟩
          by_cases e:k=j
          · subst e;exact hcj
          · exact h2 k (by omega)
      · subst h1
        have hd0:decide ((b:Int) < 0)=false:=decide_eq_false (by omega)
        rw [hd0,Bool.false_or,Int.toNat_natCast]
        cases hcj:candB U busy needs out done (gt needs ni) j with
        | false =>
          rw [if_neg (by simp)]
          refine .inr ⟨b,rfl,by omega,h3,fun k hk hck=>?_⟩
          by_cases e:k=j
          · subst e;rw [hcj] at hck;cases hck
          · exact h4 k (by omega) hck
        | true =>
          by_cases hlt:(gt U j).Addr < (gt U b).Addr
          · rw [if_pos (by simp [hlt])]
            refine .inr ⟨j,rfl,by omega,hcj,fun k hk hck=>?_⟩
            by_cases e:k=j
            · subst e;omega
            · have:=h4 k (by omega) hck;omega
          · rw [if_neg (by simp [hlt])]
            refine .inr ⟨b,rfl,by omega,h3,fun k hk hck=>?_⟩
            by_cases e:k=j
            · subst e;omega
            · exact h4 k (by omega) hck
    · refine .inr ⟨best,?_,?_⟩
      · unfold ref37_pick_b2
        rw [decide_eq_false cj,cond_false]
      · have:j=U.length:=by omega
        rw [this] at hc
        exact hc) n (-1,0) ⟨0,rfl,by omega,.inl ⟨rfl,fun k hk=>absurd hk (by omega)⟩⟩ (by simp only;omega)
  refine ⟨y,?_,hc⟩
  unfold ref37_pick
  rw [hy]
  rfl
end
end Go.Proofs.Ytcdofkflbnpjjaa
/-
  ch. 37: Assign: both answer alike.
-/
set_option maxHeartbeats 1000000
set_option linter.unusedVariables false
set_option linter.unusedSimpArgs false
set_option maxRecDepth 100000
namespace Go.Proofs.Ytcdofkflbnpjjaa
open Go.AE
theorem loop_two {X X' Y Y':Type} {body:X→Option (X ⊕ Y)} {body':X'→Option (X' ⊕ Y')} (I:X→X'→Prop) (μ:X→Nat) (S:Y→Y'→Prop)
    (hb:∀ x x',I x x'→(∃ y y',body x=some (.inl y)∧body' x'=some (.inl y')∧I y y'∧μ y < μ x)∨(∃ z z',body x=some (.inr z)∧body' x'=some (.inr z')∧S z z')) :
    ∀ (n:Nat) (x:X) (x':X'),I x x'→μ x < n→∃ z z',loopF body n x=some z∧loopF body' n x'=some z'∧S z z'
  | 0,x,x',_,h=>by omega
  | n+1,x,x',hI,h=>by
    rcases hb x x' hI with ⟨y,y',h1,h2,h3,h4⟩ | ⟨z,z',h1,h2,h3⟩
    · rw [loopF_step h1,loopF_step h2]
      exact loop_two I μ S hb n y y' h3 (by omega)
    · rw [loopF_done h1,loopF_done h2]
      exact ⟨z,z',rfl,rfl,h3⟩
theorem gt_set {α:Type} [Inhabited α] {b:List α} {i j:Nat} {v:α}:gt (b.set i v) j=if i=j∧i < b.length then v else gt b j:=by
  simp only [gt,List.getD_eq_getElem?_getD,List.getElem?_set]
  by_cases h:i=j
  · subst h
    by_cases h2:i < b.length
    · simp [h2]
    · simp [h2,List.getElem?_eq_none (Nat.le_of_not_lt h2)]
  · simp [h]
theorem find_least {p:TUnitConf→Bool}:∀ {S:List TUnitConf},S.Pairwise (fun x y=>x.Addr≤y.Addr)→∀ {u},S.find? p=some u→∀ v∈S,p v=true→u.Addr≤v.Addr
  | [],_,u,h,v,hv,_=>by simp at hv
  | a :: S,hs,u,h,v,hv,hp=>by
    rw [List.pairwise_cons] at hs
    rw [List.find?_cons] at h
    cases ha:p a with
    | true =>
      rw [ha] at h
      obtain rfl:=Option.some.inj h
      rcases List.mem_cons.1 hv with rfl | hv
      · exact Int.le_refl _
      · exact hs.1 v hv
    | false =>
      rw [ha] at h
      rcases List.mem_cons.1 hv with rfl | hv
      · rw [ha] at hp;cases hp
      · exact find_least hs.2 h v hv hp
structure UnitsOk (U S:List TUnitConf):Prop where
  mem:∀ u,u∈S↔∃ k,k < U.length∧firstP U k∧gt U k=u
  asc:S.Pairwise (fun x y=>x.Addr≤y.Addr)
theorem UnitsOk.inj {U S:List TUnitConf} (h:UnitsOk U S) {u v:TUnitConf} (hu:u∈S) (hv:v∈S) (e:u.Addr=v.Addr):u=v:=by
  obtain ⟨k,k1,k2,k3⟩:=(h.mem u).1 hu
  obtain ⟨l,l1,l2,l3⟩:=(h.mem v).1 hv
  subst k3
  subst l3
  by_cases c:k < l
  · exact absurd e (l2 k c)
  · by_cases c':l < k
    · exact absurd e.symm (k2 l c')
    · have:k=l:=by omega
      rw [this]
structure AInv (S:List TUnitConf) (busy:List Int) (needs:List TNeed) (g:List (Int×TNeed)) (out:List Int) (done:List Bool):Prop where
  lo:out.length=needs.length
  ld:done.length=needs.length
  i1:∀ i,i < needs.length→gt done i=true→∃ u∈S,u.Addr=gt out i∧suitsB u (gt needs i)=true∧(u.Kind=5∨((busy.any fun y=>u.Addr == y)=false∧tget u.Addr g=some (gt needs i)))
  i2:∀ a w,tget a g=some w→∃ i,i < needs.length∧gt done i=true∧gt out i=a∧gt needs i=w
  i3:∀ i j,i < needs.length→j < needs.length→i≠j→gt done i=true→gt done j=true→gt out i=gt out j→∀ u∈S,u.Addr=gt out i→u.Kind≠5→(gt needs i).Serial≠[]
section
variable {U S:List TUnitConf} (hUS:UnitsOk U S) {busy:List Int} {needs:List TNeed} {g:List (Int×TNeed)} {out:List Int} {done:List Bool} (hI:AInv S busy needs g out done)
include hUS hI
theorem AInv.free {u:TUnitConf} (hu:u∈S) (w:TNeed):freeB busy g u w=okR busy needs out done u w:=by
  unfold freeB okR
  cases h5:(u.Kind == 5) with
  | true=>rfl
  | false =>
    simp only [Bool.false_or]
    have h5':u.Kind≠5:=by simpa using h5
    have e:takenB g u.Addr w=(List.range needs.length).any fun i=>cfB needs out done w u.Addr i:=by
      rw [Bool.eq_iff_iff,List.any_eq_true]
      unfold takenB cfB
      constructor
      · intro h
        simp only [Bool.and_eq_true] at h
        obtain ⟨h1,h2⟩:=h
        obtain ⟨w',hw⟩:=Option.isSome_iff_exists.1 h1
        rw [hw] at h2
        obtain ⟨i,q1,q2,q3,q4⟩:=hI.i2 _ _ hw
        refine ⟨i,List.mem_range.2 q1,?_⟩
        rw [q2,q3,q4]
        simpa using h2
      · rintro ⟨i,hi,h⟩
        rw [List.mem_range] at hi
        simp only [Bool.and_eq_true,beq_iff_eq] at h
        obtain ⟨⟨q1,q2⟩,q3⟩:=h
        obtain ⟨v,v1,v2,v3,v4⟩:=hI.i1 i hi q1
        have:v=u:=hUS.inj v1 hu (v2.trans q2)
        subst this
        rcases v4 with v4 | ⟨v4,v5⟩
        · exact absurd v4 h5'
        · rw [v5];simpa using q3
    rw [e,Bool.not_or]
    congr 1
    rw [List.all_eq_not_any_not]
    simp
theorem AInv.pick {w:TNeed} {r:Int} (hr:(r = -1∧∀ k,k < U.length→candB U busy needs out done w k=false)∨∃ b:Nat,r=(b:Int)∧b < U.length∧candB U busy needs out done w b=true∧∀ k,k < U.length→candB U busy needs out done w k=true→(gt U b).Addr≤(gt U k).Addr) :
    (r = -1∧S.find? (fun u=>suitsB u w && freeB busy g u w)=none)∨∃ (b:Nat) (u:TUnitConf),r=(b:Int)∧b < U.length∧S.find? (fun u=>suitsB u w && freeB busy g u w)=some u∧u∈S∧suitsB u w=true∧freeB busy g u w=true∧(gt U b).Addr=u.Addr:=by
  have hcand:∀ k,k < U.length→firstP U k→candB U busy needs out done w k=(suitsB (gt U k) w && freeB busy g (gt U k) w):=by
    intro k hk hf
    have hm:gt U k∈S:=(hUS.mem _).2 ⟨k,hk,hf,rfl⟩
    unfold candB
    rw [firstB_iff.2 hf,hI.free hUS hm w,Bool.true_and]
  rcases hr with ⟨h1,h2⟩ | ⟨b,h1,h2,h3,h4⟩
  · refine .inl ⟨h1,?_⟩
    rw [List.find?_eq_none]
    intro u hu
    obtain ⟨k,k1,k2,k3⟩:=(hUS.mem u).1 hu
    have:=h2 k k1
    rw [hcand k k1 k2,k3] at this
    rw [this];decide
  · have hfb:firstP U b:=by
      unfold candB at h3
      simp only [Bool.and_eq_true] at h3
      exact firstB_iff.1 h3.1.1
    have hmb:gt U b∈S:=(hUS.mem _).2 ⟨b,h2,hfb,rfl⟩
    have h3':=h3
    rw [hcand b h2 hfb] at h3'
    cases hf:S.find? (fun u=>suitsB u w && freeB busy g u w) with
    | none =>
      rw [List.find?_eq_none] at hf
      exact absurd h3' (hf _ hmb)
    | some u =>
      have hu:=List.mem_of_find?_eq_some hf
      have hp:=List.find?_some hf
      have hp':=hp
      simp only [Bool.and_eq_true] at hp'
      obtain ⟨k,k1,k2,k3⟩:=(hUS.mem u).1 hu
      have l1:=h4 k k1 (by rw [hcand k k1 k2,k3];exact hp)
      have l2:=find_least hUS.asc hf _ hmb h3'
      rw [k3] at l1
      exact .inr ⟨b,u,h1,h2,rfl,hu,hp'.1,hp'.2,Int.le_antisymm l1 l2⟩
theorem AInv.give {u:TUnitConf} (hu:u∈S) {ni:Nat} (hni:ni < needs.length) (hd:gt done ni=false) (hs:suitsB u (gt needs ni)=true) (hf:freeB busy g u (gt needs ni)=true) :
    AInv S busy needs (gaveM g u (gt needs ni)) (out.set ni u.Addr) (done.set ni true):=by
  have lo:=hI.lo
  have ld:=hI.ld
  have go:∀ i,i < needs.length→gt (out.set ni u.Addr) i=if ni=i then u.Addr else gt out i:=by
    intro i hi
    rw [gt_set]
    by_cases e:ni=i
    · rw [if_pos ⟨e,by omega⟩,if_pos e]
    · rw [if_neg (fun h=>e h.1),if_neg e]
  have gd:∀ i,i < needs.length→gt (done.set ni true) i=if ni=i then true else gt done i:=by
    intro i hi
    rw [gt_set]
    by_cases e:ni=i
    · rw [if_pos ⟨e,by omega⟩,if_pos e]
    · rw [if_neg (fun h=>e h.1),if_neg e]
  -- another need that has this unit
  have other:∀ i,i < needs.length→gt done i=true→gt out i=u.Addr→u.Kind≠5→gt needs i=gt needs ni∧(gt needs ni).Serial≠[]∧tget u.Addr g=some (gt needs i):=by
    intro i hi h1 h2 h5
    obtain ⟨v,v1,v2,v3,v4⟩:=hI.i1 i hi h1
    have:v=u:=hUS.inj v1 hu (v2.trans h2)
    subst this
    rcases v4 with v4 | ⟨v4,v5⟩
    · exact absurd v4 h5
    · unfold freeB takenB at hf
      have h5':(v.Kind == 5)=false:=by simpa using h5
      rw [h5',v5] at hf
      simp only [Bool.false_or,Option.isSome_some,Option.getD_some,Bool.true_and,Bool.not_or,Bool.and_eq_true,Bool.not_eq_true',Bool.not_eq_false'] at hf
      obtain ⟨_,hf1,hf2⟩:=hf
      exact ⟨needEq_iff.1 (by simpa using hf1),by simpa using hf2,v5⟩
  refine ⟨by rw [List.length_set];exact lo,by rw [List.length_set];exact ld,fun i hi h=>?_,fun a w h=>?_,fun i j hi hj hij h1 h2 h3 v hv h4 h5=>?_⟩
  · rw [gd i hi] at h
    rw [go i hi]
    by_cases e:ni=i
    · subst e
      rw [if_pos rfl]
      refine ⟨u,hu,rfl,hs,?_⟩
      by_cases h5:u.Kind=5
      · exact .inl h5
      · right
        have h5':(u.Kind == 5)=false:=by simpa using h5
        have hf':=hf
        unfold freeB at hf'
        rw [h5'] at hf'
        simp only [Bool.false_or,Bool.not_or,Bool.and_eq_true,Bool.not_eq_true'] at hf'
        refine ⟨hf'.1,?_⟩
        unfold gaveM
        rw [h5',if_neg (by decide),tget_tset]
        simp
    · rw [if_neg e] at h ⊢
      obtain ⟨v,v1,v2,v3,v4⟩:=hI.i1 i hi h
      refine ⟨v,v1,v2,v3,?_⟩
      rcases v4 with v4 | ⟨v4,v5⟩
      · exact .inl v4
      · by_cases h5v:v.Kind=5
        · exact .inl h5v
        · right
          refine ⟨v4,?_⟩
          unfold gaveM
          cases h5:(u.Kind == 5) with
          | true=>rw [if_pos rfl];exact v5
          | false =>
            rw [if_neg (by decide),tget_tset]
            by_cases ea:v.Addr=u.Addr
            · have:v=u:=hUS.inj v1 hu ea
              subst this
              obtain ⟨q1,_,_⟩:=other i hi h (v2.symm) (by simpa using h5)
              rw [q1];simp
            · have:(v.Addr == u.Addr)=false:=by simpa using ea
              rw [this];simpa using v5
  · have old:tget a g=some w→∃ i,i < needs.length∧gt (done.set ni true) i=true∧gt (out.set ni u.Addr) i=a∧gt needs i=w:=by
      intro h
      obtain ⟨i,q1,q2,q3,q4⟩:=hI.i2 a w h
      have e:ni≠i:=by rintro rfl;rw [hd] at q2;cases q2
      exact ⟨i,q1,by rw [gd i q1,if_neg e];exact q2,by rw [go i q1,if_neg e];exact q3,q4⟩
    unfold gaveM at h
    cases h5:(u.Kind == 5) with
    | true=>rw [h5,if_pos rfl] at h;exact old h
    | false =>
      rw [h5,if_neg (by decide),tget_tset] at h
      by_cases ea:a=u.Addr
      · subst ea
        rw [show (u.Addr == u.Addr)=true by simp,if_pos rfl] at h
        obtain rfl:=Option.some.inj h
        exact ⟨ni,hni,by rw [gd ni hni,if_pos rfl],by rw [go ni hni,if_pos rfl],rfl⟩
      · have:(a == u.Addr)=false:=by simpa using ea
        rw [this,if_neg (by decide)] at h
        exact old h
  · rw [gd i hi] at h1
    rw [gd j hj] at h2
    rw [go i hi,go j hj] at h3
    rw [go i hi] at h4
    by_cases ei:ni=i
    · subst ei
      rw [if_pos rfl] at h3 h4
      rw [if_neg hij] at h2 h3
      have:v=u:=hUS.inj hv hu h4
      subst this
      exact (other j hj h2 h3.symm h5).2.1
    · rw [if_neg ei] at h1 h3 h4
      by_cases ej:ni=j
      · subst ej
        rw [if_pos rfl] at h3
        have:v=u:=hUS.inj hv hu (h4.trans h3)
        subst this
        obtain ⟨q1,q2,_⟩:=other i hi h1 h3 h5
        rw [q1];exact q2
      · rw [if_neg ej] at h2 h3
        exact hI.i3 i j hi hj hij h1 h2 h3 v hv h4 h5
end
end Go.Proofs.Ytcdofkflbnpjjaa
/-
  ch. 37: Assign: both answer alike, the loops.
-/
set_option maxHeartbeats 1000000
set_option linter.unusedVariables false
set_option linter.unusedSimpArgs false
set_option maxRecDepth 100000
namespace Go.Proofs.Ytcdofkflbnpjjaa
open Go.AE
def Dn (needs:List TNeed) (pass k:Nat) (done:List Bool):Prop:=∀ i,i < needs.length→(gt done i=true↔((gt needs i).Serial≠[]∧(pass=1∨i < k))∨((gt needs i).Serial=[]∧pass=1∧i < k))
theorem inner_both (n:Nat) (hn:4194304≤n) {U S:List TUnitConf} (hUS:UnitsOk U S) (hU:U.length≤40) (hS:S.length≤64) (busy:List Int) (hB:busy.length≤40) (needs:List TNeed) (hN:needs.length≤40) (pass:Nat) (hp:pass=0∨pass=1) (v:List Bool) (w:Int)
    (g:List (Int×TNeed)) (out:List Int) (done:List Bool) (hI:AInv S busy needs g out done) (hD:Dn needs pass 0 done) :
    ∃ z z',loopF (fun (x:(List (Int×TNeed))×(List Int)×Int)=>enqueue_Assign_b6 n needs S busy (decide (pass=1)) v w (needs.length:Int) x.1 x.2.1 x.2.2) n (g,out,0)=some z ∧
      loopF (fun (x:(List Int)×(List Bool)×Int)=>ref37_Assign_b5 n U busy needs (pass:Int) x.1 x.2.1 x.2.2) n (out,done,0)=some z' ∧
      ((z = .inl ([],370)∧z' = .inl ([],370)∧0 < needs.length)∨∃ g' out' done',z = .inr (g',out')∧z' = .inr (out',done')∧AInv S busy needs g' out' done'∧Dn needs pass needs.length done'):=by
  refine loop_two (fun (x:(List (Int×TNeed))×(List Int)×Int) (x':(List Int)×(List Bool)×Int)=>∃ (k:Nat) (g:List (Int×TNeed)) (out:List Int) (done:List Bool),x=(g,out,(k:Int))∧x'=(out,done,(k:Int))∧k≤needs.length∧AInv S busy needs g out done∧Dn needs pass k done) (fun x=>needs.length - x.2.2.toNat)
    (fun (z:(List Int×Int) ⊕ (List (Int×TNeed)×List Int)) (z':(List Int×Int) ⊕ (List Int×List Bool))=>(z = .inl ([],370)∧z' = .inl ([],370)∧0 < needs.length)∨∃ g' out' done',z = .inr (g',out')∧z' = .inr (out',done')∧AInv S busy needs g' out' done'∧Dn needs pass needs.length done') (fun x x' hx=>?_) n (g,out,0) (out,done,0) ⟨0,g,out,done,rfl,rfl,by omega,hI,hD⟩ (by simp only;omega)
  obtain ⟨k,g,out,done,rfl,rfl,hk,hI,hD⟩:=hx
  simp only
  have lo:=hI.lo
  have ld:=hI.ld
  by_cases c:(k:Int) < (needs.length:Int)
  · have hkl:k < needs.length:=by omega
    have ew:IntKind.wrap .i64 ((k:Int)+1)=((k+1:Nat):Int):=by rw [wid (by omega)];omega
    have hpb:((pass:Int) == 1)=decide (pass=1):=by
      rcases hp with rfl | rfl <;> rfl
    unfold enqueue_Assign_b6 ref37_Assign_b5
    rw [decide_eq_true c,cond_true,cond_true,gd_pos _ (by omega),gd_pos _ (by omega),Int.toNat_natCast,hpb]
    cases hsk:(((gt needs k).Serial == []) != decide (pass=1)) with
    | true =>
      left
      refine ⟨(g,out,((k+1:Nat):Int)),(out,done,((k+1:Nat):Int)),?_,?_,⟨k+1,g,out,done,rfl,rfl,by omega,hI,fun i hi=>?_⟩,by simp only;omega⟩
      · rw [cond_true];unfold enqueue_Assign_k7;rw [ew]
      · rw [cond_true];unfold ref37_Assign_k6;rw [ew]
      · rw [hD i hi]
        by_cases e:i=k
        · subst e
          have hsk':((gt needs i).Serial=[]∧pass≠1)∨((gt needs i).Serial≠[]∧pass=1):=by
            by_cases s0:(gt needs i).Serial=[]
            · left
              refine ⟨s0,fun hp1=>?_⟩
              rw [s0,hp1] at hsk;simp at hsk
            · right
              refine ⟨s0,?_⟩
              by_cases hp1:pass=1
              · exact hp1
              · have:((gt needs i).Serial == [])=false:=by simpa using s0
                rw [this,decide_eq_false hp1] at hsk;simp at hsk
          rcases hsk' with ⟨q1,q2⟩ | ⟨q1,q2⟩
          · simp [q1,q2]
          · simp [q1,q2]
        · have:(i < k+1)↔(i < k):=by omega
          rw [this]
    | false =>
      have hsk':((gt needs k).Serial≠[]∧pass=0)∨((gt needs k).Serial=[]∧pass=1):=by
        by_cases s0:(gt needs k).Serial=[]
        · right
          refine ⟨s0,?_⟩
          by_cases hp1:pass=1
          · exact hp1
          · rw [s0,decide_eq_false hp1] at hsk;simp at hsk
        · left
          refine ⟨s0,?_⟩
          rcases hp with h | h
          · exact h
          · have:((gt needs k).Serial == [])=false:=by simpa using s0
            rw [this,decide_eq_true h] at hsk;simp at hsk
      have hdk:gt done k=false:=by
        cases h:gt done k with
        | false=>rfl
        | true =>
          have:=(hD k hkl).1 h
          rcases hsk' with ⟨q1,q2⟩ | ⟨q1,q2⟩
          · subst q2;rcases this with ⟨_,h | h⟩ | ⟨_,h,_⟩ <;> omega
          · rcases this with ⟨h,_⟩ | ⟨_,_,h⟩
            · exact absurd q1 h
            · omega
      rw [cond_false,cond_false,assign_val n hn S busy g (gt needs k) hS (by omega)]
      obtain ⟨r,hr,hrc⟩:=pick_val n hn U busy needs out done k hU hB hN lo ld hkl
      rw [hr,Option.bind_some,Option.bind_some]
      rcases hI.pick hUS hrc with ⟨h1,h2⟩ | ⟨b,u,h1,h2,h3,h4,h5,h6,h7⟩
      · right
        refine ⟨.inl ([],370),.inl ([],370),?_,?_,.inl ⟨rfl,rfl,by omega⟩⟩
        · rw [h2];rfl
        · subst h1;rfl
      · left
        subst h1
        refine ⟨(gaveM g u (gt needs k),out.set k u.Addr,((k+1:Nat):Int)),(out.set k u.Addr,done.set k true,((k+1:Nat):Int)),?_,?_,⟨k+1,_,_,_,rfl,rfl,by omega,hI.give hUS h4 hkl hdk h5 h6,fun i hi=>?_⟩,by simp only;omega⟩
        · rw [h3]
          simp only [Bool.not_true,cond_false]
          rw [gd_pos _ (by omega)]
          unfold enqueue_Assign_k7
          rw [ew]
        · rw [decide_eq_false (by omega),cond_false,gd_pos _ (by omega),gd_pos _ (by omega),Int.toNat_natCast,h7]
          unfold ref37_Assign_k6
          rw [ew]
        · rw [gt_set]
          by_cases e:k=i
          · subst e
            rw [if_pos ⟨rfl,by omega⟩]
            rcases hsk' with ⟨q1,q2⟩ | ⟨q1,q2⟩
            · simp [q1,q2]
            · simp [q1,q2]
          · rw [if_neg (fun h=>e h.1),hD i hi]
            have:(i < k+1)↔(i < k):=by omega
            rw [this]
  · have:k=needs.length:=by omega
    right
    refine ⟨.inr (g,out),.inr (out,done),?_,?_,.inr ⟨g,out,done,rfl,rfl,hI,by rw [← this];exact hD⟩⟩
    · unfold enqueue_Assign_b6
      rw [decide_eq_false c,cond_false]
    · unfold ref37_Assign_b5
      rw [decide_eq_false c,cond_false]
def Ends (U:List TUnitConf) (busy:List Int) (needs:List TNeed) (a:List Int) (e:Int):Prop :=
  ((e=430∨e=370)∧a=[]∧0 < needs.length)∨(e=0∧∃ S g done,UnitsOk U S∧AInv S busy needs g a done∧∀ i,i < needs.length→gt done i=true)
def nextW (n:Nat) (needs:List TNeed) (S:List TUnitConf) (busy:List Int) (w:Int) (z:(List Int×Int) ⊕ (List (Int×TNeed)×List Int)):Option (((List (Int×TNeed))×(List Int)×Int) ⊕ ((((List Int)×Int) ⊕ ((List Int))))) :=
  match z with | .inl vv=>some (.inr (.inl (vv.1,vv.2))) | .inr vv=>enqueue_Assign_k5 n needs S busy vv.1 vv.2 [false,true] w
def nextR (n:Nat) (U:List TUnitConf) (busy:List Int) (needs:List TNeed) (w:Int) (z:(List Int×Int) ⊕ (List Int×List Bool)):Option (((List Int)×(List Bool)×Int) ⊕ ((((List Int)×Int) ⊕ ((List Int))))) :=
  match z with | .inl vv=>some (.inr (.inl (vv.1,vv.2))) | .inr vv=>ref37_Assign_k4 n U busy needs vv.1 vv.2 w
theorem nextW_r (n:Nat) (needs:List TNeed) (S:List TUnitConf) (busy:List Int) (w w':Int) (h:IntKind.wrap .i64 (w+1)=w') (g:List (Int×TNeed)) (o:List Int):nextW n needs S busy w (.inr (g,o))=some (.inl (g,o,w')):=by
  unfold nextW enqueue_Assign_k5
  simp only [h]
theorem nextR_r (n:Nat) (U:List TUnitConf) (busy:List Int) (needs:List TNeed) (w w':Int) (h:IntKind.wrap .i64 (w+1)=w') (o:List Int) (d:List Bool):nextR n U busy needs w (.inr (o,d))=some (.inl (o,d,w')):=by
  unfold nextR ref37_Assign_k4
  simp only [h]
theorem outer_both (n:Nat) (hn:4194304≤n) {U S:List TUnitConf} (hUS:UnitsOk U S) (hU:U.length≤40) (hS:S.length≤64) (busy:List Int) (hB:busy.length≤40) (needs:List TNeed) (hN:needs.length≤40) :
    ∃ a e,enqueue_Assign_k2 n needs S busy=some (a,e)∧ref37_Assign_k1 n U busy needs=some (a,e)∧Ends U busy needs a e:=by
  have hz:∀ (x:Int),(zreps needs.length x).length=needs.length:=fun x=>zreps_len _ _
  have hzb:(zreps needs.length false).length=needs.length:=zreps_len _ _
  have hzg:∀ i,gt (zreps needs.length false) i=false:=by
    intro i
    simp only [gt,zreps,List.getD_eq_getElem?_getD,List.getElem?_replicate]
    split <;> rfl
  have hI0:AInv S busy needs [] (zreps needs.length 0) (zreps needs.length false) :=
    ⟨hz 0,hzb,fun i _ h=>(by rw [hzg] at h;cases h),fun a w h=>(by cases h),fun i j _ _ _ h=>(by rw [hzg] at h;cases h)⟩
  obtain ⟨f,hf⟩:∃ f,n=f+3:=⟨n - 3,by omega⟩
  unfold enqueue_Assign_k2 ref37_Assign_k1
  rw [gd_pos _ (by omega),gd_pos _ (by omega),gd_pos _ (by omega),Int.toNat_natCast]
  obtain ⟨z0,z0',p1,p2,p3⟩:=inner_both n hn hUS hU hS busy hB needs hN 0 (.inl rfl) [false,true] 0 [] (zreps needs.length 0) (zreps needs.length false) hI0 (fun i hi=>by rw [hzg];simp)
  have d0:decide ((0:Nat)=1)=false:=rfl
  have d1:decide ((1:Nat)=1)=true:=rfl
  rw [d0] at p1
  have g0:gt [false,true] (Int.toNat 0)=false:=rfl
  have g1:gt [false,true] (Int.toNat 1)=true:=rfl
  have w0:IntKind.wrap .i64 (0+1)=1:=by decide
  have w1:IntKind.wrap .i64 (1+1)=2:=by decide
  have c0:((0:Nat):Int)=0:=rfl
  have c1:((1:Nat):Int)=1:=rfl
  rw [c0] at p2
  have B0:enqueue_Assign_b4 n needs S busy [false,true] [] (zreps needs.length 0) 0=nextW n needs S busy 0 z0:=by
    unfold enqueue_Assign_b4
    rw [show decide ((0:Int) < 2)=true from rfl,cond_true,gd_pos _ (by simp),g0,p1,Option.bind_some]
    rfl
  have R0:ref37_Assign_b3 n U busy needs (zreps needs.length 0) (zreps needs.length false) 0=nextR n U busy needs 0 z0':=by
    unfold ref37_Assign_b3
    rw [show decide ((0:Int) < 2)=true from rfl,cond_true,p2,Option.bind_some]
    rfl
  rcases p3 with ⟨rfl,rfl,hpos⟩ | ⟨ga,oa,da,rfl,rfl,hIa,hDa⟩
  · refine ⟨[],370,?_,?_,.inl ⟨.inr rfl,rfl,hpos⟩⟩
    · have:loopF (fun (x:(List (Int×TNeed))×(List Int)×Int)=>enqueue_Assign_b4 n needs S busy [false,true] x.1 x.2.1 x.2.2) n ([],zreps needs.length 0,0)=some (.inl ([],370)):=by
        rw [hf] at B0 ⊢
        exact loopF_done B0
      rw [this,Option.bind_some]
    · have:loopF (fun (x:(List Int)×(List Bool)×Int)=>ref37_Assign_b3 n U busy needs x.1 x.2.1 x.2.2) n (zreps needs.length 0,zreps needs.length false,0)=some (.inl ([],370)):=by
        rw [hf] at R0 ⊢
        exact loopF_done R0
      rw [this,Option.bind_some]
  · obtain ⟨z1,z1',q1,q2,q3⟩:=inner_both n hn hUS hU hS busy hB needs hN 1 (.inr rfl) [false,true] 1 ga oa da hIa (fun i hi=>by
      rw [hDa i hi]
      simp [hi])
    rw [d1] at q1
    rw [c1] at q2
    rw [nextW_r n needs S busy 0 1 w0] at B0
    rw [nextR_r n U busy needs 0 1 w0] at R0
    have B1:enqueue_Assign_b4 n needs S busy [false,true] ga oa 1=nextW n needs S busy 1 z1:=by
      unfold enqueue_Assign_b4
      rw [show decide ((1:Int) < 2)=true from rfl,cond_true,gd_pos _ (by simp),g1,q1,Option.bind_some]
      rfl
    have R1:ref37_Assign_b3 n U busy needs oa da 1=nextR n U busy needs 1 z1':=by
      unfold ref37_Assign_b3
      rw [show decide ((1:Int) < 2)=true from rfl,cond_true,q2,Option.bind_some]
      rfl
    rcases q3 with ⟨rfl,rfl,hpos⟩ | ⟨gb,ob,db,rfl,rfl,hIb,hDb⟩
    · refine ⟨[],370,?_,?_,.inl ⟨.inr rfl,rfl,hpos⟩⟩
      · have:loopF (fun (x:(List (Int×TNeed))×(List Int)×Int)=>enqueue_Assign_b4 n needs S busy [false,true] x.1 x.2.1 x.2.2) n ([],zreps needs.length 0,0)=some (.inl ([],370)):=by
          rw [hf] at B0 B1 ⊢
          exact (loopF_step B0).trans (loopF_done B1)
        rw [this,Option.bind_some]
      · have:loopF (fun (x:(List Int)×(List Bool)×Int)=>ref37_Assign_b3 n U busy needs x.1 x.2.1 x.2.2) n (zreps needs.length 0,zreps needs.length false,0)=some (.inl ([],370)):=by
          rw [hf] at R0 R1 ⊢
          exact (loopF_step R0).trans (loopF_done R1)
        rw [this,Option.bind_some]
    · rw [nextW_r n needs S busy 1 2 w1] at B1
      rw [nextR_r n U busy needs 1 2 w1] at R1
      have B2:enqueue_Assign_b4 n needs S busy [false,true] gb ob 2=some (.inr (.inr ob)):=by
        unfold enqueue_Assign_b4;rfl
      have R2:ref37_Assign_b3 n U busy needs ob db 2=some (.inr (.inr ob)):=by
        unfold ref37_Assign_b3;rfl
      refine ⟨ob,0,?_,?_,.inr ⟨rfl,S,gb,db,hUS,hIb,fun i hi=>?_⟩⟩
      · have:loopF (fun (x:(List (Int×TNeed))×(List Int)×Int)=>enqueue_Assign_b4 n needs S busy [false,true] x.1 x.2.1 x.2.2) n ([],zreps needs.length 0,0)=some (.inr ob):=by
          rw [hf] at B0 B1 B2 ⊢
          exact (loopF_step B0).trans ((loopF_step B1).trans (loopF_done B2))
        rw [this,Option.bind_some]
        rfl
      · have:loopF (fun (x:(List Int)×(List Bool)×Int)=>ref37_Assign_b3 n U busy needs x.1 x.2.1 x.2.2) n (zreps needs.length 0,zreps needs.length false,0)=some (.inr ob):=by
          rw [hf] at R0 R1 R2 ⊢
          exact (loopF_step R0).trans ((loopF_step R1).trans (loopF_done R2))
        rw [this,Option.bind_some]
        rfl
      · rw [hDb i hi]
        by_cases s0:(gt needs i).Serial=[]
        · exact .inr ⟨s0,rfl,hi⟩
        · exact .inl ⟨s0,.inl rfl⟩
theorem assign_both (n:Nat) (hn:4194304≤n) (U:List TUnitConf) (busy:List Int) (needs:List TNeed) (hU:U.length≤40) (hB:busy.length≤40) (hN:needs.length≤40) :
    ∃ a e,enqueue_Assign n U busy needs=some (a,e)∧ref37_Assign n U busy needs=some (a,e)∧Ends U busy needs a e:=by
  obtain ⟨p,hp,hpl,hpm⟩:=units_loop n hn U busy needs hU
  obtain ⟨S,s1,s2,s3⟩:=sort_val n hn p (by omega)
  have hUS:UnitsOk U S:=⟨fun u=>by rw [s2.mem_iff];exact hpm u,s3⟩
  have hSl:S.length=p.length:=s2.length_eq
  have hm:∀ w,(S.any fun u=>suitsB u w)=((List.range U.length).any fun k=>firstB U k && suitsB (gt U k) w):=by
    intro w
    rw [Bool.eq_iff_iff,List.any_eq_true,List.any_eq_true]
    constructor
    · rintro ⟨u,h1,h2⟩
      obtain ⟨k,k1,k2,k3⟩:=(hUS.mem u).1 h1
      exact ⟨k,List.mem_range.2 k1,by rw [firstB_iff.2 k2,k3,h2];rfl⟩
    · rintro ⟨k,h1,h2⟩
      rw [Bool.and_eq_true] at h2
      exact ⟨gt U k,(hUS.mem _).2 ⟨k,List.mem_range.1 h1,firstB_iff.1 h2.1,rfl⟩,h2.2⟩
  have b8:=loop_any (body:=fun (x:Int)=>enqueue_Assign_b8 n needs S busy (needs.length:Int) x) needs (fun w=>!(S.any fun u=>suitsB u w)) (.inl ([],430)) (.inr ()) (fun k hk=>by
    have h1:decide ((k:Int) < (needs.length:Int))=true:=by simp;omega
    simp only [enqueue_Assign_b8,h1,cond_true,Int.toNat_natCast,gt_lt hk]
    rw [gd_pos _ (by omega),some3_val n hn S needs[k] (by omega),Option.bind_some,wid (by omega)]
    cases (S.any fun u=>suitsB u needs[k]) <;> simp) (by
    have h1:decide ((needs.length:Int) < (needs.length:Int))=false:=by simp
    simp only [enqueue_Assign_b8,h1,cond_false]) (n:=n) (by omega)
  have r7:=loop_any (body:=fun (x:Int)=>ref37_Assign_b7 n U busy needs x) needs (fun w=>!(S.any fun u=>suitsB u w)) (.inl ([],430)) (.inr ()) (fun k hk=>by
    have h1:decide ((k:Int) < (needs.length:Int))=true:=by simp;omega
    simp only [ref37_Assign_b7,h1,cond_true,Int.toNat_natCast,gt_lt hk]
    rw [gd_pos _ (by omega),mounted_val n hn U needs[k] hU,← hm,Option.bind_some,wid (by omega)]
    cases (S.any fun u=>suitsB u needs[k]) <;> simp) (by
    have h1:decide ((needs.length:Int) < (needs.length:Int))=false:=by simp
    simp only [ref37_Assign_b7,h1,cond_false]) (n:=n) (by omega)
  have e1:enqueue_Assign n U busy needs=enqueue_Assign_k1 n needs p busy:=by
    unfold enqueue_Assign
    rw [hp,Option.bind_some]
  rw [e1]
  unfold enqueue_Assign_k1 ref37_Assign
  rw [s1,Option.bind_some,gd_pos _ hSl,b8,r7,Option.bind_some,Option.bind_some]
  cases hu:(needs.any fun w=>!(S.any fun u=>suitsB u w)) with
  | true =>
    refine ⟨[],430,rfl,rfl,.inl ⟨.inl rfl,rfl,?_⟩⟩
    obtain ⟨w,h1,_⟩:=List.any_eq_true.1 hu
    exact List.length_pos_of_mem h1
  | false =>
    exact outer_both n hn hUS hU (by omega) busy hB needs hN
end Go.Proofs.Ytcdofkflbnpjjaa
