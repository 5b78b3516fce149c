/- Text. -/
import Derived.Test.YtfhnelkbiihpiaaGreatDoorAE25
set_option linter.unusedVariables false
open _root_.Option.some renaming injEq→ja
namespace Go.AE
open Go.RowKit (Below)
variable {P:Program} {w0:Base} {w:World} {N kp:Nat} {σ:Nat→RefI} {s:S} {tms:Array Value} {ρ:Operand→Value} {al:Nat→Prop} {Γ:List Fn}
def nilZ (hp:Nat→Blk):A→Option Out
 | .box id off=>some ⟨True,True,.box id off,hp,true⟩
 | .elt id sz ks i off=>if live hp id then some ⟨True,True,.elt id sz ks i off,hp,true⟩ else none
 | .pp ks cells off=>some ⟨True,True,.pp ks cells off,hp,true⟩
 | _=>none
def dwx (P:Program) (d:Option Nat) (t:TypeId) (hp:Nat→Blk) (x:A):Option Out :=
 match d,mapE P t,x with
 | some d,some _,.mref id=>match hp id with
  | .mp kk vp m=>if aqh (hp (key d 0)) then some ⟨True,True,.mref (key d 0),upd (upd hp id .gone) (key d 0) (.it kk vp none m),false⟩ else none
  | _=>none
 | _,_,_=>none
def cyl (hp:Nat→Blk):A→Option Out
 | .mref id=>match hp id with
  | .it kk vp (some c) _=>some ⟨True,True,.tup [.c kk c.1,pack vp.1 (aku vp.2 c.2 0)],hp,true⟩
  | _=>none
 | _=>none
def opZ (P:Program) (o:Oper) (hp:Nat→Blk) (v:Operand→A):Option Out :=
 match o.op with
 | .nilCheck x=>nilZ hp (v x)
 | .range t x=>dwx P o.dst t hp (v x)
 | .entry x=>cyl hp (v x)
 | _=>none
def ezv (P:Program) (o:Oper) (s:S) (K:S→Prop):Prop :=
 match o.guard with
 | none=>match opZ P o s.hp (aj4 s.tm) with
  | some r=>aj6 s.tm o.op.operands.toList∧r.pre∧(r.fact→K ⟨updD s.tm o.dst r.val,r.hp⟩)
  | none=>False
 | some _=>False
theorem cz8 {o:Oper} {x:Operand} {a:A} {r:Out} (h:RelL P w0 N σ s tms w) (hf:nilZ s.hp a=some r) (ho:o.op = .nilCheck x) (hx:ARel P w (Al w0 w σ s.hp) σ (ρ x) a):OpOk P w0 N s tms o ρ w r:=by
 have go:∀ p,ρ x = .pointer (some p)→r.fact→r.hp=s.hp→r.val=a→OpOk P w0 N s tms o ρ w r:=by
  intro p hp hf hh hv
  refine OpOk.pure (v:=ρ x) h ?_ hf hh (by rw [hv];exact hx)
  simp only [execOp,ho,hp]
  rfl
 unfold nilZ at hf
 split at hf
 ·simp only [ja] at hf;subst hf
  generalize hv:ρ x=v at hx
  cases hx with | box id off b hs=>exact go _ hv trivial rfl rfl
 ·rename_i id sz ks i off
  split at hf
  ·rename_i hl
   simp only [ja] at hf;subst hf
   have hg:=(aze h hl).1
   generalize hv:ρ x=v at hx
   cases hx with
   | eltGone _ _ _ _ _ _ hs=>exact absurd hs hg
   | elt _ _ _ _ _ b cap n t hs hi hk=>exact go _ hv trivial rfl rfl
  ·cases hf
 ·simp only [ja] at hf;subst hf
  generalize hv:ρ x=v at hx
  cases hx with | pp _ _ _ b o _ _ _ _=>exact go _ hv trivial rfl rfl
 ·cases hf
theorem ekz {v:Value} {id r b:Nat} (h:ARel P w al σ v (.mref id)) (hs:σ id = .it r b):v = .pointer (some ⟨r,0,none⟩):=by
 cases h with
 | mref _ b' h=>rw [hs] at h;cases h
 | mrefGone v id h=>rw [hs] at h;cases h
 | itr id r b h=>rw [hs] at h;cases h;rfl
theorem cyv {o:Oper} {t:TypeId} {x:Operand} {a:A} {r:Out} (h:RelL P w0 N σ s tms w) (hf:dwx P o.dst t s.hp a=some r) (ho:o.op = .range t x) (hx:ARel P w (Al w0 w σ s.hp) σ (ρ x) a):OpOk P w0 N s tms o ρ w r:=by
 unfold dwx at hf
 split at hf
 ·rename_i d q id hd hm
  obtain ⟨kk0,e,E⟩:=q
  obtain ⟨k,d',hu,_⟩:=bkb hm
  split at hf
  ·rename_i kk vp m hb
   split at hf
   ·rename_i hdead
    simp only [ja] at hf;subst hf
    have hB:=h.blks id
    rw [hb] at hB
    obtain ⟨b,es,clock,hσ,hBn,hh,hok,hmr⟩:=hB
    have hv:=cju hx hσ
    have hrun:=run_range_map (P:=P) w t k e b es clock hu hh
    have hkd:=ajw hdead
    have hσk:=bj1 (h.blks (key d 0)) hkd
    have hne:id≠key d 0:=by intro e;rw [e,hkd] at hb;cases hb
    have hlt:b < w.heap.size:=(Array.getElem?_eq_some_iff.1 hh).1
    refine .inl ⟨.pointer (some ⟨w.heap.size,0,none⟩),w.alloc (.mapIter (some b) clock #[] clock),?_,trivial,upd (upd σ id .gone) (key d 0) (.it w.heap.size b),?_,.itr _ w.heap.size b (by simp [upd])⟩
    ·simp only [execOp,ho]
     rw [hv]
     exact run_value hrun
    have hnf:∀ c,Al w0 w σ s.hp c→c≠b:=fun c hc e=>by
     subst e
     have:=hc.2.1 id (by rw [hσ];rfl)
     simp [hb,ake] at this
    have hal:∀ c,Al w0 w σ s.hp c→Al w0 (w.alloc (.mapIter (some b) clock #[] clock)) (upd (upd σ id .gone) (key d 0) (.it w.heap.size b)) (upd (upd s.hp id .gone) (key d 0) (.it kk vp none m)) c:=by
     intro c hc
     refine ⟨Nat.lt_of_lt_of_le hc.1 (by simp),fun i hi=>?_,hc.2.2⟩
     by_cases e1:i=key d 0
     ·simp only [upd,e1,if_true,aj0] at hi
      rcases hi with hi | hi
      ·have:=hc.1;omega
      ·exact absurd hi.symm (hnf c hc)
     ·by_cases e2:i=id
      ·simp [upd,e2,hne,aj0] at hi
      ·simp only [upd,e1,e2,if_false] at hi ⊢;exact hc.2.1 i hi
    have hheap:∀ c,c < w.heap.size→(w.alloc (.mapIter (some b) clock #[] clock)).heap[c]? = w.heap[c]? := fun c hc=>Below.heap_alloc w _ c hc
    refine h.change (h.below.then ((Below.refl _ _).alloc h.below.size _)) (by simp) hal (fun c hc=>hheap c hc.1) (fun i hi=>?_) (fun i=>?_) ?_
    ·by_cases e1:i=key d 0
     ·subst e1;exact absurd hσk hi
     ·by_cases e2:i=id
      ·subst e2
       exact .inr ⟨by simp [upd,hne],by rw [hσ];trivial⟩
      ·exact .inl (by simp [upd,e1,e2])
    ·by_cases e1:i=key d 0
     ·subst e1
      refine .inr ?_
      show BRel P _ _ _ _ (key d 0) (upd (upd s.hp id .gone) (key d 0) (.it kk vp none m) (key d 0))
      have e0:upd (upd s.hp id .gone) (key d 0) (.it kk vp none m) (key d 0) = .it kk vp none m:=by simp [upd]
      rw [e0]
      refine ⟨w.heap.size,b,es,clock,clock,#[],clock,by simp [upd],.inl h.below.size,hBn,heap_alloc_new w _,(hheap b hlt).trans hh,⟨hok,hok.1,Nat.le_refl _,Nat.le_refl _⟩,⟨es.toList,?_,hmr.mono (fun c hc=>hheap c hc.1) hal⟩,trivial⟩
      have:leftOf es #[]=es:=by simp [leftOf]
      rw [this]
     ·by_cases e2:i=id
      ·subst e2
       exact .inr (by simp [upd,hne,BRel])
      ·exact .inl ⟨by simp [upd,e1,e2],by simp [upd,e1,e2],fun c hc=>hheap c (aj3 (h.blks i) hc).1⟩
    ·intro i j c hi hj
     have key1:∀ i,aj0 (upd (upd σ id .gone) (key d 0) (.it w.heap.size b) i) c→(i=key d 0∧(c=w.heap.size∨c=b))∨(i≠key d 0∧i≠id∧aj0 (σ i) c):=by
      intro i hi
      by_cases e1:i=key d 0
      ·simp only [upd,e1,if_true,aj0] at hi
       exact .inl ⟨e1,hi.imp Eq.symm Eq.symm⟩
      ·by_cases e2:i=id
       ·simp [upd,e2,hne,aj0] at hi
       ·simp only [upd,e1,e2,if_false] at hi
        exact .inr ⟨e1,e2,hi⟩
     have old:∀ i,i≠id→aj0 (σ i) c→¬ (c=w.heap.size∨c=b):=by
      intro i hne' hi2 hc
      rcases hc with hc | hc
      ·have:=(aj3 (h.blks i) hi2).1;omega
      ·exact hne' (h.inj i id c hi2 (by rw [hσ,hc];rfl))
     rcases key1 i hi with ⟨a1,a2⟩ | ⟨a1,a2,a3⟩ <;> rcases key1 j hj with ⟨b1,b2⟩ | ⟨b1,b2,b3⟩
     ·rw [a1,b1]
     ·exact absurd a2 (old j b2 b3)
     ·exact absurd b2 (old i a2 a3)
     ·exact h.inj i j c a3 b3
   ·cases hf
  ·cases hf
 ·cases hf
theorem djr {o:Oper} {x:Operand} {a:A} {r:Out} (h:RelL P w0 N σ s tms w) (hf:cyl s.hp a=some r) (ho:o.op = .entry x) (hx:ARel P w (Al w0 w σ s.hp) σ (ρ x) a):OpOk P w0 N s tms o ρ w r:=by
 unfold cyl at hf
 split at hf
 ·rename_i id
  split at hf
  ·rename_i kk vp c l hb
   simp only [ja] at hf;subst hf
   have hB:=h.blks id
   rw [hb] at hB
   obtain ⟨r,b,es,clock,since,seen,c0,hσ,_,_,hr,hm,⟨hok,_,_⟩,_,⟨rfl,e,he,hbk,hk,hv⟩⟩:=hB
   have hpv:=ekz hx hσ
   have hseen:∃ s0:Array Nat,seen=s0.push e.born:=Array.back?_eq_some_iff.1 hbk
   obtain ⟨s0,rfl⟩:=hseen
   have hrun:=run_entry_at (P:=P) w r b since s0 es c0 e hr hm he hok.2
   refine OpOk.pure (v:=.tuple #[e.key,e.val]) h ?_ trivial rfl ?_
   ·simp only [execOp,ho]
    rw [hpv]
    exact run_value hrun
   ·refine .tup [e.key,e.val] _ rfl (fun i hi=>?_)
    match i,hi with
    | 0,_=>exact .c _ _ _ hk
    | 1,_=>exact ayu hv
  ·cases hf
 ·cases hf
theorem eq2 {o:Oper} {r:Out} {v:Operand→A} (h:RelL P w0 N σ s tms w) (hop:opZ P o s.hp v=some r) (hv:∀ x,x∈o.op.operands→ARel P w (Al w0 w σ s.hp) σ (ρ x) (v x)):OpOk P w0 N s tms o ρ w r:=by
 unfold opZ at hop
 split at hop
 ·rename_i x ho;exact cz8 h hop ho (hv x (by rw [ho];simp [Op.operands]))
 ·rename_i t x ho;exact cyv h hop ho (hv x (by rw [ho];simp [Op.operands]))
 ·rename_i x ho;exact djr h hop ho (hv x (by rw [ho];simp [Op.operands]))
 ·cases hop
theorem bjg:akl P (ezv P):=by
 intro N ops o s K hok h
 unfold ezv at h
 split at h
 ·rename_i hg
  split at h
  ·rename_i r hop
   obtain ⟨hn,hp,hK⟩:=h
   obtain ⟨_,ho⟩:=aqp hok
   exact cwe hg hok r (fun w0 a w σ hR=>eq2 hR hop (fun x hx=>aqb hR (ho x hx) (ajo hn x (Array.mem_toList_iff.2 hx)))) hK
  ·exact h.elim
 ·exact h.elim
theorem MRel.pick {kk:Kd} {vp:Bool×List Kd}:∀ {L:List MapEntry} {l:List (C×List C)},MRel P w al kk vp L l→∀ {e:MapEntry},e∈L→∃ c l' L',l.Perm (c :: l')∧L.Perm (e :: L')∧RepC P w al kk e.key c.1∧ArgRel P w al vp e.val c.2∧MRel P w al kk vp L' l'
 | [],_,_,e,he=>by simp at he
 | _ :: _,[],h,_,_=>h.elim
 | a :: L,b :: l,h,e,he=>by
  rcases List.mem_cons.1 he with rfl | he
  ·exact ⟨b,l,L,.refl _,.refl _,h.1,h.2.1,h.2.2⟩
  ·obtain ⟨c,l',L',p1,p2,r1,r2,r3⟩:=MRel.pick h.2.2 he
   exact ⟨c,b :: l',a :: L',(p1.cons b).trans (.swap _ _ _),(p2.cons a).trans (.swap _ _ _),r1,r2,h.1,h.2.1,r3⟩
end Go.AE
