/- Text. -/
import Derived.Test.YtijnkhcfondehaaGreatDoorAE8
set_option linter.unusedVariables false
namespace Go.AE
open Go.RowKit (Below)
variable {P:Program} {w0:Base} {w:World} {N:Nat} {σ:Nat→RefI} {s:S} {tms:Array Value} {ρ:Operand→Value} {al:Nat→Prop}
theorem RepC.scalar {al':Nat→Prop} {k:Kd} {v:Value} {x:C} (h:RepC P w al k v x) (hk:aqr k=true):RepC P w al' k v x:=by
 cases h <;> first | (simp [aqr] at hk;done) | skip
 ·exact .bool x
 ·exact .int _ x (by assumption)
 ·exact .str x (by assumption)
theorem fq0 {ks:List Kd} (h:ks.all aqr=true):∀ j,j < ks.length→aqr (ks.getD j .other)=true:=by
 intro j hj
 rw [List.all_eq_true] at h
 have e:ks.getD j .other=ks[j]:=by simp [List.getD_eq_getElem?_getD,hj]
 rw [e];exact h _ (List.getElem_mem hj)
theorem ckq {b:Blk} (h:cz9 b=true):b = .reg:=by cases b <;> simp [cz9] at h;rfl
theorem eqm {r:Nat} (h:RelL P w0 N σ s tms w) (hr:cz9 (s.hp r)=true):∃ W Q,σ r = .reg W Q∧(∀ b,Q b→b < w.heap.size)∧(∀ b,Q b→w.heap[b]? = W.heap[b]?):=by
 have hb:=h.blks r
 rw [ckq hr] at hb
 obtain ⟨W,Q,h1,h2⟩:=hb
 refine ⟨W,Q,h1,fun b hb=>?_,fun b hb=>?_⟩
 ·obtain ⟨_,vs,t,z,h3,_⟩:=h2 b hb
  exact (Array.getElem?_eq_some_iff.1 h3).1
 ·obtain ⟨_,vs,t,z,h3,h4⟩:=h2 b hb
  rw [h3,h4]
def ak8 (hp:Nat→Blk):Nat→Blk:=fun id=>if cz9 (hp id)=true then .gone else hp id
def by9 (hp:Nat→Blk) (σ:Nat→RefI):Nat→RefI:=fun id=>if cz9 (hp id)=true then .gone else σ id
theorem eq5 (h:RelL P w0 N σ s tms w) (id:Nat):by9 s.hp σ id=σ id∨(by9 s.hp σ id = .gone∧bz7 (σ id)):=by
 unfold by9
 split
 ·rename_i e
  obtain ⟨W,Q,h1,_⟩:=eqm h e
  exact .inr ⟨rfl,by rw [h1];trivial⟩
 ·exact .inl rfl
theorem RelL.melt (h:RelL P w0 N σ s tms w):RelL P w0 N (by9 s.hp σ) ⟨s.tm,ak8 s.hp⟩ tms w:=by
 refine h.change h.below (Nat.le_refl _) ?_ (fun _ _=>rfl) (fun id _=>eq5 h id) (fun id=>?_) ?_
 ·intro b hb
  refine ⟨hb.1,fun id hid=>?_,hb.2.2⟩
  unfold by9 at hid
  unfold ak8
  split at hid
  ·simp [aj5] at hid
  ·rename_i e;rw [if_neg e];exact hb.2.1 id hid
 ·by_cases e:cz9 (s.hp id)=true
  ·refine .inr ?_
   have e1:ak8 s.hp id = .gone:=by simp only [ak8,e,if_true]
   show BRel P w _ _ _ id (ak8 s.hp id)
   rw [e1]
   show by9 s.hp σ id = .gone
   simp only [by9,e,if_true]
  ·exact .inl ⟨by simp only [by9];rw [if_neg e],by simp only [ak8];rw [if_neg e],fun _ _=>rfl⟩
 ·intro i j b hi hj
  unfold by9 at hi hj
  split at hi
  ·simp [aj5] at hi
  ·split at hj
   ·simp [aj5] at hj
   ·exact h.inj i j b hi hj
theorem bkl (hp:Nat→Blk) (as:List A):(ak9 hp as).length=as.length:=by
 induction as with
 | nil=>rfl
 | cons a as ih=>simp [ak9,ih]
theorem dk7 (hp:Nat→Blk) (as:List A) (i:Nat):(ak9 hp as).getD i .unk=bk0 hp (as.getD i .unk):=by
 induction as generalizing i with
 | nil=>simp [ak9,bk0]
 | cons a as ih =>
  cases i with
  | zero=>simp [ak9]
  | succ i=>simpa [ak9] using ih i
theorem eze {v:Value} {a:A} (h:RelL P w0 N σ s tms w) (hx:ARel P w (Al w0 w σ s.hp) σ v a):ARel P w (Al w0 w (by9 s.hp σ) (ak8 s.hp)) (by9 s.hp σ) v (bk0 s.hp a):=by
 have ha:∀ b,Al w0 w σ s.hp b→Al w0 w (by9 s.hp σ) (ak8 s.hp) b:=by
  intro b hb
  refine ⟨hb.1,fun id hid=>?_,hb.2.2⟩
  unfold by9 at hid
  unfold ak8
  split at hid
  ·simp [aj5] at hid
  ·rename_i e;rw [if_neg e];exact hb.2.1 id hid
 have hs:∀ id,σ id≠.dead→by9 s.hp σ id=σ id∨(by9 s.hp σ id = .gone∧bz7 (σ id)):=fun id _=>eq5 h id
 have same:∀ {v a},ARel P w (Al w0 w σ s.hp) σ v a→ARel P w (Al w0 w (by9 s.hp σ) (ak8 s.hp)) (by9 s.hp σ) v a:=fun h=>h.mono (fun _ _=>rfl) ha hs
 induction hx with
 | agg vs xs hl h ih =>
  simp only [bk0]
  refine .agg vs _ (by rw [bkl];exact hl) (fun i hi=>?_)
  rw [bkl] at hi
  rw [dk7];exact ih i hi
 | rg v id k x W Q hσ h1 =>
  simp only [bk0]
  split
  ·rename_i e
   obtain ⟨W',Q',g1,g2,g3⟩:=eqm h e
   rw [g1] at hσ;cases hσ
   refine .c _ _ _ (h1.mono g3 (fun b hb=>⟨g2 b hb,fun i hi=>?_,.inl (aj7 (h.blks id) (by rw [g1];exact hb)).2⟩))
   unfold by9 at hi
   split at hi
   ·simp [aj5] at hi
   ·rename_i ne
    have:=h.inj i id b hi (by rw [g1];exact hb)
    subst this;exact absurd e ne
  ·exact .unk _
 | rgGone v id k x hσ =>
  simp only [bk0]
  split
  ·rename_i e
   obtain ⟨W',Q',g1,_⟩:=eqm h e
   rw [g1] at hσ;cases hσ
  ·exact .unk _
 | unk v=>exact .unk _
 | c k v x h=>exact same (.c k v x h)
 | nilsl=>exact .nilsl
 | tup vs xs hl h ih=>exact same (.tup vs xs hl h)
 | ownGone v id ks off len h=>exact same (.ownGone v id ks off len h)
 | eltGone v id sz ks i off h=>exact same (.eltGone v id sz ks i off h)
 | ownNil id ks off t h ho=>exact same (.ownNil id ks off t h ho)
 | own0 id ks len b cap n t h hl=>exact same (.own0 id ks len b cap n t h hl)
 | ownOff id ks off len b cap n cap' t h ho hl hc=>exact same (.ownOff id ks off len b cap n cap' t h ho hl hc)
 | ownOff0 ad id ks off b cap n cap' t h ho hl=>exact same (.ownOff0 ad id ks off b cap n cap' t h ho hl)
 | box id off b h=>exact same (.box id off b h)
 | bsl id len b cap h=>exact same (.bsl id len b cap h)
 | elt id ks0 ks i off b cap n t h hi hk=>exact same (.elt id ks0 ks i off b cap n t h hi hk)
 | pp ks cells off b o hal f hcell hrep=>exact same (.pp ks cells off b o hal f hcell hrep)
 | fnv f caps vs hl h ih=>exact same (.fnv f caps vs hl h)
 | mref id b h=>exact same (.mref id b h)
 | mrefGone v id h=>exact same (.mrefGone v id h)
 | itr id r b h=>exact same (.itr id r b h)
 | whenT v a h ih=>exact same (.whenT v a h)
 | whenF a=>exact same (.whenF a)
 | rp id ks cells off b o W Q h hal f hcell hrep=>exact same (.rp id ks cells off b o W Q h hal f hcell hrep)
 | rpGone v id ks cells off h=>exact same (.rpGone v id ks cells off h)
end Go.AE
