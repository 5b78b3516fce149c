/- Text. -/
import Derived.Test.YtfhnelkbiihpiaaGreatDoorAE8
set_option linter.unusedVariables false
namespace Go.AE
open Go.RowKit (Below)
variable {P:Program} {w0:Base} {w:World} {N:Nat} {σ:Nat→RefI} {s:S} {tms:Array Value} {ρ:Operand→Value} {al:Nat→Prop}
theorem RepC.scalar {al':Nat→Prop} {k:Kd} {v:Value} {x:C} (h:RepC P w al k v x) (hk:aqo k=true):RepC P w al' k v x:=by
 cases h <;> first | (simp [aqo] at hk;done) | skip
 ·exact .bool x
 ·exact .int _ x (by assumption)
 ·exact .str x (by assumption)
theorem dwh {ks:List Kd} (h:ks.all aqo=true):∀ j,j < ks.length→aqo (ks.getD j .other)=true:=by
 intro j hj
 rw [List.all_eq_true] at h
 have e:ks.getD j .other=ks[j]:=by simp [List.getD_eq_getElem?_getD,hj]
 rw [e];exact h _ (List.getElem_mem hj)
theorem bzv {b:Blk} (h:bwl b=true):b = .reg:=by cases b <;> simp [bwl] at h;rfl
theorem ckn {r:Nat} (h:RelL P w0 N σ s tms w) (hr:bwl (s.hp r)=true):∃ W Q,σ r = .reg W Q∧(∀ b,Q b→b < w.heap.size)∧(∀ b,Q b→w.heap[b]? = W.heap[b]?):=by
 have hb:=h.blks r
 rw [bzv hr] at hb
 obtain ⟨W,Q,h1,h2⟩:=hb
 refine ⟨W,Q,h1,fun b hb=>?_,fun b hb=>?_⟩
 ·obtain ⟨_,vs,t,z,h3,_⟩:=h2 b hb
  exact (Array.getElem?_eq_some_iff.1 h3).1
 ·obtain ⟨_,vs,t,z,h3,h4⟩:=h2 b hb
  rw [h3,h4]
def azl (hp:Nat→Blk):Nat→Blk:=fun id=>if bwl (hp id)=true then .gone else hp id
def bqr (hp:Nat→Blk) (σ:Nat→RefI):Nat→RefI:=fun id=>if bwl (hp id)=true then .gone else σ id
theorem cwy (h:RelL P w0 N σ s tms w) (id:Nat):bqr s.hp σ id=σ id∨(bqr s.hp σ id = .gone∧bqw (σ id)):=by
 unfold bqr
 split
 ·rename_i e
  obtain ⟨W,Q,h1,_⟩:=ckn h e
  exact .inr ⟨rfl,by rw [h1];trivial⟩
 ·exact .inl rfl
theorem RelL.melt (h:RelL P w0 N σ s tms w):RelL P w0 N (bqr s.hp σ) ⟨s.tm,azl s.hp⟩ tms w:=by
 refine h.change h.below (Nat.le_refl _) ?_ (fun _ _=>rfl) (fun id _=>cwy h id) (fun id=>?_) ?_
 ·intro b hb
  refine ⟨hb.1,fun id hid=>?_,hb.2.2⟩
  unfold bqr at hid
  unfold azl
  split at hid
  ·simp [aj0] at hid
  ·rename_i e;rw [if_neg e];exact hb.2.1 id hid
 ·by_cases e:bwl (s.hp id)=true
  ·refine .inr ?_
   have e1:azl s.hp id = .gone:=by simp only [azl,e,if_true]
   show BRel P w _ _ _ id (azl s.hp id)
   rw [e1]
   show bqr s.hp σ id = .gone
   simp only [bqr,e,if_true]
  ·exact .inl ⟨by simp only [bqr];rw [if_neg e],by simp only [azl];rw [if_neg e],fun _ _=>rfl⟩
 ·intro i j b hi hj
  unfold bqr at hi hj
  split at hi
  ·simp [aj0] at hi
  ·split at hj
   ·simp [aj0] at hj
   ·exact h.inj i j b hi hj
theorem bqa (hp:Nat→Blk) (as:List A):(azy hp as).length=as.length:=by
 induction as with
 | nil=>rfl
 | cons a as ih=>simp [azy,ih]
theorem cwb (hp:Nat→Blk) (as:List A) (i:Nat):(azy hp as).getD i .unk=bq4 hp (as.getD i .unk):=by
 induction as generalizing i with
 | nil=>simp [azy,bq4]
 | cons a as ih =>
  cases i with
  | zero=>simp [azy]
  | succ i=>simpa [azy] using ih i
theorem cky {v:Value} {a:A} (h:RelL P w0 N σ s tms w) (hx:ARel P w (Al w0 w σ s.hp) σ v a):ARel P w (Al w0 w (bqr s.hp σ) (azl s.hp)) (bqr s.hp σ) v (bq4 s.hp a):=by
 have ha:∀ b,Al w0 w σ s.hp b→Al w0 w (bqr s.hp σ) (azl s.hp) b:=by
  intro b hb
  refine ⟨hb.1,fun id hid=>?_,hb.2.2⟩
  unfold bqr at hid
  unfold azl
  split at hid
  ·simp [aj0] at hid
  ·rename_i e;rw [if_neg e];exact hb.2.1 id hid
 have hs:∀ id,σ id≠.dead→bqr s.hp σ id=σ id∨(bqr s.hp σ id = .gone∧bqw (σ id)):=fun id _=>cwy h id
 have same:∀ {v a},ARel P w (Al w0 w σ s.hp) σ v a→ARel P w (Al w0 w (bqr s.hp σ) (azl s.hp)) (bqr s.hp σ) v a:=fun h=>h.mono (fun _ _=>rfl) ha hs
 induction hx with
 | agg vs xs hl h ih =>
  simp only [bq4]
  refine .agg vs _ (by rw [bqa];exact hl) (fun i hi=>?_)
  rw [bqa] at hi
  rw [cwb];exact ih i hi
 | rg v id k x W Q hσ h1 =>
  simp only [bq4]
  split
  ·rename_i e
   obtain ⟨W',Q',g1,g2,g3⟩:=ckn h e
   rw [g1] at hσ;cases hσ
   refine .c _ _ _ (h1.mono g3 (fun b hb=>⟨g2 b hb,fun i hi=>?_,.inl (aj3 (h.blks id) (by rw [g1];exact hb)).2⟩))
   unfold bqr at hi
   split at hi
   ·simp [aj0] at hi
   ·rename_i ne
    have:=h.inj i id b hi (by rw [g1];exact hb)
    subst this;exact absurd e ne
  ·exact .unk _
 | rgGone v id k x hσ =>
  simp only [bq4]
  split
  ·rename_i e
   obtain ⟨W',Q',g1,_⟩:=ckn h e
   rw [g1] at hσ;cases hσ
  ·exact .unk _
 | unk v=>exact .unk _
 | c k v x h=>exact same (.c k v x h)
 | nilsl=>exact .nilsl
 | tup vs xs hl h ih=>exact same (.tup vs xs hl h)
 | ownGone v id ks off len h=>exact same (.ownGone v id ks off len h)
 | eltGone v id sz ks i off h=>exact same (.eltGone v id sz ks i off h)
 | ownNil id ks off t h ho=>exact same (.ownNil id ks off t h ho)
 | own0 id ks len b cap n t h hl=>exact same (.own0 id ks len b cap n t h hl)
 | ownOff id ks off len b cap n cap' t h ho hl hc=>exact same (.ownOff id ks off len b cap n cap' t h ho hl hc)
 | ownOff0 ad id ks off b cap n cap' t h ho hl=>exact same (.ownOff0 ad id ks off b cap n cap' t h ho hl)
 | box id off b h=>exact same (.box id off b h)
 | bsl id len b cap h=>exact same (.bsl id len b cap h)
 | elt id ks0 ks i off b cap n t h hi hk=>exact same (.elt id ks0 ks i off b cap n t h hi hk)
 | pp ks cells off b o hal f hcell hrep=>exact same (.pp ks cells off b o hal f hcell hrep)
 | fnv f caps vs hl h ih=>exact same (.fnv f caps vs hl h)
 | fnb f caps vs hl h ih=>exact same (.fnb f caps vs hl h)
 | mref id b h=>exact same (.mref id b h)
 | mrefGone v id h=>exact same (.mrefGone v id h)
 | itr id r b h=>exact same (.itr id r b h)
 | whenT v a h ih=>exact same (.whenT v a h)
 | whenF a=>exact same (.whenF a)
 | rp id ks cells off b o W Q h hal f hcell hrep=>exact same (.rp id ks cells off b o W Q h hal f hcell hrep)
 | rpGone v id ks cells off h=>exact same (.rpGone v id ks cells off h)
end Go.AE
