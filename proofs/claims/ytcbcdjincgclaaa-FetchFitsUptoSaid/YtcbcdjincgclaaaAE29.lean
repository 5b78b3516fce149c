/-
  Further operations: nil checks, ranges over maps.
-/
import Derived.Test.YtcbcdjincgclaaaAE25
set_option linter.unusedVariables false
namespace Go.AE
open Go.RowKit (Below)
variable {P : Program} {w0 : Base} {w : World} {N kp : Nat} {σ : Nat → RefI} {s : S} {tms : Array Value} {ρ : Operand → Value} {al : Nat → Prop} {Γ : List Fn}

/-! ## Operations with one outcome -/
def nilZ (hp : Nat → Blk) : A → Option Out
  | .box id off => some ⟨True, True, .box id off, hp, true⟩
  | .elt id sz ks i off => if live hp id then some ⟨True, True, .elt id sz ks i off, hp, true⟩ else none
  | .pp ks cells off => some ⟨True, True, .pp ks cells off, hp, true⟩
  | _ => none
def rangeZ (P : Program) (d : Option Nat) (t : TypeId) (hp : Nat → Blk) (x : A) : Option Out :=
  match d, mapE P t, x with
  | some d, some _, .mref id => match hp id with
    | .mp kk vp m => if isDead (hp (key d 0)) then some ⟨True, True, .mref (key d 0), upd (upd hp id .gone) (key d 0) (.it kk vp none m), false⟩ else none
    | _ => none
  | _, _, _ => none
def entryZ (hp : Nat → Blk) : A → Option Out
  | .mref id => match hp id with
    | .it kk vp (some c) _ => some ⟨True, True, .tup [.c kk c.1, pack vp.1 (ppVals vp.2 c.2 0)], hp, true⟩
    | _ => none
  | _ => none
def opZ (P : Program) (o : Oper) (hp : Nat → Blk) (v : Operand → A) : Option Out :=
  match o.op with
  | .nilCheck x => nilZ hp (v x)
  | .range t x => rangeZ P o.dst t hp (v x)
  | .entry x => entryZ hp (v x)
  | _ => none
def stepZ (P : Program) (o : Oper) (s : S) (K : S → Prop) : Prop :=
  match o.guard with
  | none => match opZ P o s.hp (plainTm s.tm) with
    | some r => allNeeds s.tm o.op.operands.toList ∧ r.pre ∧ (r.fact → K ⟨updD s.tm o.dst r.val, r.hp⟩)
    | none => False
  | some _ => False

/-! ## The next entry: whichever -/
/-- one entry of many -/
theorem MRel.pick {kk : Kd} {vp : Bool × List Kd} : ∀ {L : List MapEntry} {l : List (C × List C)}, MRel P w al kk vp L l → ∀ {e : MapEntry}, e ∈ L → ∃ c l' L', l.Perm (c :: l') ∧ L.Perm (e :: L') ∧ RepC P w al kk e.key c.1 ∧ ArgRel P w al vp e.val c.2 ∧ MRel P w al kk vp L' l'
  | [], _, _, e, he => by simp at he
  | _ :: _, [], h, _, _ => h.elim
  | a :: L, b :: l, h, e, he => by
    rcases List.mem_cons.1 he with rfl | he
    · exact ⟨b, l, L, .refl _, .refl _, h.1, h.2.1, h.2.2⟩
    · obtain ⟨c, l', L', p1, p2, r1, r2, r3⟩ := MRel.pick h.2.2 he
      exact ⟨c, b :: l', a :: L', (p1.cons b).trans (.swap _ _ _), (p2.cons a).trans (.swap _ _ _), r1, r2, h.1, h.2.1, r3⟩

end Go.AE
