/-
  A slice of pointers to boxes' cells: built.
-/
import Derived.Test.YtcbcdjincgclaaaAE11
set_option linter.unusedVariables false
namespace Go.AE
open Go.RowKit (Below)
variable {P : Program} {w0 : Base} {w : World} {N kp : Nat} {σ : Nat → RefI} {s : S} {tms : Array Value} {ρ : Operand → Value} {al : Nat → Prop}

def boxP : List (Nat × A) → Nat → Bool
  | [], _ => true
  | (i, .box _ _) :: l, k => (i == k) && boxP l (k + 1)
  | _, _ => false
/-- a slice of pointers -/
def bsP (P : Program) (t : TypeId) (n : Nat) (parts : List (Nat × A)) (dst : Option Nat) (hp : Nat → Blk) : Option Out :=
  match slE P t, dst with
  | some (_, E), some d => if (E.kinds.length == 1 && boxP parts 0) && (parts.length == n && isDead (hp (key d 0))) then
      some ⟨n ≤ 1000 ∧ (n : Int) * E.bytes ≤ 140737488355328, True, .bsl (key d 0) n, upd hp (key d 0) (.box (parts.map (·.2))), false⟩
    else none
  | _, _ => none

end Go.AE
