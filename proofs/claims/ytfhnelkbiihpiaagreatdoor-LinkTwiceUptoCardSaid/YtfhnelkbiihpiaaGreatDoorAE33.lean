/- Text. -/
import Derived.Test.YtfhnelkbiihpiaaGreatDoorAE36B
set_option linter.unusedVariables false
namespace Go.AE
open Go.RowKit (Below)
variable {P : Program} {w0 : Base} {w : World} {N kp : Nat} {σ : Nat → RefI} {s : S} {tms : Array Value} {ρ : Operand → Value} {al : Nat → Prop} {Γ : List Fn}
abbrev Foot := List Nat × List Nat
def inL : List Nat → Nat → Bool
  | [], _ => false
  | x :: xs, k => x == k || inL xs k
def subL : List Nat → List Nat → Bool
  | [], _ => true
  | x :: xs, ys => inL ys x && subL xs ys
def footOk (r : Option Bool) (f : Foot) (o : Oper) (tm : Nat → A) : Bool :=
  match r with
  | some false => true
  | _ => subL (rIds o (plainTm tm)) f.1 && subL (wIds o (plainTm tm)) f.2
def vR (o : Oper) (v : Operand → A) : List Nat := o.op.operands.toList.flatMap fun x => idsA (v x)
def vW (o : Oper) (v : Operand → A) : List Nat :=
  match o.op with
  | .call _ => vR o v ++ (match o.dst with | some d => [key d 0] | none => [])
  | .store _ _ _ => vR o v
  | .buildSlice _ _ _ => (match o.dst with | some d => [key d 0] | none => [])
  | _ => []
def footV (f : Foot) (o : Oper) (tm : Nat → A) : Bool := subL (vR o (plainTm tm)) f.1 && subL (vW o (plainTm tm)) f.2
def effV (P : Program) (o : Oper) (tm : Nat → A) (hp : Nat → Blk) : Option (Prop × Prop × A × (Nat → Blk)) :=
  match o.guard, opV P o hp (plainTm tm) with
  | none, some r => some (allNeeds tm o.op.operands.toList ∧ r.pre, r.fact, r.val, r.hp)
  | _, _ => none
variable {R : Nat → Option Bool} {bx : Nat → Foot}
def stepHQ (P : Program) (Γ : List Fn) (r : Option Bool × Foot) (gd : Option Nat) (o : Oper) (s : S) (K : S → Prop) : Prop :=
  match effRG P Γ r.1 gd o s.tm s.hp with
  | none => False
  | some (p, _, v, hp') => p ∧ footOk r.1 r.2 o s.tm = true ∧ K ⟨updD s.tm o.dst v, hp'⟩
def stepHV (P : Program) (r : Option Bool × Foot) (o : Oper) (s : S) (K : S → Prop) : Prop :=
  match o.guard, opV P o s.hp (plainTm s.tm) with
  | none, some r' => allNeeds s.tm o.op.operands.toList ∧ r'.pre ∧ footV r.2 o s.tm = true ∧ K ⟨updD s.tm o.dst r'.val, r'.hp⟩
  | _, _ => False
def inOrd (ops : List Oper) (Rl : List (Option Bool × Foot)) : List Nat → List ((Option Bool × Foot) × Option Nat × Oper)
  | [] => []
  | i :: is => match ops[i]? with
    | some o => (Rl.getD i (none, [], []), gdst ops o, o) :: inOrd ops Rl is
    | none => inOrd ops Rl is
variable {Q : Exit → S → Prop} {b : Code}
end Go.AE
