/-
  Calls of functions that make a closure over their parameters.
-/
import Derived.Test.YtcdofkflbnpjjaaDoorAE35
set_option linter.unusedSimpArgs false
set_option linter.unusedVariables false
set_option linter.unusedVariables false
namespace Go.AE
open Go.RowKit (Below)
variable {P : Program} {w0 : Base} {w : World} {N : Nat} {σ : Nat → RefI} {s : S} {tms : Array Value} {ρ : Operand → Value} {al : Nat → Prop}

def boxL (d : Nat) : Nat → List A → (Nat → Blk) → (Nat → Blk)
  | _, [], hp => hp
  | j, a :: as, hp => boxL d (j + 1) as (upd hp (key d j) (.box [a]))
def boxRefs (d : Nat) : Nat → List A → List A
  | _, [] => []
  | j, _ :: as => .box (key d j) 0 :: boxRefs d (j + 1) as
def deadL (d : Nat) (hp : Nat → Blk) : Nat → List A → Bool
  | _, [] => true
  | j, _ :: as => isDead (hp (key d j)) && deadL d hp (j + 1) as

def stepC (f gf : FuncId) (ts : List TypeId) (o : Oper) (s : S) (K : S → Prop) : Prop :=
  match o.guard, o.op, o.dst with
  | none, .call c, some d => match c.callee with
    | .value x => match plainTm s.tm x with
      | .fnv g [] => g = f ∧ c.args.toList.length = ts.length ∧ allNeeds s.tm o.op.operands.toList ∧ deadL d s.hp 0 (c.args.toList.map (plainTm s.tm)) = true ∧ allOne s.hp (c.args.toList.map (plainTm s.tm)) = true ∧
        K ⟨upd s.tm d (.fnv gf (boxRefs d 0 (c.args.toList.map (plainTm s.tm)))), boxL d 0 (c.args.toList.map (plainTm s.tm)) s.hp⟩
      | _ => False
    | _ => False
  | _, _, _ => False

end Go.AE

/-
  Regions that draw their order: every order, one by one.
-/
set_option linter.unusedVariables false
namespace Go.AE
open Go.RowKit (Below)
variable {P : Program} {w0 : Base} {w : World} {N kp : Nat} {σ : Nat → RefI} {s : S} {tms : Array Value} {Γ : List Fn}

/-- all orders -/
def wpT (P : Program) (Γ : List Fn) (ops : Array Oper) (Q : S → Prop) : Nat → Array Bool → S → Prop
  | 0, listed, s => Region.ready .any ops listed = [] ∧ Q s
  | n + 1, listed, s => (Region.ready .any ops listed = [] → Q s) ∧ ∀ i ∈ Region.ready .any ops listed, ∀ o, ops[i]? = some o → wpOpsX P Γ [(gdst ops.toList o, o)] s (wpT P Γ ops Q n (listed.setIfInBounds i true))
def wpTs (P : Program) (Γ : List Fn) (ops : Array Oper) (Q : S → Prop) (n : Nat) (listed : Array Bool) (s : S) : List Nat → Prop
  | [] => True
  | i :: is => (match ops.toList[i]? with | some o => wpOpsX P Γ [(gdst ops.toList o, o)] s (wpT P Γ ops Q n (listed.setIfInBounds i true)) | none => True) ∧ wpTs P Γ ops Q n listed s is
end Go.AE
