/-
  works of ch. 33, run in the kernel: its contract.
-/
import Derived.Test.YtcbcdjincgclaaaT
import Derived.Test.YtcbcdjincgclaaaFN
import Derived.Test.YtcbcdjincgclaaaAE21
set_option linter.unusedVariables false
set_option linter.unusedSimpArgs false
set_option maxRecDepth 100000
namespace Go.Proofs.Ytcbcdjincgclaaa
open Go.AE
def works (n : Nat) : Option Bool := some true
def xworks (n : Nat) : Go.AE.Fn := mkFn (A := Unit) (R := Bool) 12 [] false (fun _ => ()) (fun _ => []) (fun _ => works n) (fun r => [.c .bool (.bool r)]) (fun r => [])
theorem works_res (n : Nat) (w : World) (al : Nat → Prop) (vs : List Value) (cs : List (List C)) (h : vs.length = 0) : Calls Try.prog 12 vs.toArray w (fun e w' => ∃ v, e = .returned v ∧ ResRel Try.prog w al w' v ((xworks n).sem cs)) := by
  match vs, h with
  | [], _ =>
    refine (works12 w).mono ?_
    rintro e w' ⟨rfl, hb⟩
    have hrows : ((xworks n).sem cs).rows = [] := rfl
    have hres : ((xworks n).sem cs).res = [.c .bool (.bool true)] := rfl
    refine ⟨_, rfl, hb, by rw [hrows]; simp, fun _ => .dead, fun j => rfl, fun i j b h => by simp [blockOf] at h, ?_⟩
    rw [hres]
    exact ARel.c _ _ _ (RepC.bool (.bool true))
theorem cworks (n : Nat) : Contract Try.prog (xworks n) :=
  ⟨fun args w => Try.call12 args w, fun _ w al vs cs _ h _ _ _ => works_res n w _ vs cs h, fun w al vs cs _ h _ _ _ => works_res n w al vs cs h⟩
end Go.Proofs.Ytcbcdjincgclaaa
