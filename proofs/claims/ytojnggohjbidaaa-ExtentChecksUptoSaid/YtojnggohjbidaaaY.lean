/-
  ch. 20: the law of checks: it answers true.
-/
import Derived.Test.YtojnggohjbidaaaX
set_option maxHeartbeats 8000000
set_option linter.unusedVariables false
set_option linter.unusedSimpArgs false
set_option maxRecDepth 100000
namespace Go.Proofs.Ytojnggohjbidaaa
open Go.AE

theorem p_law20_ExtentChecks (n : Nat) (hn : N0 ≤ n) (x0 : List TExtent) (x1 : Int) (hc : ∀ i, i < 2 → CanL Try.prog (([(false, [.slice 43]), (false, [.int .i64])] : List (Bool × List Kd)).getD i (false, [])).2 (([[.slice (List.map e_TExtent x0)], [.int x1]] : List (List C)).getD i []))
    (hb : cbss [[.slice (List.map e_TExtent x0)], [.int x1]] ≤ 2097152) : law20_ExtentChecks n x0 x1 = some true := by
  clear hc
  have hl := len_of_cbss hb (xs := [.slice (List.map e_TExtent x0)]) (l := x0) (f := e_TExtent) (by simp) (by simp)
  simp only [law20_ExtentChecks, Check_eq n x0 x1 (by unfold N0 at hn; omega) (by omega), RCheck_eq n hn x0 x1 hl, Valid_eq n hn x0 (by omega), RValid_eq n hn x0 hl, Total_eq n hn x0 (by omega), RTotal_eq n hn x0 hl, Option.bind_some, works_eq n hn]
  simp [gd]
end Go.Proofs.Ytojnggohjbidaaa
