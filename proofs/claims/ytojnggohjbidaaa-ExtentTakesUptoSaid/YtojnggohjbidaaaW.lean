/-
  ch. 20: the law of taking: it answers true.
-/
import Derived.Test.YtojnggohjbidaaaV
set_option maxHeartbeats 8000000
set_option linter.unusedVariables false
set_option linter.unusedSimpArgs false
set_option maxRecDepth 100000
namespace Go.Proofs.Ytojnggohjbidaaa
open Go.AE

theorem p_law20_ExtentTakes (n : Nat) (hn : N0 ≤ n) (x0 : List TExtent) (x1 : Int) (x2 : Int) (hc : ∀ i, i < 3 → CanL Try.prog (([(false, [.slice 43]), (false, [.int .i64]), (false, [.int .i64])] : List (Bool × List Kd)).getD i (false, [])).2 (([[.slice (List.map e_TExtent x0)], [.int x1], [.int x2]] : List (List C)).getD i []))
    (hb : cbss [[.slice (List.map e_TExtent x0)], [.int x1], [.int x2]] ≤ 2097152) : law20_ExtentTakes n x0 x1 x2 = some true := by
  have hl := len_of_cbss hb (xs := [.slice (List.map e_TExtent x0)]) (l := x0) (f := e_TExtent) (by simp) (by simp)
  have h1 := (hc 1 (by decide)).2 0 (by decide)
  simp only [List.getD_cons_succ, List.getD_cons_zero, cg_zero] at h1
  have hw : x1 ≤ 9223372036854775807 := by
    cases h1 with
    | int k n h => have h2 := h.2; have e : IntKind.max .i64 = 9223372036854775807 := by decide
                   omega
  clear hc h1
  obtain ⟨r, e1, e2, l1, l2⟩ := Take_eq n hn x0 x1 x2 hl hw
  have s1 : ∀ a : List TExtent, a.length ≤ 2097152 → ref20_Same n a a = some true := fun a h1 => by rw [Same_eq n a a (by unfold N0 at hn; omega) (by omega)]; simp
  simp only [law20_ExtentTakes, e1, e2, Option.bind_some, works_eq n hn, s1 _ l1, s1 _ l2]
  simp [gd]
end Go.Proofs.Ytojnggohjbidaaa
