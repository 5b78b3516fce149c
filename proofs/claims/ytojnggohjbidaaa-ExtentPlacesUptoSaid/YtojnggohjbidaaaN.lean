/-
  ch. 20: the comparator of extent.sorted, on raw cells (a walk of the kit's).
-/
import Derived.Test.YtojnggohjbidaaaAE28
import Derived.Test.YtojnggohjbidaaaL45
import Derived.Shelf.SlicesG.Cmp
import Derived.WalkKit
set_option maxRecDepth 100000
namespace Go.Proofs.Ytojnggohjbidaaa
open Go.RowKit Go.Shelf Go.Proofs Go.Sort

set_option maxHeartbeats 1000000 in
theorem closure44 (a b c d : Int) (W : World) : Calls Try.prog 44 #[.agg #[.int .i64 a, .int .i64 b], .agg #[.int .i64 c, .int .i64 d]] W fun e w' => e = .returned (.int .i64 (Lib.compareInt a c)) ∧ ∃ q os', w' = grow (W.drewN q) os' := by
  have hcon := fun W' => AnyG.cmp_Compare_int lay45 a c W'
  change ∀ W', Calls Try.prog 45 _ _ _ at hcon
  generalize Lib.compareInt a c = r at hcon ⊢
  go_enter Try.func44, Try.ntmps44
  go_wp2_with (go_at_call 45; refine (hcon _).mono ?_; rintro e w' ⟨rfl, rfl⟩)
  go_ret
  exact ⟨rfl, 0, _, by rw [alloc_eq_grow, alloc_eq_grow, grow_grow]; rfl⟩

theorem compareInt_eq (a c : Int) : Lib.compareInt a c = if a < c then -1 else if c < a then 1 else 0 := by
  unfold Lib.compareInt
  split
  · rfl
  · split <;> simp_all

theorem raw44 (a b c d r : Int) (hr : r = if a < c then -1 else if c < a then 1 else 0) : Go.AE.RawCmp Try.prog 44 [.int .i64, .int .i64] [.int a, .int b] [.int c, .int d] r := by
  intro W al us vs h1 h2
  obtain ⟨us', e1, l1, _, r1⟩ := h1
  obtain ⟨vs', e2, l2, _, r2⟩ := h2
  have u0 := r1 0 (by simp)
  have u1 := r1 1 (by simp)
  have v0 := r2 0 (by simp)
  have v1 := r2 1 (by simp)
  rw [e1, e2]
  match us', l1, vs', l2 with
  | [x0, x1], _, [y0, y1], _ =>
    simp only [List.getD_cons_zero, List.getD_cons_succ, Go.AE.cg_zero, Go.AE.cg_succ] at u0 u1 v0 v1
    cases u0; cases u1; cases v0; cases v1
    have h := closure44 a b c d W
    rw [compareInt_eq, ← hr] at h
    exact h
end Go.Proofs.Ytojnggohjbidaaa
