/-
  FetchNil: works runs in the kernel; fetch.Put and fetch.Segment of no store.
-/
import Derived.Test.YtcbcdjincgclaaaK22
import Derived.WalkKit
import Derived.Test.YtcbcdjincgclaaaProg
set_option maxRecDepth 100000
namespace Go.Proofs.Ytcbcdjincgclaaa
open Go.RowKit Go.Proofs
set_option maxHeartbeats 4000000 in
theorem put15 (a b c n : Value) (W : World) : Calls Try.prog 15 #[.pointer none, .agg #[a, b, c, n], .int .i64 0, .int .i64 2048, .int .i64 1] W fun e w' => e = .returned (.tuple #[.int .i64 0, .int .i64 9]) ∧ Below W.heap.size W w' := by
  go_enter Try.func15, Try.ntmps15
  go_wp2
  go_ret2
  exact ⟨rfl, (Below.refl _ _).alloc (Nat.le_refl _) _⟩
set_option maxHeartbeats 4000000 in
theorem seg18 (a b c n : Value) (W : World) : Calls Try.prog 18 #[.pointer none, .agg #[a, b, c, n], .int .i64 0, .slice none 0 0, .int .i64 0] W fun e w' => e = .returned (.tuple #[.slice none 0 0, .int .i64 9]) ∧ Below W.heap.size W w' := by
  go_enter Try.func18, Try.ntmps18
  go_wp2
  go_ret2
  exact ⟨rfl, (Below.refl _ _).alloc (Nat.le_refl _) _⟩
theorem cells4 {W w' : World} {t : TypeId} {x0 x1 x2 x3 : Value} (h : Below (W.alloc (.cells #[x0, x1, x2, x3] t)).heap.size (W.alloc (.cells #[x0, x1, x2, x3] t)) w') :
    w'.cell? { block := W.heap.size, off := 0 } = some x0 ∧ w'.cell? { block := W.heap.size, off := 1 } = some x1 ∧ w'.cell? { block := W.heap.size, off := 2 } = some x2 ∧ w'.cell? { block := W.heap.size, off := 3 } = some x3 := by
  have hl : W.heap.size < (W.alloc (.cells #[x0, x1, x2, x3] t)).heap.size := by rw [World.size_alloc]; exact Nat.lt_succ_self _
  refine ⟨?_, ?_, ?_, ?_⟩ <;> (rw [h.cell hl, World.cell?_alloc_new]; rfl)
set_option maxHeartbeats 4000000 in
theorem law7 (hw : ∀ W, Calls Try.prog 12 #[] W fun e w' => e = .returned (.bool true) ∧ Below W.heap.size W w') (a b c n : Value) (W : World) : Calls Try.prog 7 #[.agg #[a, b, c, n]] W fun e w' => e = .returned (.bool true) ∧ Below W.heap.size W w' := by
  go_enter Try.func7, Try.ntmps7
  have hput := fun W' => put15 a b c n W'
  have hseg := fun W' => seg18 a b c n W'
  go_wp2_with (go_at_call 15; refine (hput _).mono ?_; rintro e w1 ⟨rfl, h1⟩; obtain ⟨c0, c1, c2, c3⟩ := cells4 h1)
  go_wp2_with (go_at_call 18; refine (hseg _).mono ?_; rintro e w2 ⟨rfl, h2⟩)
  go_wp2_with (go_at_call 12; refine (hw _).mono ?_; rintro e w3 ⟨rfl, h3⟩)
  go_ret
  have h0 : Below W.heap.size W (W.alloc (.cells #[a, b, c, n] 26)) := (Below.refl _ _).alloc (Nat.le_refl _) _
  have k1 := h0.size
  have k2 := h1.size
  exact ⟨rfl, ((h0.trans (h1.mono k1)).trans (h2.mono (Nat.le_trans k1 k2))).trans (h3.mono (Nat.le_trans (Nat.le_trans k1 k2) h2.size))⟩
open Go.KX in
noncomputable def kE : Env := { P := Try.prog, X := fun _ => none, F := [] }
open Go.KX in
theorem kEok : EnvOk kE := ⟨fun t ht => List.all_eq_true.1 (show kE.F.all (flatOk kE.P) = true by kernel_rfl) t ht, by kernel_rfl, fun g e h => by cases h⟩
open Go.KX in
theorem runs : (match run kE 1000 (.call 12 [] .e 10) with | some rs => rs.all fun r => KX.isTrue r.v | none => false) = true := by decide +kernel
theorem works12 (W : World) : Calls Try.prog 12 #[] W fun e w' => e = .returned (.bool true) ∧ Below W.heap.size W w' := KX.closed_true kEok runs W
end Go.Proofs.Ytcbcdjincgclaaa
