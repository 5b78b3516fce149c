/-
  SpoolKnown: the statement, out of the function and its contract.
-/
import Derived.Test.YtkebegfopnlkhaaKn
import Derived.JoinedCond
import Derived.Deep.DeepHandedRow
set_option maxHeartbeats 8000000
set_option linter.unusedVariables false
set_option linter.unusedSimpArgs false
set_option maxRecDepth 100000
namespace Go.Proofs.Ytkebegfopnlkhaa
open Go.AE
namespace spoolKnown
open Go.ChangeShapes Go.WideShapes Go.ChangeAt Go.RowKit
theorem own : ownKnob Try.prog.godebug = none := by kernel_rfl
theorem no_arg {H : Type} {enc : TypeId × Value → H} {W : World} {args : Array Value} {ds gs : List (DataW H)} {before : List MemPlace} {vs : List String} (hW : DataW.Whole enc Try.prog Try.f7.params.toList vs false W args.toList ds gs before) : bulkAll ds ≤ 1048576 := by
  obtain ⟨p, q, hA, _⟩ := hW
  rw [show Try.f7.params.toList = [] from rfl] at hA
  obtain ⟨e1, e2, e3⟩ := trodAll_nil hA
  subst e2
  simp [bulkAll]

set_option maxRecDepth 100000 in
theorem lifted (os : Os) (started : os.Started) (H : Type) (enc : TypeId × Value → H) (F : Stop.Interp) :
    ReturnsInHanded {} Try.checked os 7 .any ((OpenSpec.ofChange Rows.spoolKnownSpec).preRow enc Try.prog Try.f7 Rows.spoolKnownRow.domain false Rows.spoolKnownRow.laid) (((OpenSpec.ofChange Rows.spoolKnownSpec).at F).post enc Try.prog Try.f7 false true false false) := by
  refine returnsInHanded_of_row (C := Try.checked) (s := OpenSpec.ofChange Rows.spoolKnownSpec) own started (by kernel_rfl) Try.func7
    (witness_row_at (enc := enc) (C := Try.checked) false (World.holding Try.prog os ⟨#[], #[], []⟩) #[] rfl (by kernel_rfl) (by kernel_rfl) (by kernel_rfl)
      (OpenSpec.preRow_of_B rfl 12 (by kernel_rfl) (by kernel_rfl) (laidMet_nil _ _))) ?_
  intro W base args ds gs before hval hW _ _ _ _ _ _
  have hb := no_arg hW
  refine law_mk (n := 8) (bt := 4) (f := Try.f7) (s := Rows.spoolKnownSpec) (claw39_SpoolKnown N0) (by kernel_rfl) (by kernel_rfl) (by kernel_rfl) (by kernel_rfl) rfl (by kernel_rfl) (by kernel_rfl) ?_ ?_ ?_ hval hW hb
  · intro ds hds
    match ds, hds with
    | [], _ => rfl
  · intro cs h1 h2
    match cs, h1 with
    | [], _ => rfl
  · rintro ⟨⟩ hc hb
    exact Known_true

theorem over : Rows.spoolKnownRow.holds Try.pinned (OpenSpec.ofChange Rows.spoolKnownSpec) :=
  OpenClaim.holds_of_cond 7 Try.f7 rfl rfl rfl rfl rfl rfl rfl ⟨rfl, rfl, rfl, rfl, rfl⟩ rfl rfl rfl rfl rfl (by kernel_rfl) Try.func7 (by kernel_rfl)
    (of_decide_eq_true (by kernel_rfl)) (by unfold Func.isWrapper; first | (rw [if_pos (by decide +kernel)]; kernel_rfl) | (rw [if_neg (by decide +kernel)]; exact ⟨rfl, rfl⟩))
    (fun os started H enc _ F => by rw [OpenClaim.pre_eq_preRow]; exact lifted os started H enc F)
end spoolKnown

theorem SpoolKnown_full : Rows.SpoolKnownSaid := spoolKnown.over
end Go.Proofs.Ytkebegfopnlkhaa
