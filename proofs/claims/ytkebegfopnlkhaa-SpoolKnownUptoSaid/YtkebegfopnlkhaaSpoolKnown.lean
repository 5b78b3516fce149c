/-
  SpoolKnown: the statement, out of the function and its contract. Proved in the form of bounded bulk (Upto).
-/
import Derived.Test.YtkebegfopnlkhaaKn
import Derived.JoinedCond
set_option maxHeartbeats 8000000
set_option linter.unusedVariables false
set_option linter.unusedSimpArgs false
set_option maxRecDepth 100000
namespace Go.Proofs.Ytkebegfopnlkhaa
open Go.AE
namespace spoolKnown
open Go.ChangeShapes Go.WideShapes Go.ChangeAt Go.RowKit
theorem own : ownKnob Try.prog.godebug = none := by kernel_rfl
mutual
theorem bulk_le {H : Type} : ∀ d : DataW H, bulk d ≤ Rows.uptoBulk d
  | .lit l => by cases l <;> simp [bulk, Rows.uptoBulk]
  | .nil => by simp [bulk, Rows.uptoBulk]
  | .ptr d => by have := bulk_le d; simp [bulk, Rows.uptoBulk]; omega
  | .slice es sp => by have := bulkAll_le es; have := bulkAll_le sp; simp [bulk, Rows.uptoBulk]; omega
  | .agg ps => by have := bulkAll_le ps; simp [bulk, Rows.uptoBulk]; omega
  | .iface n d => by have := bulk_le d; simp [bulk, Rows.uptoBulk]; omega
  | .map es => by simp [bulk, Rows.uptoBulk]
  | .held h => by simp [bulk, Rows.uptoBulk]
theorem bulkAll_le {H : Type} : ∀ ds : List (DataW H), bulkAll ds ≤ Rows.uptoBulkAll ds
  | [] => by simp [bulkAll, Rows.uptoBulkAll]
  | d :: ds => by have := bulk_le d; have := bulkAll_le ds; simp [bulkAll, Rows.uptoBulkAll]; omega
end
theorem bulkAll_app {H : Type} (ds gs : List (DataW H)) : bulkAll ds ≤ bulkAll (ds ++ gs) := by
  induction ds with
  | nil => simp [bulkAll]
  | cons d ds ih => simp [bulkAll]; omega


set_option maxRecDepth 100000 in
theorem lifted (os : Os) (started : os.Started) (H : Type) (enc : TypeId × Value → H) (F : Stop.Interp) :
    ReturnsInHanded {} Try.checked os 7 .any ((Rows.OpenSpec.upto Rows.spoolKnownSpec).pre6 enc Try.prog Try.f7 Rows.spoolKnownUptoRow.domain false) (((Rows.OpenSpec.upto Rows.spoolKnownSpec).at F).post enc Try.prog Try.f7 false true false false) := by
  refine returnsInHanded_of_cond (C := Try.checked) (s := Rows.OpenSpec.upto Rows.spoolKnownSpec) (k := Rows.uptoSmall) rfl own started (by kernel_rfl) Try.func7
    (OpenSpec.witness (enc := enc) (C := Try.checked) (s := Rows.OpenSpec.upto Rows.spoolKnownSpec) (k := Rows.uptoSmall) rfl false ⟨#[], #[], []⟩ 12 (by kernel_rfl) (by kernel_rfl) (by kernel_rfl)
      (x := ([], [], [])) (by kernel_rfl) rfl (by kernel_rfl)) ?_
  intro W base args ds gs before hval hW _ hk _
  have hb : bulkAll ds ≤ 1048576 := Nat.le_trans (bulkAll_app ds gs) (Nat.le_trans (bulkAll_le _) (of_decide_eq_true hk))
  refine law_mk (n := 8) (bt := 4) (f := Try.f7) (s := Rows.spoolKnownSpec) (claw39_SpoolKnown N0) (by kernel_rfl) (by kernel_rfl) (by kernel_rfl) (by kernel_rfl) rfl (by kernel_rfl) (by kernel_rfl) ?_ ?_ ?_ hval hW hb
  · intro ds hds
    match ds, hds with
    | [], _ => rfl
  · intro cs h1 h2
    match cs, h1 with
    | [], _ => rfl
  · rintro ⟨⟩ hc hb
    exact Known_true

theorem over : Rows.spoolKnownUptoRow.holds Try.pinned (Rows.OpenSpec.upto Rows.spoolKnownSpec) :=
  OpenClaim.holds_of_cond 7 Try.f7 rfl rfl rfl rfl rfl rfl rfl ⟨rfl, rfl, rfl, rfl, rfl⟩ rfl rfl rfl rfl rfl (by kernel_rfl) Try.func7 (by kernel_rfl)
    (of_decide_eq_true (by kernel_rfl)) (by unfold Func.isWrapper; first | (rw [if_pos (by decide +kernel)]; kernel_rfl) | (rw [if_neg (by decide +kernel)]; exact ⟨rfl, rfl⟩))
    (fun os started H enc _ F => lifted os started H enc F)
end spoolKnown

theorem SpoolKnown_upto : Rows.SpoolKnownUptoSaid := spoolKnown.over
end Go.Proofs.Ytkebegfopnlkhaa
