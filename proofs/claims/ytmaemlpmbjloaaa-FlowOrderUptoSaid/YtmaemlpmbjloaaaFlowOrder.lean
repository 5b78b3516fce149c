/-
  FlowOrder: the statement, out of the function and its contract. Proved in the form of bounded bulk (Upto).
-/
import Derived.Test.YtmaemlpmbjloaaaR
import Derived.JoinedCond
set_option maxHeartbeats 8000000
set_option linter.unusedVariables false
set_option linter.unusedSimpArgs false
set_option maxRecDepth 100000
namespace Go.Proofs.Ytmaemlpmbjloaaa
open Go.AE
namespace flowOrder
open Go.ChangeShapes Go.WideShapes Go.ChangeAt Go.RowKit
theorem own : ownKnob Try.prog.godebug = none := by kernel_rfl
mutual
theorem bulk_le {H : Type} : ∀ d : DataW H, bulk d ≤ Rows.uptoBulk d
  | .lit l => by cases l <;> simp [bulk, Rows.uptoBulk]
  | .nil => by simp [bulk, Rows.uptoBulk]
  | .ptr d => by have := bulk_le d; simp [bulk, Rows.uptoBulk]; omega
  | .slice es sp => by have := bulkAll_le es; have := bulkAll_le sp; simp [bulk, Rows.uptoBulk]; omega
  | .agg ps => by have := bulkAll_le ps; simp [bulk, Rows.uptoBulk]; omega
  | .iface n d => by have := bulk_le d; simp [bulk, Rows.uptoBulk]; omega
  | .map es => by simp [bulk, Rows.uptoBulk]
  | .held h => by simp [bulk, Rows.uptoBulk]
theorem bulkAll_le {H : Type} : ∀ ds : List (DataW H), bulkAll ds ≤ Rows.uptoBulkAll ds
  | [] => by simp [bulkAll, Rows.uptoBulkAll]
  | d :: ds => by have := bulk_le d; have := bulkAll_le ds; simp [bulkAll, Rows.uptoBulkAll]; omega
end
theorem bulkAll_app {H : Type} (ds gs : List (DataW H)) : bulkAll ds ≤ bulkAll (ds ++ gs) := by
  induction ds with
  | nil => simp [bulkAll]
  | cons d ds ih => simp [bulkAll]; omega
theorem can27 (c : List C) (h : CanL Try.prog [.int .i64, .int .i64, .str] c) : e_TCond (d_TCond c) = c := by
  obtain ⟨hl, hc⟩ := h
  match c, hl with
  | [x0, x1, x2], _ =>
    have h0 := can_int (hc 0 (by decide))
    have h1 := can_int (hc 1 (by decide))
    have h2 := can_str (hc 2 (by decide))
    simp only [cg_zero, cg_succ] at h0 h1 h2
    simp only [e_TCond, d_TCond, cg_zero, cg_succ, h0, h1, h2]
theorem can9 (c : List C) (h : CanL Try.prog [.str] c) : e_Str (d_Str c) = c := by
  obtain ⟨hl, hc⟩ := h
  match c, hl with
  | [x0], _ =>
    have h0 := can_str (hc 0 (by decide))
    simp only [cg_zero, cg_succ] at h0
    simp only [e_Str, d_Str, cg_zero, cg_succ, h0]
theorem can39 (c : List C) (h : CanL Try.prog [.str, .str, .str, .int .i64, .bool, .int .i64, .int .i64, .int .i64, .int .i64, .str, .int .i64, .int .i64, .int .i64, .int .i64, .int .i64, .bool, .bool, .int .i64, .int .i64, .int .i64, .int .i64, .str, .slice 9, .bool, .bool] c) : e_TDD (d_TDD c) = c := by
  obtain ⟨hl, hc⟩ := h
  match c, hl with
  | [x0, x1, x2, x3, x4, x5, x6, x7, x8, x9, x10, x11, x12, x13, x14, x15, x16, x17, x18, x19, x20, x21, x22, x23, x24], _ =>
    have h0 := can_str (hc 0 (by decide))
    have h1 := can_str (hc 1 (by decide))
    have h2 := can_str (hc 2 (by decide))
    have h3 := can_int (hc 3 (by decide))
    have h4 := can_bool (hc 4 (by decide))
    have h5 := can_int (hc 5 (by decide))
    have h6 := can_int (hc 6 (by decide))
    have h7 := can_int (hc 7 (by decide))
    have h8 := can_int (hc 8 (by decide))
    have h9 := can_str (hc 9 (by decide))
    have h10 := can_int (hc 10 (by decide))
    have h11 := can_int (hc 11 (by decide))
    have h12 := can_int (hc 12 (by decide))
    have h13 := can_int (hc 13 (by decide))
    have h14 := can_int (hc 14 (by decide))
    have h15 := can_bool (hc 15 (by decide))
    have h16 := can_bool (hc 16 (by decide))
    have h17 := can_int (hc 17 (by decide))
    have h18 := can_int (hc 18 (by decide))
    have h19 := can_int (hc 19 (by decide))
    have h20 := can_int (hc 20 (by decide))
    have h21 := can_str (hc 21 (by decide))
    have h22 := can_slice ty9 e_Str d_Str can9 (hc 22 (by decide))
    have h23 := can_bool (hc 23 (by decide))
    have h24 := can_bool (hc 24 (by decide))
    simp only [cg_zero, cg_succ] at h0 h1 h2 h3 h4 h5 h6 h7 h8 h9 h10 h11 h12 h13 h14 h15 h16 h17 h18 h19 h20 h21 h22 h23 h24
    simp only [e_TDD, d_TDD, cg_zero, cg_succ, h0, h1, h2, h3, h4, h5, h6, h7, h8, h9, h10, h11, h12, h13, h14, h15, h16, h17, h18, h19, h20, h21, h22, h23, h24]
theorem canp0 (c : List C) (h : CanL Try.prog [.str, .str, .str, .slice 27, .bool, .bool, .int .i64, .slice 39] c) : ([.str (cg c 0).toStr, .str (cg c 1).toStr, .str (cg c 2).toStr, .slice (List.map e_TCond (List.map d_TCond (cg c 3).toSl)), .bool (cg c 4).toBool, .bool (cg c 5).toBool, .int (cg c 6).toInt, .slice (List.map e_TDD (List.map d_TDD (cg c 7).toSl))] : List C) = c := by
  obtain ⟨hl, hc⟩ := h
  match c, hl with
  | [x0, x1, x2, x3, x4, x5, x6, x7], _ =>
    have h0 := can_str (hc 0 (by decide))
    have h1 := can_str (hc 1 (by decide))
    have h2 := can_str (hc 2 (by decide))
    have h3 := can_slice ty27 e_TCond d_TCond can27 (hc 3 (by decide))
    have h4 := can_bool (hc 4 (by decide))
    have h5 := can_bool (hc 5 (by decide))
    have h6 := can_int (hc 6 (by decide))
    have h7 := can_slice ty39 e_TDD d_TDD can39 (hc 7 (by decide))
    simp only [cg_zero, cg_succ] at h0 h1 h2 h3 h4 h5 h6 h7
    simp only [cg_zero, cg_succ, h0, h1, h2, h3, h4, h5, h6, h7]
theorem canp1 (c : List C) (h : CanL Try.prog [.slice 9] c) : ([.slice (List.map e_Str (List.map d_Str (cg c 0).toSl))] : List C) = c := by
  obtain ⟨hl, hc⟩ := h
  match c, hl with
  | [x0], _ =>
    have h0 := can_slice ty9 e_Str d_Str can9 (hc 0 (by decide))
    simp only [cg_zero, cg_succ] at h0
    simp only [cg_zero, cg_succ, h0]
theorem can24 (c : List C) (h : CanL Try.prog [.int .i64, .int .i64, .int .i64, .int .i64] c) : e_TStepEnd (d_TStepEnd c) = c := by
  obtain ⟨hl, hc⟩ := h
  match c, hl with
  | [x0, x1, x2, x3], _ =>
    have h0 := can_int (hc 0 (by decide))
    have h1 := can_int (hc 1 (by decide))
    have h2 := can_int (hc 2 (by decide))
    have h3 := can_int (hc 3 (by decide))
    simp only [cg_zero, cg_succ] at h0 h1 h2 h3
    simp only [e_TStepEnd, d_TStepEnd, cg_zero, cg_succ, h0, h1, h2, h3]
theorem canp2 (c : List C) (h : CanL Try.prog [.slice 24] c) : ([.slice (List.map e_TStepEnd (List.map d_TStepEnd (cg c 0).toSl))] : List C) = c := by
  obtain ⟨hl, hc⟩ := h
  match c, hl with
  | [x0], _ =>
    have h0 := can_slice ty24 e_TStepEnd d_TStepEnd can24 (hc 0 (by decide))
    simp only [cg_zero, cg_succ] at h0
    simp only [cg_zero, cg_succ, h0]

set_option maxRecDepth 100000 in
theorem lifted (os : Os) (started : os.Started) (H : Type) (enc : TypeId × Value → H) (F : Stop.Interp) :
    ReturnsInHanded {} Try.checked os 6 .any ((Rows.OpenSpec.upto Rows.flowOrderSpec).pre6 enc Try.prog Try.f6 Rows.flowOrderUptoRow.domain false) (((Rows.OpenSpec.upto Rows.flowOrderSpec).at F).post enc Try.prog Try.f6 false true false false) := by
  refine returnsInHanded_of_cond (C := Try.checked) (s := Rows.OpenSpec.upto Rows.flowOrderSpec) (k := Rows.uptoSmall) rfl own started (by kernel_rfl) Try.func6
    (OpenSpec.witness (enc := enc) (C := Try.checked) (s := Rows.OpenSpec.upto Rows.flowOrderSpec) (k := Rows.uptoSmall) rfl false ⟨#[], #[.agg #[.string ⟨#[]⟩, .string ⟨#[]⟩, .string ⟨#[]⟩, .slice none 0 0, .bool false, .bool false, .int .i64 0, .slice none 0 0], .slice none 0 0, .slice none 0 0], []⟩ 12 (by kernel_rfl) (by kernel_rfl) (by kernel_rfl)
      (x := ([.agg [.lit (.string []), .lit (.string []), .lit (.string []), .nil, .lit (.bool false), .lit (.bool false), .lit (.int .i64 0), .nil], .nil, .nil], [], [])) (by kernel_rfl) rfl (by kernel_rfl)) ?_
  intro W base args ds gs before hval hW _ hk _
  have hb : bulkAll ds ≤ 1048576 := Nat.le_trans (bulkAll_app ds gs) (Nat.le_trans (bulkAll_le _) (of_decide_eq_true hk))
  refine law_mk (n := 8) (bt := 4) (f := Try.f6) (s := Rows.flowOrderSpec) (claw36_FlowOrder N0) (by kernel_rfl) (by kernel_rfl) (by kernel_rfl) (by kernel_rfl) rfl (by kernel_rfl) (by kernel_rfl) ?_ ?_ ?_ hval hW hb
  · intro ds hds
    match ds, hds with
    | [d0, d1, d2], _ => rfl
  · intro cs h1 h2
    match cs, h1 with
    | [c0, c1, c2], _ =>
      have h0 := h2 0 (by decide)
      have h1 := h2 1 (by decide)
      have h2 := h2 2 (by decide)
      simp only [List.getD_cons_zero, List.getD_cons_succ] at h0 h1 h2
      exact (by rw [canp0 c0 h0, canp1 c1 h1, canp2 c2 h2] : ([[.str (cg c0 0).toStr, .str (cg c0 1).toStr, .str (cg c0 2).toStr, .slice (List.map e_TCond (List.map d_TCond (cg c0 3).toSl)), .bool (cg c0 4).toBool, .bool (cg c0 5).toBool, .int (cg c0 6).toInt, .slice (List.map e_TDD (List.map d_TDD (cg c0 7).toSl))], [.slice (List.map e_Str (List.map d_Str (cg c1 0).toSl))], [.slice (List.map e_TStepEnd (List.map d_TStepEnd (cg c2 0).toSl))]] : List (List C)) = [c0, c1, c2]).symm
  · rintro ⟨x0, x1, x2⟩ hc hb
    exact p_law36_FlowOrder N0 (Nat.le_refl _) x0 x1 x2 hc hb

theorem over : Rows.flowOrderUptoRow.holds Try.pinned (Rows.OpenSpec.upto Rows.flowOrderSpec) :=
  OpenClaim.holds_of_cond 6 Try.f6 rfl rfl rfl rfl rfl rfl rfl ⟨rfl, rfl, rfl, rfl, rfl⟩ rfl rfl rfl rfl rfl (by kernel_rfl) Try.func6 (by kernel_rfl)
    (of_decide_eq_true (by kernel_rfl)) (by unfold Func.isWrapper; first | (rw [if_pos (by decide +kernel)]; kernel_rfl) | (rw [if_neg (by decide +kernel)]; exact ⟨rfl, rfl⟩))
    (fun os started H enc _ F => lifted os started H enc F)
end flowOrder

theorem FlowOrder_upto : Rows.FlowOrderUptoSaid := flowOrder.over
end Go.Proofs.Ytmaemlpmbjloaaa
