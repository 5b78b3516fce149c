/- Text. -/
import Derived.Test.YtfhnelkbiihpiaaGreatDoorG
import Derived.JoinedCond
import Derived.Test.YtfhnelkbiihpiaaGreatDoorCards
import Derived.Test.YtfhnelkbiihpiaaGreatDoorTie
import Derived.Deep.DeepHandedRow
import Derived.Lib.LaidTab
set_option maxHeartbeats 8000000
set_option linter.unusedVariables false
set_option linter.unusedSimpArgs false
set_option maxRecDepth 100000
namespace Go.Proofs.YtfhnelkbiihpiaaGreatDoor
open Go.AE
namespace linkMoves
open Go.ChangeShapes Go.WideShapes Go.ChangeAt Go.RowKit
theorem own : ownKnob Tryz.prog.godebug = none := by kernel_rfl
mutual
theorem bulk_le {H : Type} : ∀ d : DataW H, bulk d ≤ Rows.uptoBulk d
  | .lit l => by cases l <;> simp [bulk, Rows.uptoBulk]
  | .nil => by simp [bulk, Rows.uptoBulk]
  | .ptr d => by have := bulk_le d; simp [bulk, Rows.uptoBulk]; omega
  | .slice es sp => by have := bulkAll_le es; have := bulkAll_le sp; simp [bulk, Rows.uptoBulk]; omega
  | .agg ps => by have := bulkAll_le ps; simp [bulk, Rows.uptoBulk]; omega
  | .iface n d => by have := bulk_le d; simp [bulk, Rows.uptoBulk]; omega
  | .map es => by simp [bulk, Rows.uptoBulk]
  | .held h => by simp [bulk, Rows.uptoBulk]
theorem bulkAll_le {H : Type} : ∀ ds : List (DataW H), bulkAll ds ≤ Rows.uptoBulkAll ds
  | [] => by simp [bulkAll, Rows.uptoBulkAll]
  | d :: ds => by have := bulk_le d; have := bulkAll_le ds; simp [bulkAll, Rows.uptoBulkAll]; omega
end
theorem bulkAll_app {H : Type} (ds gs : List (DataW H)) : bulkAll ds ≤ bulkAll (ds ++ gs) := by
  induction ds with
  | nil => simp [bulkAll]
  | cons d ds ih => simp [bulkAll]; omega
theorem can5 (c : List C) (h : CanL Tryz.prog [.int .u8] c) : e_Int (d_Int c) = c := by
  obtain ⟨hl, hc⟩ := h
  match c, hl with
  | [x0], _ =>
    have h0 := can_int (hc 0 (by decide))
    simp only [cg_zero, cg_succ] at h0
    simp only [e_Int, d_Int, cg_zero, cg_succ, h0]
theorem can85 (c : List C) (h : CanL Tryz.prog [.int .i64, .int .i64, .bool] c) : e_TReloc (d_TReloc c) = c := by
  obtain ⟨hl, hc⟩ := h
  match c, hl with
  | [x0, x1, x2], _ =>
    have h0 := can_int (hc 0 (by decide))
    have h1 := can_int (hc 1 (by decide))
    have h2 := can_bool (hc 2 (by decide))
    simp only [cg_zero, cg_succ] at h0 h1 h2
    simp only [e_TReloc, d_TReloc, cg_zero, cg_succ, h0, h1, h2]
theorem can44 (c : List C) (h : CanL Tryz.prog [.int .i64, .int .i64, .int .i64, .int .i64] c) : e_TSegment (d_TSegment c) = c := by
  obtain ⟨hl, hc⟩ := h
  match c, hl with
  | [x0, x1, x2, x3], _ =>
    have h0 := can_int (hc 0 (by decide))
    have h1 := can_int (hc 1 (by decide))
    have h2 := can_int (hc 2 (by decide))
    have h3 := can_int (hc 3 (by decide))
    simp only [cg_zero, cg_succ] at h0 h1 h2 h3
    simp only [e_TSegment, d_TSegment, cg_zero, cg_succ, h0, h1, h2, h3]
theorem canp0 (c : List C) (h : CanL Tryz.prog [.slice 5, .slice 85, .slice 44, .int .i64] c) : ([.slice (List.map e_Int (List.map d_Int (cg c 0).toSl)), .slice (List.map e_TReloc (List.map d_TReloc (cg c 1).toSl)), .slice (List.map e_TSegment (List.map d_TSegment (cg c 2).toSl)), .int (cg c 3).toInt] : List C) = c := by
  obtain ⟨hl, hc⟩ := h
  match c, hl with
  | [x0, x1, x2, x3], _ =>
    have h0 := can_slice ty5 e_Int d_Int can5 (hc 0 (by decide))
    have h1 := can_slice ty85 e_TReloc d_TReloc can85 (hc 1 (by decide))
    have h2 := can_slice ty44 e_TSegment d_TSegment can44 (hc 2 (by decide))
    have h3 := can_int (hc 3 (by decide))
    simp only [cg_zero, cg_succ] at h0 h1 h2 h3
    simp only [cg_zero, cg_succ, h0, h1, h2, h3]
theorem canp1 (c : List C) (h : CanL Tryz.prog [.int .i64] c) : ([.int (cg c 0).toInt] : List C) = c := by
  obtain ⟨hl, hc⟩ := h
  match c, hl with
  | [x0], _ =>
    have h0 := can_int (hc 0 (by decide))
    simp only [cg_zero, cg_succ] at h0
    simp only [cg_zero, cg_succ, h0]
theorem canp2 (c : List C) (h : CanL Tryz.prog [.int .i64] c) : ([.int (cg c 0).toInt] : List C) = c := by
  obtain ⟨hl, hc⟩ := h
  match c, hl with
  | [x0], _ =>
    have h0 := can_int (hc 0 (by decide))
    simp only [cg_zero, cg_succ] at h0
    simp only [cg_zero, cg_succ, h0]
def layC (c : Array Value) : Obj → Obj
  | .cells _ t frozen => .cells c t frozen
  | o => o
def layW (w : World) (c1 c2 : Array Value) : World := { w with heap := (w.heap.modify 1 (layC c1)).modify 2 (layC c2) }
def cells1 : Array Value := (Go.Pinned.utf8FirstZ.map fun (n : Nat) => Value.int .u8 n).toArray
def cells2 : Array Value := #[.int .u8 128, .int .u8 191, .int .u8 160, .int .u8 191, .int .u8 128, .int .u8 159, .int .u8 144, .int .u8 191, .int .u8 128, .int .u8 143, .int .u8 0, .int .u8 0, .int .u8 0, .int .u8 0, .int .u8 0, .int .u8 0, .int .u8 0, .int .u8 0, .int .u8 0, .int .u8 0, .int .u8 0, .int .u8 0, .int .u8 0, .int .u8 0, .int .u8 0, .int .u8 0, .int .u8 0, .int .u8 0, .int .u8 0, .int .u8 0, .int .u8 0, .int .u8 0]
theorem laid_met (os : Os) : laidMet Tryz.prog Rows.linkMovesUptoRow.laid ((layW (World.holding Tryz.prog os ⟨#[], #[], []⟩) cells1 cells2).forCall (fun _ _ => 0) ⟨#[], #[.agg #[.slice none 0 0, .slice none 0 0, .slice none 0 0, .int .i64 0], .int .i64 0, .int .i64 0], []⟩).memory :=
  laidMet_of_run' 8 (by kernel_rfl) (by kernel_rfl)
theorem reads (os : Os) {H : Type} (enc : TypeId × Value → H) : ∃ places, DataW.whole enc Tryz.prog ((layW (World.holding Tryz.prog os ⟨#[], #[], []⟩) cells1 cells2).forCall (fun _ _ => 0) ⟨#[], #[.agg #[.slice none 0 0, .slice none 0 0, .slice none 0 0, .int .i64 0], .int .i64 0, .int .i64 0], []⟩).memory Tryz.f10.params.toList Rows.linkMovesSpec.vars false (#[.agg #[.slice none 0 0, .slice none 0 0, .slice none 0 0, .int .i64 0], .int .i64 0, .int .i64 0] : Array Value).toList 12 = some ([.agg [.nil, .nil, .nil, .lit (.int .i64 0)], .lit (.int .i64 0), .lit (.int .i64 0)], [], places) :=
  ⟨[], by kernel_rfl⟩
set_option maxRecDepth 100000 in
theorem lifted (os : Os) (started : os.Started) (H : Type) (enc : TypeId × Value → H) (F : Stop.Interp) :
    ReturnsInHanded {} Tryz.checked os 10 .any ((Rows.OpenSpec.upto Rows.linkMovesSpec).preRow enc Tryz.prog Tryz.f10 Rows.linkMovesUptoRow.domain false Rows.linkMovesUptoRow.laid) (((Rows.OpenSpec.upto Rows.linkMovesSpec).at F).post enc Tryz.prog Tryz.f10 false true false false) := by
  obtain ⟨places, hx⟩ := reads os enc
  refine returnsInHanded_of_row (C := Tryz.checked) (s := Rows.OpenSpec.upto Rows.linkMovesSpec) own started (by kernel_rfl) Tryz.func10
    (witness_row_at (enc := enc) (C := Tryz.checked) false (layW (World.holding Tryz.prog os ⟨#[], #[], []⟩) cells1 cells2) #[.agg #[.slice none 0 0, .slice none 0 0, .slice none 0 0, .int .i64 0], .int .i64 0, .int .i64 0] rfl (by kernel_rfl) (by kernel_rfl) (by kernel_rfl)
      (OpenSpec.preRow_of_cond 12 hx (by kernel_rfl) (fun k hk => by cases hk; kernel_rfl) (by kernel_rfl) (laid_met os))) ?_
  intro W base args ds gs before hval hW _ hcond _ hL _ _
  have hk := hcond _ rfl
  have hb : bulkAll ds ≤ 1048576 := Nat.le_trans (bulkAll_app ds gs) (Nat.le_trans (bulkAll_le _) (of_decide_eq_true hk))
  refine law_mk (n := 8) (bt := 4) (f := Tryz.f10) (s := Rows.linkMovesSpec) (claw32_LinkMoves N0) (by kernel_rfl) (by kernel_rfl) (by kernel_rfl) (by kernel_rfl) rfl (by kernel_rfl) (by kernel_rfl) ?_ ?_ ?_ hval hW hb
  · intro ds hds
    match ds, hds with
    | [d0, d1, d2], _ => rfl
  · intro cs h1 h2
    match cs, h1 with
    | [c0, c1, c2], _ =>
      have q0 := h2 0 (by decide)
      have q1 := h2 1 (by decide)
      have q2 := h2 2 (by decide)
      simp only [List.getD_cons_zero, List.getD_cons_succ] at q0 q1 q2
      exact (by rw [canp0 c0 q0, canp1 c1 q1, canp2 c2 q2] : ([[.slice (List.map e_Int (List.map d_Int (cg c0 0).toSl)), .slice (List.map e_TReloc (List.map d_TReloc (cg c0 1).toSl)), .slice (List.map e_TSegment (List.map d_TSegment (cg c0 2).toSl)), .int (cg c0 3).toInt], [.int (cg c1 0).toInt], [.int (cg c2 0).toInt]] : List (List C)) = [c0, c1, c2]).symm
  · rintro ⟨x0, x1, x2⟩ hc hb
    exact p_law32_LinkMoves N0 (Nat.le_refl _) x0 x1 x2 hc hb
theorem over : Rows.linkMovesUptoRow.holds Tryz.pinned (Rows.OpenSpec.upto Rows.linkMovesSpec) :=
  OpenClaim.holds_of_cond 10 Tryz.f10 rfl rfl rfl rfl rfl rfl rfl ⟨rfl, rfl, rfl, rfl, rfl⟩ rfl rfl rfl rfl rfl (by kernel_rfl) Tryz.func10 (by kernel_rfl)
    (of_decide_eq_true (by kernel_rfl)) (by unfold Func.isWrapper; first | (rw [if_pos (by decide +kernel)]; kernel_rfl) | (rw [if_neg (by decide +kernel)]; exact ⟨rfl, rfl⟩))
    (fun os started H enc _ F => by rw [OpenClaim.pre_eq_preRow]; exact lifted os started H enc F)
theorem plain (f : FuncId) (fn : Func) (hf : Tryz.pinned.checked.prog.funcNamed Rows.linkMovesUptoRow.func = some f) (hfn : Tryz.pinned.checked.prog.funcs[f]? = some fn) :
    false = Tryz.pinned.checked.prog.looks [] ∧ ∀ (j : Nat) t, fn.params[j]? = some t → Tryz.pinned.checked.prog.wantsStandIn t = false := by
  obtain rfl : f = 10 := Option.some.inj ((show Tryz.prog.funcNamed Rows.linkMovesUptoRow.func = some 10 by kernel_rfl).symm.trans hf) |>.symm
  obtain rfl : fn = Tryz.f10 := (Option.some.inj (Tryz.func10.symm.trans hfn)).symm
  refine ⟨by kernel_rfl, fun j t ht => ?_⟩
  have h : ∀ t ∈ Tryz.f10.params.toList, Tryz.pinned.checked.prog.wantsStandIn t = false := fun t h => by
    have := List.all_eq_true.1 (show (Tryz.f10.params.toList.all fun t => !Tryz.pinned.checked.prog.wantsStandIn t) = true by kernel_rfl) t h
    simpa using this
  exact h t (Array.mem_toList_iff.2 (Array.mem_of_getElem? ht))
end linkMoves
theorem LinkMoves_upto : Rows.LinkMovesUptoCardSaid :=
  Claim7.holds_tied_plain_at .later [] _ _ _ _ linkMoves.over (fun _ h => by cases h) (by kernel_rfl) (fun _ h => by cases h) linkMovesUpto_row_tie rfl ⟨rfl, rfl⟩ (by kernel_rfl) rfl linkMoves.plain (by kernel_rfl)
end Go.Proofs.YtfhnelkbiihpiaaGreatDoor
