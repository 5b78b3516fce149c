/-
  EnqueueWants: the statement, out of the function and its contract. Proved in the form of bounded bulk (Upto).
-/
import Derived.Test.YtcdofkflbnpjjaaDoorWB
import Derived.JoinedCond
import Derived.Test.YtcdofkflbnpjjaaDoorCards
import Derived.Test.YtcdofkflbnpjjaaDoorTie
import Derived.Deep.DeepHandedRow
import Derived.Lib.LaidTab
set_option maxHeartbeats 8000000
set_option linter.unusedVariables false
set_option linter.unusedSimpArgs false
set_option maxRecDepth 100000
namespace Go.Proofs.YtcdofkflbnpjjaaDoor
open Go.AE
namespace enqueueWants
open Go.ChangeShapes Go.WideShapes Go.ChangeAt Go.RowKit
theorem own : ownKnob Tryd.prog.godebug = none := by kernel_rfl
mutual
theorem bulk_le {H : Type} : ∀ d : DataW H, bulk d ≤ Rows.uptoBulk d
  | .lit l => by cases l <;> simp [bulk, Rows.uptoBulk]
  | .nil => by simp [bulk, Rows.uptoBulk]
  | .ptr d => by have := bulk_le d; simp [bulk, Rows.uptoBulk]; omega
  | .slice es sp => by have := bulkAll_le es; have := bulkAll_le sp; simp [bulk, Rows.uptoBulk]; omega
  | .agg ps => by have := bulkAll_le ps; simp [bulk, Rows.uptoBulk]; omega
  | .iface n d => by have := bulk_le d; simp [bulk, Rows.uptoBulk]; omega
  | .map es => by simp [bulk, Rows.uptoBulk]
  | .held h => by simp [bulk, Rows.uptoBulk]
theorem bulkAll_le {H : Type} : ∀ ds : List (DataW H), bulkAll ds ≤ Rows.uptoBulkAll ds
  | [] => by simp [bulkAll, Rows.uptoBulkAll]
  | d :: ds => by have := bulk_le d; have := bulkAll_le ds; simp [bulkAll, Rows.uptoBulkAll]; omega
end
theorem bulkAll_app {H : Type} (ds gs : List (DataW H)) : bulkAll ds ≤ bulkAll (ds ++ gs) := by
  induction ds with
  | nil => simp [bulkAll]
  | cons d ds ih => simp [bulkAll]; omega
theorem can177 (c : List C) (h : CanL Tryd.prog [.int .i64, .int .i64, .str] c) : e_TCond (d_TCond c) = c := by
  obtain ⟨hl, hc⟩ := h
  match c, hl with
  | [x0, x1, x2], _ =>
    have h0 := can_int (hc 0 (by decide))
    have h1 := can_int (hc 1 (by decide))
    have h2 := can_str (hc 2 (by decide))
    simp only [cg_zero, cg_succ] at h0 h1 h2
    simp only [e_TCond, d_TCond, cg_zero, cg_succ, h0, h1, h2]
theorem can9 (c : List C) (h : CanL Tryd.prog [.str] c) : e_Str (d_Str c) = c := by
  obtain ⟨hl, hc⟩ := h
  match c, hl with
  | [x0], _ =>
    have h0 := can_str (hc 0 (by decide))
    simp only [cg_zero, cg_succ] at h0
    simp only [e_Str, d_Str, cg_zero, cg_succ, h0]
theorem can63 (c : List C) (h : CanL Tryd.prog [.str, .str, .str, .int .i64, .bool, .int .i64, .int .i64, .int .i64, .int .i64, .str, .int .i64, .int .i64, .int .i64, .int .i64, .int .i64, .bool, .bool, .int .i64, .int .i64, .int .i64, .int .i64, .str, .slice 9, .bool, .bool] c) : e_TDD (d_TDD c) = c := by
  obtain ⟨hl, hc⟩ := h
  match c, hl with
  | [x0, x1, x2, x3, x4, x5, x6, x7, x8, x9, x10, x11, x12, x13, x14, x15, x16, x17, x18, x19, x20, x21, x22, x23, x24], _ =>
    have h0 := can_str (hc 0 (by decide))
    have h1 := can_str (hc 1 (by decide))
    have h2 := can_str (hc 2 (by decide))
    have h3 := can_int (hc 3 (by decide))
    have h4 := can_bool (hc 4 (by decide))
    have h5 := can_int (hc 5 (by decide))
    have h6 := can_int (hc 6 (by decide))
    have h7 := can_int (hc 7 (by decide))
    have h8 := can_int (hc 8 (by decide))
    have h9 := can_str (hc 9 (by decide))
    have h10 := can_int (hc 10 (by decide))
    have h11 := can_int (hc 11 (by decide))
    have h12 := can_int (hc 12 (by decide))
    have h13 := can_int (hc 13 (by decide))
    have h14 := can_int (hc 14 (by decide))
    have h15 := can_bool (hc 15 (by decide))
    have h16 := can_bool (hc 16 (by decide))
    have h17 := can_int (hc 17 (by decide))
    have h18 := can_int (hc 18 (by decide))
    have h19 := can_int (hc 19 (by decide))
    have h20 := can_int (hc 20 (by decide))
    have h21 := can_str (hc 21 (by decide))
    have h22 := can_slice ty9 e_Str d_Str can9 (hc 22 (by decide))
    have h23 := can_bool (hc 23 (by decide))
    have h24 := can_bool (hc 24 (by decide))
    simp only [cg_zero, cg_succ] at h0 h1 h2 h3 h4 h5 h6 h7 h8 h9 h10 h11 h12 h13 h14 h15 h16 h17 h18 h19 h20 h21 h22 h23 h24
    simp only [e_TDD, d_TDD, cg_zero, cg_succ, h0, h1, h2, h3, h4, h5, h6, h7, h8, h9, h10, h11, h12, h13, h14, h15, h16, h17, h18, h19, h20, h21, h22, h23, h24]
theorem can29 (c : List C) (h : CanL Tryd.prog [.str, .str, .str, .slice 177, .bool, .bool, .int .i64, .slice 63] c) : e_TJobStep (d_TJobStep c) = c := by
  obtain ⟨hl, hc⟩ := h
  match c, hl with
  | [x0, x1, x2, x3, x4, x5, x6, x7], _ =>
    have h0 := can_str (hc 0 (by decide))
    have h1 := can_str (hc 1 (by decide))
    have h2 := can_str (hc 2 (by decide))
    have h3 := can_slice ty177 e_TCond d_TCond can177 (hc 3 (by decide))
    have h4 := can_bool (hc 4 (by decide))
    have h5 := can_bool (hc 5 (by decide))
    have h6 := can_int (hc 6 (by decide))
    have h7 := can_slice ty63 e_TDD d_TDD can63 (hc 7 (by decide))
    simp only [cg_zero, cg_succ] at h0 h1 h2 h3 h4 h5 h6 h7
    simp only [e_TJobStep, d_TJobStep, cg_zero, cg_succ, h0, h1, h2, h3, h4, h5, h6, h7]
theorem canp0 (c : List C) (h : CanL Tryd.prog [.str, .str, .int .i64, .slice 177, .slice 29] c) : ([.str (cg c 0).toStr, .str (cg c 1).toStr, .int (cg c 2).toInt, .slice (List.map e_TCond (List.map d_TCond (cg c 3).toSl)), .slice (List.map e_TJobStep (List.map d_TJobStep (cg c 4).toSl))] : List C) = c := by
  obtain ⟨hl, hc⟩ := h
  match c, hl with
  | [x0, x1, x2, x3, x4], _ =>
    have h0 := can_str (hc 0 (by decide))
    have h1 := can_str (hc 1 (by decide))
    have h2 := can_int (hc 2 (by decide))
    have h3 := can_slice ty177 e_TCond d_TCond can177 (hc 3 (by decide))
    have h4 := can_slice ty29 e_TJobStep d_TJobStep can29 (hc 4 (by decide))
    simp only [cg_zero, cg_succ] at h0 h1 h2 h3 h4
    simp only [cg_zero, cg_succ, h0, h1, h2, h3, h4]

/-- A WORLD FOR THE WITNESS: the settled one, the listed variables holding what their initialisers lay. -/
def layC (c : Array Value) : Obj → Obj
  | .cells _ t frozen => .cells c t frozen
  | o => o
def layW (w : World) (c1 c2 : Array Value) : World := { w with heap := (w.heap.modify 1 (layC c1)).modify 2 (layC c2) }
def cells1 : Array Value := (Go.Pinned.utf8FirstZ.map fun (n : Nat) => Value.int .u8 n).toArray
def cells2 : Array Value := #[.int .u8 128, .int .u8 191, .int .u8 160, .int .u8 191, .int .u8 128, .int .u8 159, .int .u8 144, .int .u8 191, .int .u8 128, .int .u8 143, .int .u8 0, .int .u8 0, .int .u8 0, .int .u8 0, .int .u8 0, .int .u8 0, .int .u8 0, .int .u8 0, .int .u8 0, .int .u8 0, .int .u8 0, .int .u8 0, .int .u8 0, .int .u8 0, .int .u8 0, .int .u8 0, .int .u8 0, .int .u8 0, .int .u8 0, .int .u8 0, .int .u8 0, .int .u8 0]
theorem laid_met (os : Os) : laidMet Tryd.prog Rows.enqueueWantsUptoRow.laid ((layW (World.holding Tryd.prog os ⟨#[], #[], []⟩) cells1 cells2).forCall (fun _ _ => 0) ⟨#[], #[.agg #[.string ⟨#[]⟩, .string ⟨#[]⟩, .int .i64 0, .slice none 0 0, .slice none 0 0]], []⟩).memory :=
  laidMet_of_run' 8 (by kernel_rfl) (by kernel_rfl)
theorem reads (os : Os) {H : Type} (enc : TypeId × Value → H) : ∃ places, DataW.whole enc Tryd.prog ((layW (World.holding Tryd.prog os ⟨#[], #[], []⟩) cells1 cells2).forCall (fun _ _ => 0) ⟨#[], #[.agg #[.string ⟨#[]⟩, .string ⟨#[]⟩, .int .i64 0, .slice none 0 0, .slice none 0 0]], []⟩).memory Tryd.f3.params.toList Rows.enqueueWantsSpec.vars false (#[.agg #[.string ⟨#[]⟩, .string ⟨#[]⟩, .int .i64 0, .slice none 0 0, .slice none 0 0]] : Array Value).toList 12 = some ([.agg [.lit (.string []), .lit (.string []), .lit (.int .i64 0), .nil, .nil]], [], places) :=
  ⟨[], by kernel_rfl⟩

set_option maxRecDepth 100000 in
theorem lifted (os : Os) (started : os.Started) (H : Type) (enc : TypeId × Value → H) (F : Stop.Interp) :
    ReturnsInHanded {} Tryd.checked os 3 .any ((Rows.OpenSpec.upto Rows.enqueueWantsSpec).preRow enc Tryd.prog Tryd.f3 Rows.enqueueWantsUptoRow.domain false Rows.enqueueWantsUptoRow.laid) (((Rows.OpenSpec.upto Rows.enqueueWantsSpec).at F).post enc Tryd.prog Tryd.f3 false true false false) := by
  obtain ⟨places, hx⟩ := reads os enc
  refine returnsInHanded_of_row (C := Tryd.checked) (s := Rows.OpenSpec.upto Rows.enqueueWantsSpec) own started (by kernel_rfl) Tryd.func3
    (witness_row_at (enc := enc) (C := Tryd.checked) false (layW (World.holding Tryd.prog os ⟨#[], #[], []⟩) cells1 cells2) #[.agg #[.string ⟨#[]⟩, .string ⟨#[]⟩, .int .i64 0, .slice none 0 0, .slice none 0 0]] rfl (by kernel_rfl) (by kernel_rfl) (by kernel_rfl)
      (OpenSpec.preRow_of_cond 12 hx (by kernel_rfl) (fun k hk => by cases hk; kernel_rfl) (by kernel_rfl) (laid_met os))) ?_
  intro W base args ds gs before hval hW _ hcond _ hL _ _
  have hk := hcond _ rfl
  have hb : bulkAll ds ≤ 1048576 := Nat.le_trans (bulkAll_app ds gs) (Nat.le_trans (bulkAll_le _) (of_decide_eq_true hk))
  refine law_mk (n := 8) (bt := 4) (f := Tryd.f3) (s := Rows.enqueueWantsSpec) (claw37_EnqueueWants N0) (by kernel_rfl) (by kernel_rfl) (by kernel_rfl) (by kernel_rfl) rfl (by kernel_rfl) (by kernel_rfl) ?_ ?_ ?_ hval hW hb
  · intro ds hds
    match ds, hds with
    | [d0], _ => rfl
  · intro cs h1 h2
    match cs, h1 with
    | [c0], _ =>
      have h0 := h2 0 (by decide)
      simp only [List.getD_cons_zero, List.getD_cons_succ] at h0
      exact (by rw [canp0 c0 h0] : ([[.str (cg c0 0).toStr, .str (cg c0 1).toStr, .int (cg c0 2).toInt, .slice (List.map e_TCond (List.map d_TCond (cg c0 3).toSl)), .slice (List.map e_TJobStep (List.map d_TJobStep (cg c0 4).toSl))]] : List (List C)) = [c0]).symm
  · rintro x0 hc hb
    exact p_law37_EnqueueWants N0 (Nat.le_refl _) rfl x0 hb

theorem over : Rows.enqueueWantsUptoRow.holds Tryd.pinned (Rows.OpenSpec.upto Rows.enqueueWantsSpec) :=
  OpenClaim.holds_of_cond 3 Tryd.f3 rfl rfl rfl rfl rfl rfl rfl ⟨rfl, rfl, rfl, rfl, rfl⟩ rfl rfl rfl rfl rfl (by kernel_rfl) Tryd.func3 (by kernel_rfl)
    (of_decide_eq_true (by kernel_rfl)) (by unfold Func.isWrapper; first | (rw [if_pos (by decide +kernel)]; kernel_rfl) | (rw [if_neg (by decide +kernel)]; exact ⟨rfl, rfl⟩))
    (fun os started H enc _ F => by rw [OpenClaim.pre_eq_preRow]; exact lifted os started H enc F)

theorem plain (f : FuncId) (fn : Func) (hf : Tryd.pinned.checked.prog.funcNamed Rows.enqueueWantsUptoRow.func = some f) (hfn : Tryd.pinned.checked.prog.funcs[f]? = some fn) :
    false = Tryd.pinned.checked.prog.looks [] ∧ ∀ (j : Nat) t, fn.params[j]? = some t → Tryd.pinned.checked.prog.wantsStandIn t = false := by
  obtain rfl : f = 3 := Option.some.inj ((show Tryd.prog.funcNamed Rows.enqueueWantsUptoRow.func = some 3 by kernel_rfl).symm.trans hf) |>.symm
  obtain rfl : fn = Tryd.f3 := (Option.some.inj (Tryd.func3.symm.trans hfn)).symm
  refine ⟨by kernel_rfl, fun j t ht => ?_⟩
  have h : ∀ t ∈ Tryd.f3.params.toList, Tryd.pinned.checked.prog.wantsStandIn t = false := fun t h => by
    have := List.all_eq_true.1 (show (Tryd.f3.params.toList.all fun t => !Tryd.pinned.checked.prog.wantsStandIn t) = true by kernel_rfl) t h
    simpa using this
  exact h t (Array.mem_toList_iff.2 (Array.mem_of_getElem? ht))
end enqueueWants

theorem EnqueueWants_upto : Rows.EnqueueWantsUptoCardSaid :=
  Claim7.holds_tied_plain_at .later [] _ _ _ _ enqueueWants.over (fun _ h => by cases h) (by kernel_rfl) (fun _ h => by cases h) enqueueWantsUpto_row_tie rfl ⟨rfl, rfl⟩ (by kernel_rfl) rfl enqueueWants.plain (by kernel_rfl)
end Go.Proofs.YtcdofkflbnpjjaaDoor
