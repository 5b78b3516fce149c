/-
  EnqueueKnown: the statement, out of the function and its contract.
-/
import Derived.Test.YtcdofkflbnpjjaaDoorLR
import Derived.Test.YtcdofkflbnpjjaaDoorChecked
import Derived.JoinedCond
import Derived.Test.YtcdofkflbnpjjaaDoorCards
import Derived.Test.YtcdofkflbnpjjaaDoorTie
import Derived.Deep.DeepHandedRow
import Derived.Lib.LaidTab
set_option maxHeartbeats 8000000
set_option linter.unusedVariables false
set_option linter.unusedSimpArgs false
set_option maxRecDepth 100000
namespace Go.Proofs.YtcdofkflbnpjjaaDoor
open Go.KX
namespace enqueueKnown
open Go.ChangeShapes Go.WideShapes Go.ChangeAt Go.RowKit
theorem own : ownKnob Tryd.prog.godebug = none := by kernel_rfl
/-- A WORLD FOR THE WITNESS: the settled one, the listed variables holding what their initialisers lay. -/
def layC (c : Array Value) : Obj → Obj
  | .cells _ t frozen => .cells c t frozen
  | o => o
def layW (w : World) (c1 c2 : Array Value) : World := { w with heap := (w.heap.modify 1 (layC c1)).modify 2 (layC c2) }
def cells1 : Array Value := (Go.Pinned.utf8FirstZ.map fun (n : Nat) => Value.int .u8 n).toArray
def cells2 : Array Value := #[.int .u8 128, .int .u8 191, .int .u8 160, .int .u8 191, .int .u8 128, .int .u8 159, .int .u8 144, .int .u8 191, .int .u8 128, .int .u8 143, .int .u8 0, .int .u8 0, .int .u8 0, .int .u8 0, .int .u8 0, .int .u8 0, .int .u8 0, .int .u8 0, .int .u8 0, .int .u8 0, .int .u8 0, .int .u8 0, .int .u8 0, .int .u8 0, .int .u8 0, .int .u8 0, .int .u8 0, .int .u8 0, .int .u8 0, .int .u8 0, .int .u8 0, .int .u8 0]
theorem laid_met (os : Os) : laidMet Tryd.prog Rows.enqueueKnownRow.laid ((layW (World.holding Tryd.prog os ⟨#[], #[], []⟩) cells1 cells2).forCall (fun _ _ => 0) ⟨#[], #[], []⟩).memory :=
  laidMet_of_run' 8 (by kernel_rfl) (by kernel_rfl)
theorem reads (os : Os) {H : Type} (enc : TypeId × Value → H) : ∃ places, DataW.whole enc Tryd.prog ((layW (World.holding Tryd.prog os ⟨#[], #[], []⟩) cells1 cells2).forCall (fun _ _ => 0) ⟨#[], #[], []⟩).memory Tryd.f4.params.toList Rows.enqueueKnownSpec.vars false (#[] : Array Value).toList 12 = some ([], [], places) :=
  ⟨[], by kernel_rfl⟩

set_option maxRecDepth 100000 in
theorem lifted (os : Os) (started : os.Started) (H : Type) (enc : TypeId × Value → H) (F : Stop.Interp) :
    ReturnsInHanded {} Tryd.checked os 4 .any ((OpenSpec.ofChange Rows.enqueueKnownSpec).preRow enc Tryd.prog Tryd.f4 Rows.enqueueKnownRow.domain false Rows.enqueueKnownRow.laid) (((OpenSpec.ofChange Rows.enqueueKnownSpec).at F).post enc Tryd.prog Tryd.f4 false true false false) := by
  obtain ⟨places, hx⟩ := reads os enc
  refine returnsInHanded_of_row (C := Tryd.checked) (s := OpenSpec.ofChange Rows.enqueueKnownSpec) own started (by kernel_rfl) Tryd.func4
    (witness_row_at (enc := enc) (C := Tryd.checked) false (layW (World.holding Tryd.prog os ⟨#[], #[], []⟩) cells1 cells2) #[] rfl (by kernel_rfl) (by kernel_rfl) (by kernel_rfl)
      (OpenSpec.preRow_of_cond 12 hx (by kernel_rfl) (fun k hk => by cases hk) (by kernel_rfl) (laid_met os))) ?_
  intro W base args ds gs before hval hW _ hcond _ hL _ _
  refine law_closed (bt := 4) (f := Tryd.f4) (s := Rows.enqueueKnownSpec) kEok (by kernel_rfl) rfl rfl rfl (by kernel_rfl) ?_ runs hW
  intro ds hds
  match ds, hds with
  | [], _ => rfl

theorem over : Rows.enqueueKnownRow.holds Tryd.pinned (OpenSpec.ofChange Rows.enqueueKnownSpec) :=
  OpenClaim.holds_of_cond 4 Tryd.f4 rfl rfl rfl rfl rfl rfl rfl ⟨rfl, rfl, rfl, rfl, rfl⟩ rfl rfl rfl rfl rfl (by kernel_rfl) Tryd.func4 (by kernel_rfl)
    (of_decide_eq_true (by kernel_rfl)) (by unfold Func.isWrapper; first | (rw [if_pos (by decide +kernel)]; kernel_rfl) | (rw [if_neg (by decide +kernel)]; exact ⟨rfl, rfl⟩))
    (fun os started H enc _ F => by rw [OpenClaim.pre_eq_preRow]; exact lifted os started H enc F)

theorem plain (f : FuncId) (fn : Func) (hf : Tryd.pinned.checked.prog.funcNamed Rows.enqueueKnownRow.func = some f) (hfn : Tryd.pinned.checked.prog.funcs[f]? = some fn) :
    false = Tryd.pinned.checked.prog.looks [] ∧ ∀ (j : Nat) t, fn.params[j]? = some t → Tryd.pinned.checked.prog.wantsStandIn t = false := by
  obtain rfl : f = 4 := Option.some.inj ((show Tryd.prog.funcNamed Rows.enqueueKnownRow.func = some 4 by kernel_rfl).symm.trans hf) |>.symm
  obtain rfl : fn = Tryd.f4 := (Option.some.inj (Tryd.func4.symm.trans hfn)).symm
  refine ⟨by kernel_rfl, fun j t ht => ?_⟩
  have h : ∀ t ∈ Tryd.f4.params.toList, Tryd.pinned.checked.prog.wantsStandIn t = false := fun t h => by
    have := List.all_eq_true.1 (show (Tryd.f4.params.toList.all fun t => !Tryd.pinned.checked.prog.wantsStandIn t) = true by kernel_rfl) t h
    simpa using this
  exact h t (Array.mem_toList_iff.2 (Array.mem_of_getElem? ht))
end enqueueKnown

theorem EnqueueKnown_full : Rows.EnqueueKnownCardSaid :=
  Claim7.holds_tied_plain_at .later [] _ _ _ _ enqueueKnown.over (fun _ h => by cases h) (by kernel_rfl) (fun _ h => by cases h) enqueueKnown_row_tie rfl ⟨rfl, rfl⟩ (by kernel_rfl) rfl enqueueKnown.plain (by kernel_rfl)
end Go.Proofs.YtcdofkflbnpjjaaDoor
