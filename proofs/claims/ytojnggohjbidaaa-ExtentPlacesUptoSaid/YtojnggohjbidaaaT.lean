/-
  The types of the seat, by structures; what is known of them.
-/
import Derived.Test.YtojnggohjbidaaaAE19
import Derived.Test.YtojnggohjbidaaaAE28
import Derived.Test.YtojnggohjbidaaaRows
set_option maxHeartbeats 8000000
set_option linter.unusedVariables false
set_option linter.unusedSimpArgs false
set_option maxRecDepth 100000
namespace Go.Proofs.Ytojnggohjbidaaa
open Go.AE
theorem h00 : tyI Try.prog 0 = none := by kernel_rfl
theorem mixed : Try.prog.follows .mixedOrders = true := by kernel_rfl
theorem ty3 : tyI Try.prog 3 = some ⟨[.int .i64], false, [], 0, 8⟩ := by kernel_rfl
theorem ty4 : tyI Try.prog 4 = some ⟨[.bool], false, [], 0, 1⟩ := by kernel_rfl
theorem ty22 : tyI Try.prog 22 = some ⟨[.slice 43], false, [], 43, 24⟩ := by kernel_rfl
theorem sl22 : slE Try.prog 22 = some (43, ⟨[.int .i64, .int .i64], true, [(0, 3), (1, 3)], 0, 16⟩) := by kernel_rfl
theorem ty23 : tyI Try.prog 23 = some ⟨[.int .i64], false, [], 0, 8⟩ := by kernel_rfl
theorem ty43 : tyI Try.prog 43 = some ⟨[.int .i64, .int .i64], true, [(0, 3), (1, 3)], 0, 16⟩ := by kernel_rfl
theorem eq43 : eqT Try.prog 43 = true := by kernel_rfl
theorem ty46 : tyI Try.prog 46 = some ⟨[.slice 3], false, [], 3, 24⟩ := by kernel_rfl
theorem sl46 : slE Try.prog 46 = some (3, ⟨[.int .i64], false, [], 0, 8⟩) := by kernel_rfl
theorem ar50 : arrI Try.prog 50 = some (512, 4, ⟨[.bool], false, [], 0, 1⟩) := by kernel_rfl
theorem ty50 : tyI Try.prog 50 = none := by kernel_rfl
theorem sl50 : slE Try.prog 50 = none := by kernel_rfl
theorem ty52 : tyI Try.prog 52 = some ⟨[.slice 4], false, [], 4, 24⟩ := by kernel_rfl
theorem sl52 : slE Try.prog 52 = some (4, ⟨[.bool], false, [], 0, 1⟩) := by kernel_rfl
theorem tys : type_of% (And.intro (And.intro (And.intro @ty3 (And.intro @ty4 @ty22)) (And.intro (And.intro @sl22 @ty23) (And.intro @ty43 @eq43))) (And.intro (And.intro @ty46 (And.intro @sl46 @ar50)) (And.intro (And.intro @ty50 @sl50) (And.intro @ty52 @sl52)))) := (And.intro (And.intro (And.intro @ty3 (And.intro @ty4 @ty22)) (And.intro (And.intro @sl22 @ty23) (And.intro @ty43 @eq43))) (And.intro (And.intro @ty46 (And.intro @sl46 @ar50)) (And.intro (And.intro @ty50 @sl50) (And.intro @ty52 @sl52))))

structure TExtent where
  At : Int
  Len : Int
  deriving DecidableEq, Inhabited
def e_TExtent (x : TExtent) : List C := [.int x.At, .int x.Len]
def d_TExtent (c : List C) : TExtent := (⟨(cg c 0).toInt, (cg c 1).toInt⟩ : TExtent)
theorem de_TExtent (l : List TExtent) : List.map d_TExtent (List.map e_TExtent l) = l := by
  rw [List.map_map]; refine (List.map_congr_left fun x _ => ?_).trans (List.map_id l)
  show d_TExtent (e_TExtent x) = x
  simp only [d_TExtent, e_TExtent, cg_zero, cg_succ, C.toBool_bool, C.toInt_int, C.toStr_str, C.toSl_slice]
theorem cg_TExtent_0 (l : List TExtent) (i : Nat) : (cg (eg (List.map e_TExtent l) i) 0).toInt = (gt l i).At := by
  rcases Nat.lt_or_ge i l.length with h | h
  · rw [eg_map _ _ _ h]; rfl
  · rw [eg_out _ _ _ h, gt_out _ _ h]; rfl
theorem cg_TExtent_1 (l : List TExtent) (i : Nat) : (cg (eg (List.map e_TExtent l) i) 1).toInt = (gt l i).Len := by
  rcases Nat.lt_or_ge i l.length with h | h
  · rw [eg_map _ _ _ h]; rfl
  · rw [eg_out _ _ _ h, gt_out _ _ h]; rfl
theorem ap_TExtent (l : List TExtent) (v0 : Int) (v1 : Int) : List.map e_TExtent l ++ [[.int v0, .int v1]] = List.map e_TExtent (l ++ [(⟨v0, v1⟩ : TExtent)]) := by simp [e_TExtent]
theorem set_TExtent_0_2 (l : List TExtent) (i : Nat) (v0 : Int) (v1 : Int) : (List.map e_TExtent l).set i (spliceR (eg (List.map e_TExtent l) i) 0 [.int v0, .int v1]) = List.map e_TExtent (l.set i (⟨v0, v1⟩ : TExtent)) := by
  refine set_map_of _ _ _ _ fun h => ?_
  rw [eg_map _ _ _ h]; rfl
theorem set_TExtent_1_1 (l : List TExtent) (i : Nat) (v1 : Int) : (List.map e_TExtent l).set i (spliceR (eg (List.map e_TExtent l) i) 1 [.int v1]) = List.map e_TExtent (l.set i (⟨(gt l i).At, v1⟩ : TExtent)) := by
  refine set_map_of _ _ _ _ fun h => ?_
  rw [eg_map _ _ _ h]; rfl
theorem zr_TExtent (n : Nat) : zreps n [.int 0, .int 0] = List.map e_TExtent (zreps n (⟨0, 0⟩ : TExtent)) := zreps_map rfl
def e_Bool (x : Bool) : List C := [.bool x]
def d_Bool (c : List C) : Bool := (cg c 0).toBool
theorem de_Bool (l : List Bool) : List.map d_Bool (List.map e_Bool l) = l := by
  rw [List.map_map]; refine (List.map_congr_left fun x _ => ?_).trans (List.map_id l)
  show d_Bool (e_Bool x) = x
  simp only [d_Bool, e_Bool, cg_zero, cg_succ, C.toBool_bool, C.toInt_int, C.toStr_str, C.toSl_slice]
theorem cg_Bool_0 (l : List Bool) (i : Nat) : (cg (eg (List.map e_Bool l) i) 0).toBool = gt l i := by
  rcases Nat.lt_or_ge i l.length with h | h
  · rw [eg_map _ _ _ h]; rfl
  · rw [eg_out _ _ _ h, gt_out _ _ h]; rfl
theorem ap_Bool (l : List Bool) (v0 : Bool) : List.map e_Bool l ++ [[.bool v0]] = List.map e_Bool (l ++ [v0]) := by simp [e_Bool]
theorem set_Bool_0_1 (l : List Bool) (i : Nat) (v0 : Bool) : (List.map e_Bool l).set i (spliceR (eg (List.map e_Bool l) i) 0 [.bool v0]) = List.map e_Bool (l.set i v0) := by
  refine set_map_of _ _ _ _ fun h => ?_
  rw [eg_map _ _ _ h]; rfl
theorem zr_Bool (n : Nat) : zreps n [.bool false] = List.map e_Bool (zreps n false) := zreps_map rfl
def e_Int (x : Int) : List C := [.int x]
def d_Int (c : List C) : Int := (cg c 0).toInt
theorem de_Int (l : List Int) : List.map d_Int (List.map e_Int l) = l := by
  rw [List.map_map]; refine (List.map_congr_left fun x _ => ?_).trans (List.map_id l)
  show d_Int (e_Int x) = x
  simp only [d_Int, e_Int, cg_zero, cg_succ, C.toBool_bool, C.toInt_int, C.toStr_str, C.toSl_slice]
theorem cg_Int_0 (l : List Int) (i : Nat) : (cg (eg (List.map e_Int l) i) 0).toInt = gt l i := by
  rcases Nat.lt_or_ge i l.length with h | h
  · rw [eg_map _ _ _ h]; rfl
  · rw [eg_out _ _ _ h, gt_out _ _ h]; rfl
theorem ap_Int (l : List Int) (v0 : Int) : List.map e_Int l ++ [[.int v0]] = List.map e_Int (l ++ [v0]) := by simp [e_Int]
theorem eta_TExtent (x : TExtent) : (⟨x.At, x.Len⟩ : TExtent) = x := rfl
theorem tl : type_of% (And.intro (And.intro (And.intro (And.intro @de_TExtent @e_TExtent.eq_1) (And.intro @d_TExtent.eq_1 (And.intro @cg_TExtent_0 @cg_TExtent_1))) (And.intro (And.intro @ap_TExtent (And.intro @set_TExtent_0_2 @set_TExtent_1_1)) (And.intro @zr_TExtent (And.intro @de_Bool @e_Bool.eq_1)))) (And.intro (And.intro (And.intro @d_Bool.eq_1 @cg_Bool_0) (And.intro @ap_Bool (And.intro @set_Bool_0_1 @zr_Bool))) (And.intro (And.intro @de_Int (And.intro @e_Int.eq_1 @d_Int.eq_1)) (And.intro @cg_Int_0 (And.intro @ap_Int @eta_TExtent))))) := (And.intro (And.intro (And.intro (And.intro @de_TExtent @e_TExtent.eq_1) (And.intro @d_TExtent.eq_1 (And.intro @cg_TExtent_0 @cg_TExtent_1))) (And.intro (And.intro @ap_TExtent (And.intro @set_TExtent_0_2 @set_TExtent_1_1)) (And.intro @zr_TExtent (And.intro @de_Bool @e_Bool.eq_1)))) (And.intro (And.intro (And.intro @d_Bool.eq_1 @cg_Bool_0) (And.intro @ap_Bool (And.intro @set_Bool_0_1 @zr_Bool))) (And.intro (And.intro @de_Int (And.intro @e_Int.eq_1 @d_Int.eq_1)) (And.intro @cg_Int_0 (And.intro @ap_Int @eta_TExtent)))))
theorem z : type_of% (And.intro (And.intro ev ew) (And.intro tys tl)) := (And.intro (And.intro ev ew) (And.intro tys tl))
end Go.Proofs.Ytojnggohjbidaaa
