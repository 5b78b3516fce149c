/- Text. -/
import Derived.Test.YtfhnelkbiihpiaaGreatDoorAE19
import Derived.Test.YtfhnelkbiihpiaaGreatDoorAE41
import Derived.Test.YtfhnelkbiihpiaaGreatDoorAE55
import Derived.Test.YtfhnelkbiihpiaaGreatDoorRows
set_option maxHeartbeats 8000000
set_option linter.unusedVariables false
set_option linter.unusedSimpArgs false
set_option maxRecDepth 100000
namespace Go.Proofs.YtfhnelkbiihpiaaGreatDoor
open Go.AE
theorem h00 : tyI Tryz.prog 0 = none := by kernel_rfl
theorem mixed : Tryz.prog.follows .mixedOrders = true := by kernel_rfl
theorem un3 : Tryz.prog.underlying 3 = some (.int .i64) := by kernel_rfl
theorem un5 : Tryz.prog.underlying 5 = some (.int .u8) := by kernel_rfl
theorem ty3 : tyI Tryz.prog 3 = some ⟨[.int .i64], false, [], 0, 8⟩ := by kernel_rfl
theorem ty4 : tyI Tryz.prog 4 = some ⟨[.bool], false, [], 0, 1⟩ := by kernel_rfl
theorem ty5 : tyI Tryz.prog 5 = some ⟨[.int .u8], false, [], 0, 1⟩ := by kernel_rfl
theorem ty24 : tyI Tryz.prog 24 = some ⟨[.slice 5], false, [], 5, 24⟩ := by kernel_rfl
theorem sl24 : slE Tryz.prog 24 = some (5, ⟨[.int .u8], false, [], 0, 1⟩) := by kernel_rfl
theorem ty25 : tyI Tryz.prog 25 = some ⟨[.slice 85], false, [], 85, 24⟩ := by kernel_rfl
theorem sl25 : slE Tryz.prog 25 = some (85, ⟨[.int .i64, .int .i64, .bool], true, [(0, 3), (1, 3), (2, 4)], 0, 24⟩) := by kernel_rfl
theorem ty26 : tyI Tryz.prog 26 = some ⟨[.slice 44], false, [], 44, 24⟩ := by kernel_rfl
theorem sl26 : slE Tryz.prog 26 = some (44, ⟨[.int .i64, .int .i64, .int .i64, .int .i64], true, [(0, 3), (1, 3), (2, 3), (3, 3)], 0, 32⟩) := by kernel_rfl
theorem ty28 : tyI Tryz.prog 28 = some ⟨[.slice 5, .slice 85, .slice 44, .int .i64], true, [(0, 24), (1, 25), (2, 26), (3, 3)], 0, 80⟩ := by kernel_rfl
theorem ty30 : tyI Tryz.prog 30 = some ⟨[.int .i64], false, [], 0, 8⟩ := by kernel_rfl
theorem ty44 : tyI Tryz.prog 44 = some ⟨[.int .i64, .int .i64, .int .i64, .int .i64], true, [(0, 3), (1, 3), (2, 3), (3, 3)], 0, 32⟩ := by kernel_rfl
theorem eq44 : eqT Tryz.prog 44 = true := by kernel_rfl
theorem ty63 : tyI Tryz.prog 63 = some ⟨[.slice 3], false, [], 3, 24⟩ := by kernel_rfl
theorem sl63 : slE Tryz.prog 63 = some (3, ⟨[.int .i64], false, [], 0, 8⟩) := by kernel_rfl
theorem ty85 : tyI Tryz.prog 85 = some ⟨[.int .i64, .int .i64, .bool], true, [(0, 3), (1, 3), (2, 4)], 0, 24⟩ := by kernel_rfl
theorem eq85 : eqT Tryz.prog 85 = true := by kernel_rfl
theorem tys : type_of% (And.intro (And.intro (And.intro (And.intro @un3 @un5) (And.intro @ty3 @ty4)) (And.intro (And.intro @ty5 @ty24) (And.intro @sl24 (And.intro @ty25 @sl25)))) (And.intro (And.intro (And.intro @ty26 @sl26) (And.intro @ty28 (And.intro @ty30 @ty44))) (And.intro (And.intro @eq44 @ty63) (And.intro @sl63 (And.intro @ty85 @eq85))))) := (And.intro (And.intro (And.intro (And.intro @un3 @un5) (And.intro @ty3 @ty4)) (And.intro (And.intro @ty5 @ty24) (And.intro @sl24 (And.intro @ty25 @sl25)))) (And.intro (And.intro (And.intro @ty26 @sl26) (And.intro @ty28 (And.intro @ty30 @ty44))) (And.intro (And.intro @eq44 @ty63) (And.intro @sl63 (And.intro @ty85 @eq85)))))
structure TReloc where
  At : Int
  Len : Int
  Neg : Bool
  deriving DecidableEq, Inhabited
structure TSegment where
  Parent : Int
  Origin : Int
  From : Int
  Len : Int
  deriving DecidableEq, Inhabited
structure TLoad where
  Text : List Int
  Relocs : List TReloc
  Segments : List TSegment
  Entry : Int
  deriving DecidableEq, Inhabited
def e_Int (x : Int) : List C := [.int x]
def d_Int (c : List C) : Int := (cg c 0).toInt
theorem de_Int (l : List Int) : List.map d_Int (List.map e_Int l) = l := by
  rw [List.map_map]; refine (List.map_congr_left fun x _ => ?_).trans (List.map_id l)
  show d_Int (e_Int x) = x
  simp only [d_Int, e_Int, cg_zero, cg_succ, C.toBool_bool, C.toInt_int, C.toStr_str, C.toSl_slice]
theorem cg_Int_0 (l : List Int) (i : Nat) : (cg (eg (List.map e_Int l) i) 0).toInt = gt l i := by
  rcases Nat.lt_or_ge i l.length with h | h
  · rw [eg_map _ _ _ h]; rfl
  · rw [eg_out _ _ _ h, gt_out _ _ h]; rfl
theorem ap_Int (l : List Int) (v0 : Int) : List.map e_Int l ++ [[.int v0]] = List.map e_Int (l ++ [v0]) := by simp [e_Int]
theorem set_Int_0_1 (l : List Int) (i : Nat) (v0 : Int) : (List.map e_Int l).set i (spliceR (eg (List.map e_Int l) i) 0 [.int v0]) = List.map e_Int (l.set i v0) := by
  refine set_map_of _ _ _ _ fun h => ?_
  rw [eg_map _ _ _ h]; rfl
def e_TReloc (x : TReloc) : List C := [.int x.At, .int x.Len, .bool x.Neg]
def d_TReloc (c : List C) : TReloc := (⟨(cg c 0).toInt, (cg c 1).toInt, (cg c 2).toBool⟩ : TReloc)
theorem de_TReloc (l : List TReloc) : List.map d_TReloc (List.map e_TReloc l) = l := by
  rw [List.map_map]; refine (List.map_congr_left fun x _ => ?_).trans (List.map_id l)
  show d_TReloc (e_TReloc x) = x
  simp only [d_TReloc, e_TReloc, cg_zero, cg_succ, C.toBool_bool, C.toInt_int, C.toStr_str, C.toSl_slice]
theorem cg_TReloc_0 (l : List TReloc) (i : Nat) : (cg (eg (List.map e_TReloc l) i) 0).toInt = (gt l i).At := by
  rcases Nat.lt_or_ge i l.length with h | h
  · rw [eg_map _ _ _ h]; rfl
  · rw [eg_out _ _ _ h, gt_out _ _ h]; rfl
theorem cg_TReloc_1 (l : List TReloc) (i : Nat) : (cg (eg (List.map e_TReloc l) i) 1).toInt = (gt l i).Len := by
  rcases Nat.lt_or_ge i l.length with h | h
  · rw [eg_map _ _ _ h]; rfl
  · rw [eg_out _ _ _ h, gt_out _ _ h]; rfl
theorem cg_TReloc_2 (l : List TReloc) (i : Nat) : (cg (eg (List.map e_TReloc l) i) 2).toBool = (gt l i).Neg := by
  rcases Nat.lt_or_ge i l.length with h | h
  · rw [eg_map _ _ _ h]; rfl
  · rw [eg_out _ _ _ h, gt_out _ _ h]; rfl
theorem ap_TReloc (l : List TReloc) (v0 : Int) (v1 : Int) (v2 : Bool) : List.map e_TReloc l ++ [[.int v0, .int v1, .bool v2]] = List.map e_TReloc (l ++ [(⟨v0, v1, v2⟩ : TReloc)]) := by simp [e_TReloc]
def e_TSegment (x : TSegment) : List C := [.int x.Parent, .int x.Origin, .int x.From, .int x.Len]
def d_TSegment (c : List C) : TSegment := (⟨(cg c 0).toInt, (cg c 1).toInt, (cg c 2).toInt, (cg c 3).toInt⟩ : TSegment)
theorem de_TSegment (l : List TSegment) : List.map d_TSegment (List.map e_TSegment l) = l := by
  rw [List.map_map]; refine (List.map_congr_left fun x _ => ?_).trans (List.map_id l)
  show d_TSegment (e_TSegment x) = x
  simp only [d_TSegment, e_TSegment, cg_zero, cg_succ, C.toBool_bool, C.toInt_int, C.toStr_str, C.toSl_slice]
theorem cg_TSegment_0 (l : List TSegment) (i : Nat) : (cg (eg (List.map e_TSegment l) i) 0).toInt = (gt l i).Parent := by
  rcases Nat.lt_or_ge i l.length with h | h
  · rw [eg_map _ _ _ h]; rfl
  · rw [eg_out _ _ _ h, gt_out _ _ h]; rfl
theorem cg_TSegment_1 (l : List TSegment) (i : Nat) : (cg (eg (List.map e_TSegment l) i) 1).toInt = (gt l i).Origin := by
  rcases Nat.lt_or_ge i l.length with h | h
  · rw [eg_map _ _ _ h]; rfl
  · rw [eg_out _ _ _ h, gt_out _ _ h]; rfl
theorem cg_TSegment_2 (l : List TSegment) (i : Nat) : (cg (eg (List.map e_TSegment l) i) 2).toInt = (gt l i).From := by
  rcases Nat.lt_or_ge i l.length with h | h
  · rw [eg_map _ _ _ h]; rfl
  · rw [eg_out _ _ _ h, gt_out _ _ h]; rfl
theorem cg_TSegment_3 (l : List TSegment) (i : Nat) : (cg (eg (List.map e_TSegment l) i) 3).toInt = (gt l i).Len := by
  rcases Nat.lt_or_ge i l.length with h | h
  · rw [eg_map _ _ _ h]; rfl
  · rw [eg_out _ _ _ h, gt_out _ _ h]; rfl
theorem ap_TSegment (l : List TSegment) (v0 : Int) (v1 : Int) (v2 : Int) (v3 : Int) : List.map e_TSegment l ++ [[.int v0, .int v1, .int v2, .int v3]] = List.map e_TSegment (l ++ [(⟨v0, v1, v2, v3⟩ : TSegment)]) := by simp [e_TSegment]
theorem eta_TReloc (x : TReloc) : (⟨x.At, x.Len, x.Neg⟩ : TReloc) = x := rfl
theorem eta_TSegment (x : TSegment) : (⟨x.Parent, x.Origin, x.From, x.Len⟩ : TSegment) = x := rfl
theorem eta_TLoad (x : TLoad) : (⟨x.Text, x.Relocs, x.Segments, x.Entry⟩ : TLoad) = x := rfl
theorem tl : type_of% (And.intro (And.intro (And.intro (And.intro @de_Int (And.intro @e_Int.eq_1 @d_Int.eq_1)) (And.intro @cg_Int_0 (And.intro @ap_Int @set_Int_0_1))) (And.intro (And.intro @de_TReloc (And.intro @e_TReloc.eq_1 @d_TReloc.eq_1)) (And.intro @cg_TReloc_0 (And.intro @cg_TReloc_1 @cg_TReloc_2)))) (And.intro (And.intro (And.intro @ap_TReloc (And.intro @de_TSegment @e_TSegment.eq_1)) (And.intro @d_TSegment.eq_1 (And.intro @cg_TSegment_0 @cg_TSegment_1))) (And.intro (And.intro @cg_TSegment_2 (And.intro @cg_TSegment_3 @ap_TSegment)) (And.intro @eta_TReloc (And.intro @eta_TSegment @eta_TLoad))))) := (And.intro (And.intro (And.intro (And.intro @de_Int (And.intro @e_Int.eq_1 @d_Int.eq_1)) (And.intro @cg_Int_0 (And.intro @ap_Int @set_Int_0_1))) (And.intro (And.intro @de_TReloc (And.intro @e_TReloc.eq_1 @d_TReloc.eq_1)) (And.intro @cg_TReloc_0 (And.intro @cg_TReloc_1 @cg_TReloc_2)))) (And.intro (And.intro (And.intro @ap_TReloc (And.intro @de_TSegment @e_TSegment.eq_1)) (And.intro @d_TSegment.eq_1 (And.intro @cg_TSegment_0 @cg_TSegment_1))) (And.intro (And.intro @cg_TSegment_2 (And.intro @cg_TSegment_3 @ap_TSegment)) (And.intro @eta_TReloc (And.intro @eta_TSegment @eta_TLoad)))))
theorem z : type_of% (And.intro (And.intro ev ew) (And.intro tys tl)) := (And.intro (And.intro ev ew) (And.intro tys tl))
end Go.Proofs.YtfhnelkbiihpiaaGreatDoor
