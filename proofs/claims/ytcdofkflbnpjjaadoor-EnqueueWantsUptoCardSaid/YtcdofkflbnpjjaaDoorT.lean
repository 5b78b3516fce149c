/-
  The types of the seat, by structures; what is known of them.
-/
import Derived.Test.YtcdofkflbnpjjaaDoorAE19
import Derived.Test.YtcdofkflbnpjjaaDoorAE28
import Derived.Test.YtcdofkflbnpjjaaDoorRows
set_option maxHeartbeats 8000000
set_option linter.unusedVariables false
set_option linter.unusedSimpArgs false
set_option maxRecDepth 100000
namespace Go.Proofs.YtcdofkflbnpjjaaDoor
open Go.AE
theorem h00 : tyI Tryd.prog 0 = none := by kernel_rfl
theorem mixed : Tryd.prog.follows .mixedOrders = true := by kernel_rfl
theorem ty3 : tyI Tryd.prog 3 = some ⟨[.int .i64], false, [], 0, 8⟩ := by kernel_rfl
theorem ty4 : tyI Tryd.prog 4 = some ⟨[.bool], false, [], 0, 1⟩ := by kernel_rfl
theorem ty9 : tyI Tryd.prog 9 = some ⟨[.str], false, [], 0, 16⟩ := by kernel_rfl
theorem str9 : isStrT Tryd.prog 9 = true := by kernel_rfl
theorem ty22 : tyI Tryd.prog 22 = some ⟨[.slice 177], false, [], 177, 24⟩ := by kernel_rfl
theorem sl22 : slE Tryd.prog 22 = some (177, ⟨[.int .i64, .int .i64, .str], true, [(0, 3), (1, 3), (2, 9)], 0, 32⟩) := by kernel_rfl
theorem ty23 : tyI Tryd.prog 23 = some ⟨[.slice 29], false, [], 29, 24⟩ := by kernel_rfl
theorem sl23 : slE Tryd.prog 23 = some (29, ⟨[.str, .str, .str, .slice 177, .bool, .bool, .int .i64, .slice 63], true, [(0, 9), (1, 9), (2, 9), (3, 22), (4, 4), (5, 4), (6, 3), (7, 27)], 0, 112⟩) := by kernel_rfl
theorem ty25 : tyI Tryd.prog 25 = some ⟨[.str, .str, .int .i64, .slice 177, .slice 29], true, [(0, 9), (1, 9), (2, 3), (3, 22), (4, 23)], 0, 88⟩ := by kernel_rfl
theorem ty27 : tyI Tryd.prog 27 = some ⟨[.slice 63], false, [], 63, 24⟩ := by kernel_rfl
theorem sl27 : slE Tryd.prog 27 = some (63, ⟨[.str, .str, .str, .int .i64, .bool, .int .i64, .int .i64, .int .i64, .int .i64, .str, .int .i64, .int .i64, .int .i64, .int .i64, .int .i64, .bool, .bool, .int .i64, .int .i64, .int .i64, .int .i64, .str, .slice 9, .bool, .bool], true, [(0, 9), (1, 9), (2, 9), (3, 3), (4, 4), (5, 3), (6, 3), (7, 3), (8, 3), (9, 9), (10, 3), (11, 3), (12, 3), (13, 60), (21, 9), (22, 61), (23, 4), (24, 4)], 0, 240⟩) := by kernel_rfl
theorem ty29 : tyI Tryd.prog 29 = some ⟨[.str, .str, .str, .slice 177, .bool, .bool, .int .i64, .slice 63], true, [(0, 9), (1, 9), (2, 9), (3, 22), (4, 4), (5, 4), (6, 3), (7, 27)], 0, 112⟩ := by kernel_rfl
theorem ty31 : tyI Tryd.prog 31 = some ⟨[.slice 44], false, [], 44, 24⟩ := by kernel_rfl
theorem sl31 : slE Tryd.prog 31 = some (44, ⟨[.str, .bool], true, [(0, 9), (1, 4)], 0, 24⟩) := by kernel_rfl
theorem ty33 : tyI Tryd.prog 33 = some ⟨[.slice 64], false, [], 64, 24⟩ := by kernel_rfl
theorem sl33 : slE Tryd.prog 33 = some (64, ⟨[.str, .bool], true, [(0, 9), (1, 4)], 0, 24⟩) := by kernel_rfl
theorem ty36 : tyI Tryd.prog 36 = some ⟨[.slice 50], false, [], 50, 24⟩ := by kernel_rfl
theorem sl36 : slE Tryd.prog 36 = some (50, ⟨[.int .i64, .slice 44], true, [(0, 3), (1, 31)], 0, 32⟩) := by kernel_rfl
theorem ty38 : tyI Tryd.prog 38 = some ⟨[.slice 50, .slice 50], true, [(0, 36), (1, 36)], 0, 48⟩ := by kernel_rfl
theorem ty39 : tyI Tryd.prog 39 = some ⟨[.int .i64], false, [], 0, 8⟩ := by kernel_rfl
theorem ty44 : tyI Tryd.prog 44 = some ⟨[.str, .bool], true, [(0, 9), (1, 4)], 0, 24⟩ := by kernel_rfl
theorem eq44 : eqT Tryd.prog 44 = true := by kernel_rfl
theorem ty45 : tyI Tryd.prog 45 = some ⟨[.slice 3], false, [], 3, 24⟩ := by kernel_rfl
theorem sl45 : slE Tryd.prog 45 = some (3, ⟨[.int .i64], false, [], 0, 8⟩) := by kernel_rfl
theorem ty50 : tyI Tryd.prog 50 = some ⟨[.int .i64, .slice 44], true, [(0, 3), (1, 31)], 0, 32⟩ := by kernel_rfl
theorem ty60 : tyI Tryd.prog 60 = some ⟨[.int .i64, .int .i64, .bool, .bool, .int .i64, .int .i64, .int .i64, .int .i64], true, [(0, 3), (1, 3), (2, 4), (3, 4), (4, 3), (5, 3), (6, 3), (7, 3)], 0, 56⟩ := by kernel_rfl
theorem eq60 : eqT Tryd.prog 60 = true := by kernel_rfl
theorem ty61 : tyI Tryd.prog 61 = some ⟨[.slice 9], false, [], 9, 24⟩ := by kernel_rfl
theorem sl61 : slE Tryd.prog 61 = some (9, ⟨[.str], false, [], 0, 16⟩) := by kernel_rfl
theorem ty63 : tyI Tryd.prog 63 = some ⟨[.str, .str, .str, .int .i64, .bool, .int .i64, .int .i64, .int .i64, .int .i64, .str, .int .i64, .int .i64, .int .i64, .int .i64, .int .i64, .bool, .bool, .int .i64, .int .i64, .int .i64, .int .i64, .str, .slice 9, .bool, .bool], true, [(0, 9), (1, 9), (2, 9), (3, 3), (4, 4), (5, 3), (6, 3), (7, 3), (8, 3), (9, 9), (10, 3), (11, 3), (12, 3), (13, 60), (21, 9), (22, 61), (23, 4), (24, 4)], 0, 240⟩ := by kernel_rfl
theorem ty64 : tyI Tryd.prog 64 = some ⟨[.str, .bool], true, [(0, 9), (1, 4)], 0, 24⟩ := by kernel_rfl
theorem eq64 : eqT Tryd.prog 64 = true := by kernel_rfl
theorem ty93 : tyI Tryd.prog 93 = some ⟨[.other], false, [], 0, 8⟩ := by kernel_rfl
theorem mp93 : mapE Tryd.prog 93 = some (.str, 4, ⟨[.bool], false, [], 0, 1⟩) := by kernel_rfl
theorem ty97 : tyI Tryd.prog 97 = some ⟨[.other], false, [], 0, 8⟩ := by kernel_rfl
theorem mp97 : mapE Tryd.prog 97 = some ((.int .i64), 4, ⟨[.bool], false, [], 0, 1⟩) := by kernel_rfl
theorem ty177 : tyI Tryd.prog 177 = some ⟨[.int .i64, .int .i64, .str], true, [(0, 3), (1, 3), (2, 9)], 0, 32⟩ := by kernel_rfl
theorem eq177 : eqT Tryd.prog 177 = true := by kernel_rfl
theorem tys : type_of% (And.intro (And.intro (And.intro (And.intro (And.intro @ty3 @ty4) (And.intro @ty9 @str9)) (And.intro (And.intro @ty22 @sl22) (And.intro @ty23 (And.intro @sl23 @ty25)))) (And.intro (And.intro (And.intro @ty27 @sl27) (And.intro @ty29 (And.intro @ty31 @sl31))) (And.intro (And.intro @ty33 @sl33) (And.intro @ty36 (And.intro @sl36 @ty38))))) (And.intro (And.intro (And.intro (And.intro @ty39 @ty44) (And.intro @eq44 @ty45)) (And.intro (And.intro @sl45 @ty50) (And.intro @ty60 (And.intro @eq60 @ty61)))) (And.intro (And.intro (And.intro @sl61 @ty63) (And.intro @ty64 (And.intro @eq64 @ty93))) (And.intro (And.intro @mp93 @ty97) (And.intro @mp97 (And.intro @ty177 @eq177)))))) := (And.intro (And.intro (And.intro (And.intro (And.intro @ty3 @ty4) (And.intro @ty9 @str9)) (And.intro (And.intro @ty22 @sl22) (And.intro @ty23 (And.intro @sl23 @ty25)))) (And.intro (And.intro (And.intro @ty27 @sl27) (And.intro @ty29 (And.intro @ty31 @sl31))) (And.intro (And.intro @ty33 @sl33) (And.intro @ty36 (And.intro @sl36 @ty38))))) (And.intro (And.intro (And.intro (And.intro @ty39 @ty44) (And.intro @eq44 @ty45)) (And.intro (And.intro @sl45 @ty50) (And.intro @ty60 (And.intro @eq60 @ty61)))) (And.intro (And.intro (And.intro @sl61 @ty63) (And.intro @ty64 (And.intro @eq64 @ty93))) (And.intro (And.intro @mp93 @ty97) (And.intro @mp97 (And.intro @ty177 @eq177))))))

structure TCond where
  Code : Int
  Op : Int
  Step : List UInt8
  deriving DecidableEq, Inhabited
structure TDcb where
  Org : Int
  Format : Int
  Blocked : Bool
  Asa : Bool
  Lrecl : Int
  Blksize : Int
  KeyLen : Int
  KeyPos : Int
  deriving DecidableEq, Inhabited
structure TDD where
  Name : List UInt8
  Dsn : List UInt8
  Member : List UInt8
  Gen : Int
  HasGen : Bool
  Disp : Int
  Normal : Int
  Abend : Int
  Unit : Int
  Vol : List UInt8
  Tracks : Int
  More : Int
  File : Int
  Dcb : TDcb
  Sysout : List UInt8
  Instream : List (List UInt8)
  HasData : Bool
  Dummy : Bool
  deriving DecidableEq, Inhabited
structure TJobStep where
  Name : List UInt8
  Pgm : List UInt8
  Parm : List UInt8
  Conds : List TCond
  Even : Bool
  Only : Bool
  Time : Int
  DDs : List TDD
  deriving DecidableEq, Inhabited
structure TJob where
  Name : List UInt8
  Class : List UInt8
  Prty : Int
  Conds : List TCond
  Steps : List TJobStep
  deriving DecidableEq, Inhabited
structure TWant where
  Name : List UInt8
  Exclusive : Bool
  deriving DecidableEq, Inhabited
structure TRequest where
  Job : Int
  Wants : List TWant
  deriving DecidableEq, Inhabited
structure TTable where
  Held : List TRequest
  Waiting : List TRequest
  deriving DecidableEq, Inhabited
def e_TCond (x : TCond) : List C := [.int x.Code, .int x.Op, .str x.Step]
def d_TCond (c : List C) : TCond := (⟨(cg c 0).toInt, (cg c 1).toInt, (cg c 2).toStr⟩ : TCond)
theorem de_TCond (l : List TCond) : List.map d_TCond (List.map e_TCond l) = l := by
  rw [List.map_map]; refine (List.map_congr_left fun x _ => ?_).trans (List.map_id l)
  show d_TCond (e_TCond x) = x
  simp only [d_TCond, e_TCond, cg_zero, cg_succ, C.toBool_bool, C.toInt_int, C.toStr_str, C.toSl_slice]
theorem cg_TCond_0 (l : List TCond) (i : Nat) : (cg (eg (List.map e_TCond l) i) 0).toInt = (gt l i).Code := by
  rcases Nat.lt_or_ge i l.length with h | h
  · rw [eg_map _ _ _ h]; rfl
  · rw [eg_out _ _ _ h, gt_out _ _ h]; rfl
theorem cg_TCond_1 (l : List TCond) (i : Nat) : (cg (eg (List.map e_TCond l) i) 1).toInt = (gt l i).Op := by
  rcases Nat.lt_or_ge i l.length with h | h
  · rw [eg_map _ _ _ h]; rfl
  · rw [eg_out _ _ _ h, gt_out _ _ h]; rfl
theorem cg_TCond_2 (l : List TCond) (i : Nat) : (cg (eg (List.map e_TCond l) i) 2).toStr = (gt l i).Step := by
  rcases Nat.lt_or_ge i l.length with h | h
  · rw [eg_map _ _ _ h]; rfl
  · rw [eg_out _ _ _ h, gt_out _ _ h]; rfl
theorem ap_TCond (l : List TCond) (v0 : Int) (v1 : Int) (v2 : List UInt8) : List.map e_TCond l ++ [[.int v0, .int v1, .str v2]] = List.map e_TCond (l ++ [(⟨v0, v1, v2⟩ : TCond)]) := by simp [e_TCond]
def e_Str (x : List UInt8) : List C := [.str x]
def d_Str (c : List C) : List UInt8 := (cg c 0).toStr
theorem de_Str (l : List (List UInt8)) : List.map d_Str (List.map e_Str l) = l := by
  rw [List.map_map]; refine (List.map_congr_left fun x _ => ?_).trans (List.map_id l)
  show d_Str (e_Str x) = x
  simp only [d_Str, e_Str, cg_zero, cg_succ, C.toBool_bool, C.toInt_int, C.toStr_str, C.toSl_slice]
theorem cg_Str_0 (l : List (List UInt8)) (i : Nat) : (cg (eg (List.map e_Str l) i) 0).toStr = gt l i := by
  rcases Nat.lt_or_ge i l.length with h | h
  · rw [eg_map _ _ _ h]; rfl
  · rw [eg_out _ _ _ h, gt_out _ _ h]; rfl
theorem ap_Str (l : List (List UInt8)) (v0 : List UInt8) : List.map e_Str l ++ [[.str v0]] = List.map e_Str (l ++ [v0]) := by simp [e_Str]
def e_TDD (x : TDD) : List C := [.str x.Name, .str x.Dsn, .str x.Member, .int x.Gen, .bool x.HasGen, .int x.Disp, .int x.Normal, .int x.Abend, .int x.Unit, .str x.Vol, .int x.Tracks, .int x.More, .int x.File, .int x.Dcb.Org, .int x.Dcb.Format, .bool x.Dcb.Blocked, .bool x.Dcb.Asa, .int x.Dcb.Lrecl, .int x.Dcb.Blksize, .int x.Dcb.KeyLen, .int x.Dcb.KeyPos, .str x.Sysout, .slice (List.map e_Str x.Instream), .bool x.HasData, .bool x.Dummy]
def d_TDD (c : List C) : TDD := (⟨(cg c 0).toStr, (cg c 1).toStr, (cg c 2).toStr, (cg c 3).toInt, (cg c 4).toBool, (cg c 5).toInt, (cg c 6).toInt, (cg c 7).toInt, (cg c 8).toInt, (cg c 9).toStr, (cg c 10).toInt, (cg c 11).toInt, (cg c 12).toInt, (⟨(cg c 13).toInt, (cg c 14).toInt, (cg c 15).toBool, (cg c 16).toBool, (cg c 17).toInt, (cg c 18).toInt, (cg c 19).toInt, (cg c 20).toInt⟩ : TDcb), (cg c 21).toStr, ((cg c 22).toSl.map d_Str), (cg c 23).toBool, (cg c 24).toBool⟩ : TDD)
theorem de_TDD (l : List TDD) : List.map d_TDD (List.map e_TDD l) = l := by
  rw [List.map_map]; refine (List.map_congr_left fun x _ => ?_).trans (List.map_id l)
  show d_TDD (e_TDD x) = x
  simp only [d_TDD, e_TDD, cg_zero, cg_succ, C.toBool_bool, C.toInt_int, C.toStr_str, C.toSl_slice, de_Str]
theorem cg_TDD_0 (l : List TDD) (i : Nat) : (cg (eg (List.map e_TDD l) i) 0).toStr = (gt l i).Name := by
  rcases Nat.lt_or_ge i l.length with h | h
  · rw [eg_map _ _ _ h]; rfl
  · rw [eg_out _ _ _ h, gt_out _ _ h]; rfl
theorem cg_TDD_1 (l : List TDD) (i : Nat) : (cg (eg (List.map e_TDD l) i) 1).toStr = (gt l i).Dsn := by
  rcases Nat.lt_or_ge i l.length with h | h
  · rw [eg_map _ _ _ h]; rfl
  · rw [eg_out _ _ _ h, gt_out _ _ h]; rfl
theorem cg_TDD_2 (l : List TDD) (i : Nat) : (cg (eg (List.map e_TDD l) i) 2).toStr = (gt l i).Member := by
  rcases Nat.lt_or_ge i l.length with h | h
  · rw [eg_map _ _ _ h]; rfl
  · rw [eg_out _ _ _ h, gt_out _ _ h]; rfl
theorem cg_TDD_3 (l : List TDD) (i : Nat) : (cg (eg (List.map e_TDD l) i) 3).toInt = (gt l i).Gen := by
  rcases Nat.lt_or_ge i l.length with h | h
  · rw [eg_map _ _ _ h]; rfl
  · rw [eg_out _ _ _ h, gt_out _ _ h]; rfl
theorem cg_TDD_4 (l : List TDD) (i : Nat) : (cg (eg (List.map e_TDD l) i) 4).toBool = (gt l i).HasGen := by
  rcases Nat.lt_or_ge i l.length with h | h
  · rw [eg_map _ _ _ h]; rfl
  · rw [eg_out _ _ _ h, gt_out _ _ h]; rfl
theorem cg_TDD_5 (l : List TDD) (i : Nat) : (cg (eg (List.map e_TDD l) i) 5).toInt = (gt l i).Disp := by
  rcases Nat.lt_or_ge i l.length with h | h
  · rw [eg_map _ _ _ h]; rfl
  · rw [eg_out _ _ _ h, gt_out _ _ h]; rfl
theorem cg_TDD_6 (l : List TDD) (i : Nat) : (cg (eg (List.map e_TDD l) i) 6).toInt = (gt l i).Normal := by
  rcases Nat.lt_or_ge i l.length with h | h
  · rw [eg_map _ _ _ h]; rfl
  · rw [eg_out _ _ _ h, gt_out _ _ h]; rfl
theorem cg_TDD_7 (l : List TDD) (i : Nat) : (cg (eg (List.map e_TDD l) i) 7).toInt = (gt l i).Abend := by
  rcases Nat.lt_or_ge i l.length with h | h
  · rw [eg_map _ _ _ h]; rfl
  · rw [eg_out _ _ _ h, gt_out _ _ h]; rfl
theorem cg_TDD_8 (l : List TDD) (i : Nat) : (cg (eg (List.map e_TDD l) i) 8).toInt = (gt l i).Unit := by
  rcases Nat.lt_or_ge i l.length with h | h
  · rw [eg_map _ _ _ h]; rfl
  · rw [eg_out _ _ _ h, gt_out _ _ h]; rfl
theorem cg_TDD_9 (l : List TDD) (i : Nat) : (cg (eg (List.map e_TDD l) i) 9).toStr = (gt l i).Vol := by
  rcases Nat.lt_or_ge i l.length with h | h
  · rw [eg_map _ _ _ h]; rfl
  · rw [eg_out _ _ _ h, gt_out _ _ h]; rfl
theorem cg_TDD_10 (l : List TDD) (i : Nat) : (cg (eg (List.map e_TDD l) i) 10).toInt = (gt l i).Tracks := by
  rcases Nat.lt_or_ge i l.length with h | h
  · rw [eg_map _ _ _ h]; rfl
  · rw [eg_out _ _ _ h, gt_out _ _ h]; rfl
theorem cg_TDD_11 (l : List TDD) (i : Nat) : (cg (eg (List.map e_TDD l) i) 11).toInt = (gt l i).More := by
  rcases Nat.lt_or_ge i l.length with h | h
  · rw [eg_map _ _ _ h]; rfl
  · rw [eg_out _ _ _ h, gt_out _ _ h]; rfl
theorem cg_TDD_12 (l : List TDD) (i : Nat) : (cg (eg (List.map e_TDD l) i) 12).toInt = (gt l i).File := by
  rcases Nat.lt_or_ge i l.length with h | h
  · rw [eg_map _ _ _ h]; rfl
  · rw [eg_out _ _ _ h, gt_out _ _ h]; rfl
theorem cg_TDD_13 (l : List TDD) (i : Nat) : (cg (eg (List.map e_TDD l) i) 13).toInt = (gt l i).Dcb.Org := by
  rcases Nat.lt_or_ge i l.length with h | h
  · rw [eg_map _ _ _ h]; rfl
  · rw [eg_out _ _ _ h, gt_out _ _ h]; rfl
theorem cg_TDD_14 (l : List TDD) (i : Nat) : (cg (eg (List.map e_TDD l) i) 14).toInt = (gt l i).Dcb.Format := by
  rcases Nat.lt_or_ge i l.length with h | h
  · rw [eg_map _ _ _ h]; rfl
  · rw [eg_out _ _ _ h, gt_out _ _ h]; rfl
theorem cg_TDD_15 (l : List TDD) (i : Nat) : (cg (eg (List.map e_TDD l) i) 15).toBool = (gt l i).Dcb.Blocked := by
  rcases Nat.lt_or_ge i l.length with h | h
  · rw [eg_map _ _ _ h]; rfl
  · rw [eg_out _ _ _ h, gt_out _ _ h]; rfl
theorem cg_TDD_16 (l : List TDD) (i : Nat) : (cg (eg (List.map e_TDD l) i) 16).toBool = (gt l i).Dcb.Asa := by
  rcases Nat.lt_or_ge i l.length with h | h
  · rw [eg_map _ _ _ h]; rfl
  · rw [eg_out _ _ _ h, gt_out _ _ h]; rfl
theorem cg_TDD_17 (l : List TDD) (i : Nat) : (cg (eg (List.map e_TDD l) i) 17).toInt = (gt l i).Dcb.Lrecl := by
  rcases Nat.lt_or_ge i l.length with h | h
  · rw [eg_map _ _ _ h]; rfl
  · rw [eg_out _ _ _ h, gt_out _ _ h]; rfl
theorem cg_TDD_18 (l : List TDD) (i : Nat) : (cg (eg (List.map e_TDD l) i) 18).toInt = (gt l i).Dcb.Blksize := by
  rcases Nat.lt_or_ge i l.length with h | h
  · rw [eg_map _ _ _ h]; rfl
  · rw [eg_out _ _ _ h, gt_out _ _ h]; rfl
theorem cg_TDD_19 (l : List TDD) (i : Nat) : (cg (eg (List.map e_TDD l) i) 19).toInt = (gt l i).Dcb.KeyLen := by
  rcases Nat.lt_or_ge i l.length with h | h
  · rw [eg_map _ _ _ h]; rfl
  · rw [eg_out _ _ _ h, gt_out _ _ h]; rfl
theorem cg_TDD_20 (l : List TDD) (i : Nat) : (cg (eg (List.map e_TDD l) i) 20).toInt = (gt l i).Dcb.KeyPos := by
  rcases Nat.lt_or_ge i l.length with h | h
  · rw [eg_map _ _ _ h]; rfl
  · rw [eg_out _ _ _ h, gt_out _ _ h]; rfl
theorem cg_TDD_21 (l : List TDD) (i : Nat) : (cg (eg (List.map e_TDD l) i) 21).toStr = (gt l i).Sysout := by
  rcases Nat.lt_or_ge i l.length with h | h
  · rw [eg_map _ _ _ h]; rfl
  · rw [eg_out _ _ _ h, gt_out _ _ h]; rfl
theorem cg_TDD_22 (l : List TDD) (i : Nat) : (cg (eg (List.map e_TDD l) i) 22).toSl = List.map e_Str ((gt l i).Instream) := by
  rcases Nat.lt_or_ge i l.length with h | h
  · rw [eg_map _ _ _ h]; rfl
  · rw [eg_out _ _ _ h, gt_out _ _ h]; rfl
theorem cg_TDD_23 (l : List TDD) (i : Nat) : (cg (eg (List.map e_TDD l) i) 23).toBool = (gt l i).HasData := by
  rcases Nat.lt_or_ge i l.length with h | h
  · rw [eg_map _ _ _ h]; rfl
  · rw [eg_out _ _ _ h, gt_out _ _ h]; rfl
theorem cg_TDD_24 (l : List TDD) (i : Nat) : (cg (eg (List.map e_TDD l) i) 24).toBool = (gt l i).Dummy := by
  rcases Nat.lt_or_ge i l.length with h | h
  · rw [eg_map _ _ _ h]; rfl
  · rw [eg_out _ _ _ h, gt_out _ _ h]; rfl
theorem ap_TDD (l : List TDD) (v0 : List UInt8) (v1 : List UInt8) (v2 : List UInt8) (v3 : Int) (v4 : Bool) (v5 : Int) (v6 : Int) (v7 : Int) (v8 : Int) (v9 : List UInt8) (v10 : Int) (v11 : Int) (v12 : Int) (v13 : Int) (v14 : Int) (v15 : Bool) (v16 : Bool) (v17 : Int) (v18 : Int) (v19 : Int) (v20 : Int) (v21 : List UInt8) (v22 : List (List UInt8)) (v23 : Bool) (v24 : Bool) : List.map e_TDD l ++ [[.str v0, .str v1, .str v2, .int v3, .bool v4, .int v5, .int v6, .int v7, .int v8, .str v9, .int v10, .int v11, .int v12, .int v13, .int v14, .bool v15, .bool v16, .int v17, .int v18, .int v19, .int v20, .str v21, .slice (List.map e_Str v22), .bool v23, .bool v24]] = List.map e_TDD (l ++ [(⟨v0, v1, v2, v3, v4, v5, v6, v7, v8, v9, v10, v11, v12, (⟨v13, v14, v15, v16, v17, v18, v19, v20⟩ : TDcb), v21, v22, v23, v24⟩ : TDD)]) := by simp [e_TDD]
theorem ap_TDD_1 (l : List TDD) (v0 : List UInt8) (v1 : List UInt8) (v2 : List UInt8) (v3 : Int) (v4 : Bool) (v5 : Int) (v6 : Int) (v7 : Int) (v8 : Int) (v9 : List UInt8) (v10 : Int) (v11 : Int) (v12 : Int) (v13 : Int) (v14 : Int) (v15 : Bool) (v16 : Bool) (v17 : Int) (v18 : Int) (v19 : Int) (v20 : Int) (v21 : List UInt8) (v23 : Bool) (v24 : Bool) : List.map e_TDD l ++ [[.str v0, .str v1, .str v2, .int v3, .bool v4, .int v5, .int v6, .int v7, .int v8, .str v9, .int v10, .int v11, .int v12, .int v13, .int v14, .bool v15, .bool v16, .int v17, .int v18, .int v19, .int v20, .str v21, .slice [], .bool v23, .bool v24]] = List.map e_TDD (l ++ [(⟨v0, v1, v2, v3, v4, v5, v6, v7, v8, v9, v10, v11, v12, (⟨v13, v14, v15, v16, v17, v18, v19, v20⟩ : TDcb), v21, [], v23, v24⟩ : TDD)]) := by simp [e_TDD]
def e_TJobStep (x : TJobStep) : List C := [.str x.Name, .str x.Pgm, .str x.Parm, .slice (List.map e_TCond x.Conds), .bool x.Even, .bool x.Only, .int x.Time, .slice (List.map e_TDD x.DDs)]
def d_TJobStep (c : List C) : TJobStep := (⟨(cg c 0).toStr, (cg c 1).toStr, (cg c 2).toStr, ((cg c 3).toSl.map d_TCond), (cg c 4).toBool, (cg c 5).toBool, (cg c 6).toInt, ((cg c 7).toSl.map d_TDD)⟩ : TJobStep)
theorem de_TJobStep (l : List TJobStep) : List.map d_TJobStep (List.map e_TJobStep l) = l := by
  rw [List.map_map]; refine (List.map_congr_left fun x _ => ?_).trans (List.map_id l)
  show d_TJobStep (e_TJobStep x) = x
  simp only [d_TJobStep, e_TJobStep, cg_zero, cg_succ, C.toBool_bool, C.toInt_int, C.toStr_str, C.toSl_slice, de_TCond, de_TDD]
theorem cg_TJobStep_0 (l : List TJobStep) (i : Nat) : (cg (eg (List.map e_TJobStep l) i) 0).toStr = (gt l i).Name := by
  rcases Nat.lt_or_ge i l.length with h | h
  · rw [eg_map _ _ _ h]; rfl
  · rw [eg_out _ _ _ h, gt_out _ _ h]; rfl
theorem cg_TJobStep_1 (l : List TJobStep) (i : Nat) : (cg (eg (List.map e_TJobStep l) i) 1).toStr = (gt l i).Pgm := by
  rcases Nat.lt_or_ge i l.length with h | h
  · rw [eg_map _ _ _ h]; rfl
  · rw [eg_out _ _ _ h, gt_out _ _ h]; rfl
theorem cg_TJobStep_2 (l : List TJobStep) (i : Nat) : (cg (eg (List.map e_TJobStep l) i) 2).toStr = (gt l i).Parm := by
  rcases Nat.lt_or_ge i l.length with h | h
  · rw [eg_map _ _ _ h]; rfl
  · rw [eg_out _ _ _ h, gt_out _ _ h]; rfl
theorem cg_TJobStep_3 (l : List TJobStep) (i : Nat) : (cg (eg (List.map e_TJobStep l) i) 3).toSl = List.map e_TCond ((gt l i).Conds) := by
  rcases Nat.lt_or_ge i l.length with h | h
  · rw [eg_map _ _ _ h]; rfl
  · rw [eg_out _ _ _ h, gt_out _ _ h]; rfl
theorem cg_TJobStep_4 (l : List TJobStep) (i : Nat) : (cg (eg (List.map e_TJobStep l) i) 4).toBool = (gt l i).Even := by
  rcases Nat.lt_or_ge i l.length with h | h
  · rw [eg_map _ _ _ h]; rfl
  · rw [eg_out _ _ _ h, gt_out _ _ h]; rfl
theorem cg_TJobStep_5 (l : List TJobStep) (i : Nat) : (cg (eg (List.map e_TJobStep l) i) 5).toBool = (gt l i).Only := by
  rcases Nat.lt_or_ge i l.length with h | h
  · rw [eg_map _ _ _ h]; rfl
  · rw [eg_out _ _ _ h, gt_out _ _ h]; rfl
theorem cg_TJobStep_6 (l : List TJobStep) (i : Nat) : (cg (eg (List.map e_TJobStep l) i) 6).toInt = (gt l i).Time := by
  rcases Nat.lt_or_ge i l.length with h | h
  · rw [eg_map _ _ _ h]; rfl
  · rw [eg_out _ _ _ h, gt_out _ _ h]; rfl
theorem cg_TJobStep_7 (l : List TJobStep) (i : Nat) : (cg (eg (List.map e_TJobStep l) i) 7).toSl = List.map e_TDD ((gt l i).DDs) := by
  rcases Nat.lt_or_ge i l.length with h | h
  · rw [eg_map _ _ _ h]; rfl
  · rw [eg_out _ _ _ h, gt_out _ _ h]; rfl
theorem ap_TJobStep (l : List TJobStep) (v0 : List UInt8) (v1 : List UInt8) (v2 : List UInt8) (v3 : List TCond) (v4 : Bool) (v5 : Bool) (v6 : Int) (v7 : List TDD) : List.map e_TJobStep l ++ [[.str v0, .str v1, .str v2, .slice (List.map e_TCond v3), .bool v4, .bool v5, .int v6, .slice (List.map e_TDD v7)]] = List.map e_TJobStep (l ++ [(⟨v0, v1, v2, v3, v4, v5, v6, v7⟩ : TJobStep)]) := by simp [e_TJobStep]
theorem ap_TJobStep_1 (l : List TJobStep) (v0 : List UInt8) (v1 : List UInt8) (v2 : List UInt8) (v4 : Bool) (v5 : Bool) (v6 : Int) (v7 : List TDD) : List.map e_TJobStep l ++ [[.str v0, .str v1, .str v2, .slice [], .bool v4, .bool v5, .int v6, .slice (List.map e_TDD v7)]] = List.map e_TJobStep (l ++ [(⟨v0, v1, v2, [], v4, v5, v6, v7⟩ : TJobStep)]) := by simp [e_TJobStep]
theorem ap_TJobStep_2 (l : List TJobStep) (v0 : List UInt8) (v1 : List UInt8) (v2 : List UInt8) (v3 : List TCond) (v4 : Bool) (v5 : Bool) (v6 : Int) : List.map e_TJobStep l ++ [[.str v0, .str v1, .str v2, .slice (List.map e_TCond v3), .bool v4, .bool v5, .int v6, .slice []]] = List.map e_TJobStep (l ++ [(⟨v0, v1, v2, v3, v4, v5, v6, []⟩ : TJobStep)]) := by simp [e_TJobStep]
theorem ap_TJobStep_3 (l : List TJobStep) (v0 : List UInt8) (v1 : List UInt8) (v2 : List UInt8) (v4 : Bool) (v5 : Bool) (v6 : Int) : List.map e_TJobStep l ++ [[.str v0, .str v1, .str v2, .slice [], .bool v4, .bool v5, .int v6, .slice []]] = List.map e_TJobStep (l ++ [(⟨v0, v1, v2, [], v4, v5, v6, []⟩ : TJobStep)]) := by simp [e_TJobStep]
def e_TWant (x : TWant) : List C := [.str x.Name, .bool x.Exclusive]
def d_TWant (c : List C) : TWant := (⟨(cg c 0).toStr, (cg c 1).toBool⟩ : TWant)
theorem de_TWant (l : List TWant) : List.map d_TWant (List.map e_TWant l) = l := by
  rw [List.map_map]; refine (List.map_congr_left fun x _ => ?_).trans (List.map_id l)
  show d_TWant (e_TWant x) = x
  simp only [d_TWant, e_TWant, cg_zero, cg_succ, C.toBool_bool, C.toInt_int, C.toStr_str, C.toSl_slice]
theorem cg_TWant_0 (l : List TWant) (i : Nat) : (cg (eg (List.map e_TWant l) i) 0).toStr = (gt l i).Name := by
  rcases Nat.lt_or_ge i l.length with h | h
  · rw [eg_map _ _ _ h]; rfl
  · rw [eg_out _ _ _ h, gt_out _ _ h]; rfl
theorem cg_TWant_1 (l : List TWant) (i : Nat) : (cg (eg (List.map e_TWant l) i) 1).toBool = (gt l i).Exclusive := by
  rcases Nat.lt_or_ge i l.length with h | h
  · rw [eg_map _ _ _ h]; rfl
  · rw [eg_out _ _ _ h, gt_out _ _ h]; rfl
theorem ap_TWant (l : List TWant) (v0 : List UInt8) (v1 : Bool) : List.map e_TWant l ++ [[.str v0, .bool v1]] = List.map e_TWant (l ++ [(⟨v0, v1⟩ : TWant)]) := by simp [e_TWant]
def e_TRequest (x : TRequest) : List C := [.int x.Job, .slice (List.map e_TWant x.Wants)]
def d_TRequest (c : List C) : TRequest := (⟨(cg c 0).toInt, ((cg c 1).toSl.map d_TWant)⟩ : TRequest)
theorem de_TRequest (l : List TRequest) : List.map d_TRequest (List.map e_TRequest l) = l := by
  rw [List.map_map]; refine (List.map_congr_left fun x _ => ?_).trans (List.map_id l)
  show d_TRequest (e_TRequest x) = x
  simp only [d_TRequest, e_TRequest, cg_zero, cg_succ, C.toBool_bool, C.toInt_int, C.toStr_str, C.toSl_slice, de_TWant]
theorem cg_TRequest_0 (l : List TRequest) (i : Nat) : (cg (eg (List.map e_TRequest l) i) 0).toInt = (gt l i).Job := by
  rcases Nat.lt_or_ge i l.length with h | h
  · rw [eg_map _ _ _ h]; rfl
  · rw [eg_out _ _ _ h, gt_out _ _ h]; rfl
theorem cg_TRequest_1 (l : List TRequest) (i : Nat) : (cg (eg (List.map e_TRequest l) i) 1).toSl = List.map e_TWant ((gt l i).Wants) := by
  rcases Nat.lt_or_ge i l.length with h | h
  · rw [eg_map _ _ _ h]; rfl
  · rw [eg_out _ _ _ h, gt_out _ _ h]; rfl
theorem ap_TRequest (l : List TRequest) (v0 : Int) (v1 : List TWant) : List.map e_TRequest l ++ [[.int v0, .slice (List.map e_TWant v1)]] = List.map e_TRequest (l ++ [(⟨v0, v1⟩ : TRequest)]) := by simp [e_TRequest]
theorem ap_TRequest_1 (l : List TRequest) (v0 : Int) : List.map e_TRequest l ++ [[.int v0, .slice []]] = List.map e_TRequest (l ++ [(⟨v0, []⟩ : TRequest)]) := by simp [e_TRequest]
theorem zr_TRequest (n : Nat) : zreps n [.int 0, .slice []] = List.map e_TRequest (zreps n (⟨0, []⟩ : TRequest)) := zreps_map rfl
def e_Int (x : Int) : List C := [.int x]
def d_Int (c : List C) : Int := (cg c 0).toInt
theorem de_Int (l : List Int) : List.map d_Int (List.map e_Int l) = l := by
  rw [List.map_map]; refine (List.map_congr_left fun x _ => ?_).trans (List.map_id l)
  show d_Int (e_Int x) = x
  simp only [d_Int, e_Int, cg_zero, cg_succ, C.toBool_bool, C.toInt_int, C.toStr_str, C.toSl_slice]
theorem cg_Int_0 (l : List Int) (i : Nat) : (cg (eg (List.map e_Int l) i) 0).toInt = gt l i := by
  rcases Nat.lt_or_ge i l.length with h | h
  · rw [eg_map _ _ _ h]; rfl
  · rw [eg_out _ _ _ h, gt_out _ _ h]; rfl
theorem ap_Int (l : List Int) (v0 : Int) : List.map e_Int l ++ [[.int v0]] = List.map e_Int (l ++ [v0]) := by simp [e_Int]
def e_Bool (x : Bool) : List C := [.bool x]
def d_Bool (c : List C) : Bool := (cg c 0).toBool
theorem de_Bool (l : List Bool) : List.map d_Bool (List.map e_Bool l) = l := by
  rw [List.map_map]; refine (List.map_congr_left fun x _ => ?_).trans (List.map_id l)
  show d_Bool (e_Bool x) = x
  simp only [d_Bool, e_Bool, cg_zero, cg_succ, C.toBool_bool, C.toInt_int, C.toStr_str, C.toSl_slice]
theorem cg_Bool_0 (l : List Bool) (i : Nat) : (cg (eg (List.map e_Bool l) i) 0).toBool = gt l i := by
  rcases Nat.lt_or_ge i l.length with h | h
  · rw [eg_map _ _ _ h]; rfl
  · rw [eg_out _ _ _ h, gt_out _ _ h]; rfl
theorem ap_Bool (l : List Bool) (v0 : Bool) : List.map e_Bool l ++ [[.bool v0]] = List.map e_Bool (l ++ [v0]) := by simp [e_Bool]
theorem eta_TCond (x : TCond) : (⟨x.Code, x.Op, x.Step⟩ : TCond) = x := rfl
theorem eta_TDcb (x : TDcb) : (⟨x.Org, x.Format, x.Blocked, x.Asa, x.Lrecl, x.Blksize, x.KeyLen, x.KeyPos⟩ : TDcb) = x := rfl
theorem eta_TDD (x : TDD) : (⟨x.Name, x.Dsn, x.Member, x.Gen, x.HasGen, x.Disp, x.Normal, x.Abend, x.Unit, x.Vol, x.Tracks, x.More, x.File, x.Dcb, x.Sysout, x.Instream, x.HasData, x.Dummy⟩ : TDD) = x := rfl
theorem eta_TJobStep (x : TJobStep) : (⟨x.Name, x.Pgm, x.Parm, x.Conds, x.Even, x.Only, x.Time, x.DDs⟩ : TJobStep) = x := rfl
theorem eta_TJob (x : TJob) : (⟨x.Name, x.Class, x.Prty, x.Conds, x.Steps⟩ : TJob) = x := rfl
theorem eta_TWant (x : TWant) : (⟨x.Name, x.Exclusive⟩ : TWant) = x := rfl
theorem eta_TRequest (x : TRequest) : (⟨x.Job, x.Wants⟩ : TRequest) = x := rfl
theorem eta_TTable (x : TTable) : (⟨x.Held, x.Waiting⟩ : TTable) = x := rfl
def em_Int_Bool (p : Int × Bool) : C × List C := (.int p.1, e_Bool p.2)
theorem mg_Int_Bool (k : Int) (m : List (Int × Bool)) : mget (.int .i64) (.int k) (List.map em_Int_Bool m) = (tget k m).map e_Bool := by
  induction m with
  | nil => rfl
  | cons p m ih =>
    simp only [List.map_cons, mget, mset, mdel, tget, tset, tdel, em_Int_Bool, keyEq, C.toStr_str, C.toInt_int] at ih ⊢
    split <;> simp_all
theorem ms_Int_Bool (k : Int) (m : List (Int × Bool)) (v : Bool) : mset (.int .i64) (.int k) (e_Bool v) (List.map em_Int_Bool m) = List.map em_Int_Bool (tset k v m) := by
  induction m with
  | nil => rfl
  | cons p m ih =>
    simp only [List.map_cons, mget, mset, mdel, tget, tset, tdel, em_Int_Bool, keyEq, C.toStr_str, C.toInt_int] at ih ⊢
    split <;> simp_all [em_Int_Bool]
theorem md_Int_Bool (k : Int) (m : List (Int × Bool)) : mdel (.int .i64) (.int k) (List.map em_Int_Bool m) = List.map em_Int_Bool (tdel k m) := by
  induction m with
  | nil => rfl
  | cons p m ih =>
    simp only [List.map_cons, mget, mset, mdel, tget, tset, tdel, em_Int_Bool, keyEq, C.toStr_str, C.toInt_int] at ih ⊢
    split <;> simp_all [em_Int_Bool]
theorem mk_Int_Bool (p : Int × Bool) : (em_Int_Bool p).1 = .int p.1 := rfl
theorem mv_Int_Bool_0 (p : Int × Bool) : (cg (em_Int_Bool p).2 0).toBool = p.2 := rfl
theorem ms1_Int_Bool (k : Int) (m : List (Int × Bool)) (v0 : Bool) : mset (.int .i64) (.int k) [.bool v0] (List.map em_Int_Bool m) = List.map em_Int_Bool (tset k v0 m) := ms_Int_Bool k m v0
theorem mc_Int_Bool_0 (o : Option Bool) : (cg ((o.map e_Bool).getD [.bool false]) 0).toBool = (o.getD default) := by cases o <;> rfl
theorem mi_Int_Bool (o : Option Bool) : (o.map e_Bool).isSome = o.isSome := by cases o <;> rfl
def em_Str_Bool (p : (List UInt8) × Bool) : C × List C := (.str p.1, e_Bool p.2)
theorem mg_Str_Bool (k : List UInt8) (m : List ((List UInt8) × Bool)) : mget .str (.str k) (List.map em_Str_Bool m) = (tget k m).map e_Bool := by
  induction m with
  | nil => rfl
  | cons p m ih =>
    simp only [List.map_cons, mget, mset, mdel, tget, tset, tdel, em_Str_Bool, keyEq, C.toStr_str, C.toInt_int] at ih ⊢
    split <;> simp_all
theorem ms_Str_Bool (k : List UInt8) (m : List ((List UInt8) × Bool)) (v : Bool) : mset .str (.str k) (e_Bool v) (List.map em_Str_Bool m) = List.map em_Str_Bool (tset k v m) := by
  induction m with
  | nil => rfl
  | cons p m ih =>
    simp only [List.map_cons, mget, mset, mdel, tget, tset, tdel, em_Str_Bool, keyEq, C.toStr_str, C.toInt_int] at ih ⊢
    split <;> simp_all [em_Str_Bool]
theorem md_Str_Bool (k : List UInt8) (m : List ((List UInt8) × Bool)) : mdel .str (.str k) (List.map em_Str_Bool m) = List.map em_Str_Bool (tdel k m) := by
  induction m with
  | nil => rfl
  | cons p m ih =>
    simp only [List.map_cons, mget, mset, mdel, tget, tset, tdel, em_Str_Bool, keyEq, C.toStr_str, C.toInt_int] at ih ⊢
    split <;> simp_all [em_Str_Bool]
theorem mk_Str_Bool (p : (List UInt8) × Bool) : (em_Str_Bool p).1 = .str p.1 := rfl
theorem mv_Str_Bool_0 (p : (List UInt8) × Bool) : (cg (em_Str_Bool p).2 0).toBool = p.2 := rfl
theorem ms1_Str_Bool (k : List UInt8) (m : List ((List UInt8) × Bool)) (v0 : Bool) : mset .str (.str k) [.bool v0] (List.map em_Str_Bool m) = List.map em_Str_Bool (tset k v0 m) := ms_Str_Bool k m v0
theorem mc_Str_Bool_0 (o : Option Bool) : (cg ((o.map e_Bool).getD [.bool false]) 0).toBool = (o.getD default) := by cases o <;> rfl
theorem mi_Str_Bool (o : Option Bool) : (o.map e_Bool).isSome = o.isSome := by cases o <;> rfl
theorem tl : type_of% (And.intro (And.intro (And.intro (And.intro (And.intro (And.intro @de_TCond (And.intro @e_TCond.eq_1 @d_TCond.eq_1)) (And.intro @cg_TCond_0 (And.intro @cg_TCond_1 @cg_TCond_2))) (And.intro (And.intro @ap_TCond (And.intro @de_Str @e_Str.eq_1)) (And.intro @d_Str.eq_1 (And.intro @cg_Str_0 @ap_Str)))) (And.intro (And.intro (And.intro @de_TDD (And.intro @e_TDD.eq_1 @d_TDD.eq_1)) (And.intro @cg_TDD_0 (And.intro @cg_TDD_1 @cg_TDD_2))) (And.intro (And.intro @cg_TDD_3 (And.intro @cg_TDD_4 @cg_TDD_5)) (And.intro (And.intro @cg_TDD_6 @cg_TDD_7) (And.intro @cg_TDD_8 @cg_TDD_9))))) (And.intro (And.intro (And.intro (And.intro @cg_TDD_10 (And.intro @cg_TDD_11 @cg_TDD_12)) (And.intro @cg_TDD_13 (And.intro @cg_TDD_14 @cg_TDD_15))) (And.intro (And.intro @cg_TDD_16 (And.intro @cg_TDD_17 @cg_TDD_18)) (And.intro (And.intro @cg_TDD_19 @cg_TDD_20) (And.intro @cg_TDD_21 @cg_TDD_22)))) (And.intro (And.intro (And.intro @cg_TDD_23 (And.intro @cg_TDD_24 @ap_TDD)) (And.intro @ap_TDD_1 (And.intro @de_TJobStep @e_TJobStep.eq_1))) (And.intro (And.intro @d_TJobStep.eq_1 (And.intro @cg_TJobStep_0 @cg_TJobStep_1)) (And.intro (And.intro @cg_TJobStep_2 @cg_TJobStep_3) (And.intro @cg_TJobStep_4 @cg_TJobStep_5)))))) (And.intro (And.intro (And.intro (And.intro (And.intro @cg_TJobStep_6 (And.intro @cg_TJobStep_7 @ap_TJobStep)) (And.intro @ap_TJobStep_1 (And.intro @ap_TJobStep_2 @ap_TJobStep_3))) (And.intro (And.intro @de_TWant (And.intro @e_TWant.eq_1 @d_TWant.eq_1)) (And.intro (And.intro @cg_TWant_0 @cg_TWant_1) (And.intro @ap_TWant @de_TRequest)))) (And.intro (And.intro (And.intro @e_TRequest.eq_1 (And.intro @d_TRequest.eq_1 @cg_TRequest_0)) (And.intro @cg_TRequest_1 (And.intro @ap_TRequest @ap_TRequest_1))) (And.intro (And.intro @zr_TRequest (And.intro @de_Int @e_Int.eq_1)) (And.intro (And.intro @d_Int.eq_1 @cg_Int_0) (And.intro @ap_Int @de_Bool))))) (And.intro (And.intro (And.intro (And.intro @e_Bool.eq_1 (And.intro @d_Bool.eq_1 @cg_Bool_0)) (And.intro @ap_Bool (And.intro @eta_TCond @eta_TDcb))) (And.intro (And.intro @eta_TDD (And.intro @eta_TJobStep @eta_TJob)) (And.intro (And.intro @eta_TWant @eta_TRequest) (And.intro @eta_TTable @mg_Int_Bool)))) (And.intro (And.intro (And.intro @md_Int_Bool (And.intro @mk_Int_Bool @mv_Int_Bool_0)) (And.intro @ms1_Int_Bool (And.intro @mc_Int_Bool_0 @mi_Int_Bool))) (And.intro (And.intro @mg_Str_Bool (And.intro @md_Str_Bool @mk_Str_Bool)) (And.intro (And.intro @mv_Str_Bool_0 @ms1_Str_Bool) (And.intro @mc_Str_Bool_0 @mi_Str_Bool))))))) := (And.intro (And.intro (And.intro (And.intro (And.intro (And.intro @de_TCond (And.intro @e_TCond.eq_1 @d_TCond.eq_1)) (And.intro @cg_TCond_0 (And.intro @cg_TCond_1 @cg_TCond_2))) (And.intro (And.intro @ap_TCond (And.intro @de_Str @e_Str.eq_1)) (And.intro @d_Str.eq_1 (And.intro @cg_Str_0 @ap_Str)))) (And.intro (And.intro (And.intro @de_TDD (And.intro @e_TDD.eq_1 @d_TDD.eq_1)) (And.intro @cg_TDD_0 (And.intro @cg_TDD_1 @cg_TDD_2))) (And.intro (And.intro @cg_TDD_3 (And.intro @cg_TDD_4 @cg_TDD_5)) (And.intro (And.intro @cg_TDD_6 @cg_TDD_7) (And.intro @cg_TDD_8 @cg_TDD_9))))) (And.intro (And.intro (And.intro (And.intro @cg_TDD_10 (And.intro @cg_TDD_11 @cg_TDD_12)) (And.intro @cg_TDD_13 (And.intro @cg_TDD_14 @cg_TDD_15))) (And.intro (And.intro @cg_TDD_16 (And.intro @cg_TDD_17 @cg_TDD_18)) (And.intro (And.intro @cg_TDD_19 @cg_TDD_20) (And.intro @cg_TDD_21 @cg_TDD_22)))) (And.intro (And.intro (And.intro @cg_TDD_23 (And.intro @cg_TDD_24 @ap_TDD)) (And.intro @ap_TDD_1 (And.intro @de_TJobStep @e_TJobStep.eq_1))) (And.intro (And.intro @d_TJobStep.eq_1 (And.intro @cg_TJobStep_0 @cg_TJobStep_1)) (And.intro (And.intro @cg_TJobStep_2 @cg_TJobStep_3) (And.intro @cg_TJobStep_4 @cg_TJobStep_5)))))) (And.intro (And.intro (And.intro (And.intro (And.intro @cg_TJobStep_6 (And.intro @cg_TJobStep_7 @ap_TJobStep)) (And.intro @ap_TJobStep_1 (And.intro @ap_TJobStep_2 @ap_TJobStep_3))) (And.intro (And.intro @de_TWant (And.intro @e_TWant.eq_1 @d_TWant.eq_1)) (And.intro (And.intro @cg_TWant_0 @cg_TWant_1) (And.intro @ap_TWant @de_TRequest)))) (And.intro (And.intro (And.intro @e_TRequest.eq_1 (And.intro @d_TRequest.eq_1 @cg_TRequest_0)) (And.intro @cg_TRequest_1 (And.intro @ap_TRequest @ap_TRequest_1))) (And.intro (And.intro @zr_TRequest (And.intro @de_Int @e_Int.eq_1)) (And.intro (And.intro @d_Int.eq_1 @cg_Int_0) (And.intro @ap_Int @de_Bool))))) (And.intro (And.intro (And.intro (And.intro @e_Bool.eq_1 (And.intro @d_Bool.eq_1 @cg_Bool_0)) (And.intro @ap_Bool (And.intro @eta_TCond @eta_TDcb))) (And.intro (And.intro @eta_TDD (And.intro @eta_TJobStep @eta_TJob)) (And.intro (And.intro @eta_TWant @eta_TRequest) (And.intro @eta_TTable @mg_Int_Bool)))) (And.intro (And.intro (And.intro @md_Int_Bool (And.intro @mk_Int_Bool @mv_Int_Bool_0)) (And.intro @ms1_Int_Bool (And.intro @mc_Int_Bool_0 @mi_Int_Bool))) (And.intro (And.intro @mg_Str_Bool (And.intro @md_Str_Bool @mk_Str_Bool)) (And.intro (And.intro @mv_Str_Bool_0 @ms1_Str_Bool) (And.intro @mc_Str_Bool_0 @mi_Str_Bool)))))))
theorem z : type_of% (And.intro (And.intro ev ew) (And.intro tys tl)) := (And.intro (And.intro ev ew) (And.intro tys tl))
end Go.Proofs.YtcdofkflbnpjjaaDoor
