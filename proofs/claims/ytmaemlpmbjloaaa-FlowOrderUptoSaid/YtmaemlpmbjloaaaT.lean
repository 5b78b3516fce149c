/-
  The types of the seat, by structures; what is known of them.
-/
import Derived.Test.YtmaemlpmbjloaaaAE19
import Derived.Test.YtmaemlpmbjloaaaRows
set_option maxHeartbeats 8000000
set_option linter.unusedVariables false
set_option linter.unusedSimpArgs false
set_option maxRecDepth 100000
namespace Go.Proofs.Ytmaemlpmbjloaaa
open Go.AE
theorem h00 : tyI Try.prog 0 = none := by kernel_rfl
theorem mixed : Try.prog.follows .mixedOrders = true := by kernel_rfl
theorem ty3 : tyI Try.prog 3 = some ⟨[.int .i64], false, [], 0, 8⟩ := by kernel_rfl
theorem ty4 : tyI Try.prog 4 = some ⟨[.bool], false, [], 0, 1⟩ := by kernel_rfl
theorem ty9 : tyI Try.prog 9 = some ⟨[.str], false, [], 0, 16⟩ := by kernel_rfl
theorem str9 : isStrT Try.prog 9 = true := by kernel_rfl
theorem ty22 : tyI Try.prog 22 = some ⟨[.slice 27], false, [], 27, 24⟩ := by kernel_rfl
theorem sl22 : slE Try.prog 22 = some (27, ⟨[.int .i64, .int .i64, .str], true, [(0, 3), (1, 3), (2, 9)], 0, 32⟩) := by kernel_rfl
theorem ty24 : tyI Try.prog 24 = some ⟨[.int .i64, .int .i64, .int .i64, .int .i64], true, [(0, 3), (1, 3), (2, 3), (3, 3)], 0, 32⟩ := by kernel_rfl
theorem eq24 : eqT Try.prog 24 = true := by kernel_rfl
theorem ty27 : tyI Try.prog 27 = some ⟨[.int .i64, .int .i64, .str], true, [(0, 3), (1, 3), (2, 9)], 0, 32⟩ := by kernel_rfl
theorem eq27 : eqT Try.prog 27 = true := by kernel_rfl
theorem ty30 : tyI Try.prog 30 = some ⟨[.slice 39], false, [], 39, 24⟩ := by kernel_rfl
theorem sl30 : slE Try.prog 30 = some (39, ⟨[.str, .str, .str, .int .i64, .bool, .int .i64, .int .i64, .int .i64, .int .i64, .str, .int .i64, .int .i64, .int .i64, .int .i64, .int .i64, .bool, .bool, .int .i64, .int .i64, .int .i64, .int .i64, .str, .slice 9, .bool, .bool], true, [(0, 9), (1, 9), (2, 9), (3, 3), (4, 4), (5, 3), (6, 3), (7, 3), (8, 3), (9, 9), (10, 3), (11, 3), (12, 3), (13, 37), (21, 9), (22, 33), (23, 4), (24, 4)], 0, 240⟩) := by kernel_rfl
theorem ty32 : tyI Try.prog 32 = some ⟨[.str, .str, .str, .slice 27, .bool, .bool, .int .i64, .slice 39], true, [(0, 9), (1, 9), (2, 9), (3, 22), (4, 4), (5, 4), (6, 3), (7, 30)], 0, 112⟩ := by kernel_rfl
theorem ty33 : tyI Try.prog 33 = some ⟨[.slice 9], false, [], 9, 24⟩ := by kernel_rfl
theorem sl33 : slE Try.prog 33 = some (9, ⟨[.str], false, [], 0, 16⟩) := by kernel_rfl
theorem ty34 : tyI Try.prog 34 = some ⟨[.slice 24], false, [], 24, 24⟩ := by kernel_rfl
theorem sl34 : slE Try.prog 34 = some (24, ⟨[.int .i64, .int .i64, .int .i64, .int .i64], true, [(0, 3), (1, 3), (2, 3), (3, 3)], 0, 32⟩) := by kernel_rfl
theorem ty37 : tyI Try.prog 37 = some ⟨[.int .i64, .int .i64, .bool, .bool, .int .i64, .int .i64, .int .i64, .int .i64], true, [(0, 3), (1, 3), (2, 4), (3, 4), (4, 3), (5, 3), (6, 3), (7, 3)], 0, 56⟩ := by kernel_rfl
theorem eq37 : eqT Try.prog 37 = true := by kernel_rfl
theorem ty39 : tyI Try.prog 39 = some ⟨[.str, .str, .str, .int .i64, .bool, .int .i64, .int .i64, .int .i64, .int .i64, .str, .int .i64, .int .i64, .int .i64, .int .i64, .int .i64, .bool, .bool, .int .i64, .int .i64, .int .i64, .int .i64, .str, .slice 9, .bool, .bool], true, [(0, 9), (1, 9), (2, 9), (3, 3), (4, 4), (5, 3), (6, 3), (7, 3), (8, 3), (9, 9), (10, 3), (11, 3), (12, 3), (13, 37), (21, 9), (22, 33), (23, 4), (24, 4)], 0, 240⟩ := by kernel_rfl
theorem ty47 : tyI Try.prog 47 = some ⟨[.other], false, [], 0, 8⟩ := by kernel_rfl
theorem mp47 : mapE Try.prog 47 = some (.str, 3, ⟨[.int .i64], false, [], 0, 8⟩) := by kernel_rfl
theorem tys : type_of% (And.intro (And.intro (And.intro (And.intro @ty3 @ty4) (And.intro @ty9 (And.intro @str9 @ty22))) (And.intro (And.intro @sl22 (And.intro @ty24 @eq24)) (And.intro @ty27 (And.intro @eq27 @ty30)))) (And.intro (And.intro (And.intro @sl30 @ty32) (And.intro @ty33 (And.intro @sl33 @ty34))) (And.intro (And.intro @sl34 (And.intro @ty37 @eq37)) (And.intro @ty39 (And.intro @ty47 @mp47))))) := (And.intro (And.intro (And.intro (And.intro @ty3 @ty4) (And.intro @ty9 (And.intro @str9 @ty22))) (And.intro (And.intro @sl22 (And.intro @ty24 @eq24)) (And.intro @ty27 (And.intro @eq27 @ty30)))) (And.intro (And.intro (And.intro @sl30 @ty32) (And.intro @ty33 (And.intro @sl33 @ty34))) (And.intro (And.intro @sl34 (And.intro @ty37 @eq37)) (And.intro @ty39 (And.intro @ty47 @mp47)))))

structure TCond where
  Code : Int
  Op : Int
  Step : List UInt8
  deriving DecidableEq, Inhabited
structure TStepEnd where
  Kind : Int
  Code : Int
  Ins : Int
  Ios : Int
  deriving DecidableEq, Inhabited
structure TDcb where
  Org : Int
  Format : Int
  Blocked : Bool
  Asa : Bool
  Lrecl : Int
  Blksize : Int
  KeyLen : Int
  KeyPos : Int
  deriving DecidableEq, Inhabited
structure TDD where
  Name : List UInt8
  Dsn : List UInt8
  Member : List UInt8
  Gen : Int
  HasGen : Bool
  Disp : Int
  Normal : Int
  Abend : Int
  Unit : Int
  Vol : List UInt8
  Tracks : Int
  More : Int
  File : Int
  Dcb : TDcb
  Sysout : List UInt8
  Instream : List (List UInt8)
  HasData : Bool
  Dummy : Bool
  deriving DecidableEq, Inhabited
structure TJobStep where
  Name : List UInt8
  Pgm : List UInt8
  Parm : List UInt8
  Conds : List TCond
  Even : Bool
  Only : Bool
  Time : Int
  DDs : List TDD
  deriving DecidableEq, Inhabited
def e_TCond (x : TCond) : List C := [.int x.Code, .int x.Op, .str x.Step]
def d_TCond (c : List C) : TCond := (⟨(cg c 0).toInt, (cg c 1).toInt, (cg c 2).toStr⟩ : TCond)
theorem de_TCond (l : List TCond) : List.map d_TCond (List.map e_TCond l) = l := by
  rw [List.map_map]; refine (List.map_congr_left fun x _ => ?_).trans (List.map_id l)
  show d_TCond (e_TCond x) = x
  simp only [d_TCond, e_TCond, cg_zero, cg_succ, C.toBool_bool, C.toInt_int, C.toStr_str, C.toSl_slice]
theorem cg_TCond_0 (l : List TCond) (i : Nat) : (cg (eg (List.map e_TCond l) i) 0).toInt = (gt l i).Code := by
  rcases Nat.lt_or_ge i l.length with h | h
  · rw [eg_map _ _ _ h]; rfl
  · rw [eg_out _ _ _ h, gt_out _ _ h]; rfl
theorem cg_TCond_1 (l : List TCond) (i : Nat) : (cg (eg (List.map e_TCond l) i) 1).toInt = (gt l i).Op := by
  rcases Nat.lt_or_ge i l.length with h | h
  · rw [eg_map _ _ _ h]; rfl
  · rw [eg_out _ _ _ h, gt_out _ _ h]; rfl
theorem cg_TCond_2 (l : List TCond) (i : Nat) : (cg (eg (List.map e_TCond l) i) 2).toStr = (gt l i).Step := by
  rcases Nat.lt_or_ge i l.length with h | h
  · rw [eg_map _ _ _ h]; rfl
  · rw [eg_out _ _ _ h, gt_out _ _ h]; rfl
theorem ap_TCond (l : List TCond) (v0 : Int) (v1 : Int) (v2 : List UInt8) : List.map e_TCond l ++ [[.int v0, .int v1, .str v2]] = List.map e_TCond (l ++ [(⟨v0, v1, v2⟩ : TCond)]) := by simp [e_TCond]
def e_Str (x : List UInt8) : List C := [.str x]
def d_Str (c : List C) : List UInt8 := (cg c 0).toStr
theorem de_Str (l : List (List UInt8)) : List.map d_Str (List.map e_Str l) = l := by
  rw [List.map_map]; refine (List.map_congr_left fun x _ => ?_).trans (List.map_id l)
  show d_Str (e_Str x) = x
  simp only [d_Str, e_Str, cg_zero, cg_succ, C.toBool_bool, C.toInt_int, C.toStr_str, C.toSl_slice]
theorem cg_Str_0 (l : List (List UInt8)) (i : Nat) : (cg (eg (List.map e_Str l) i) 0).toStr = gt l i := by
  rcases Nat.lt_or_ge i l.length with h | h
  · rw [eg_map _ _ _ h]; rfl
  · rw [eg_out _ _ _ h, gt_out _ _ h]; rfl
theorem ap_Str (l : List (List UInt8)) (v0 : List UInt8) : List.map e_Str l ++ [[.str v0]] = List.map e_Str (l ++ [v0]) := by simp [e_Str]
def e_TStepEnd (x : TStepEnd) : List C := [.int x.Kind, .int x.Code, .int x.Ins, .int x.Ios]
def d_TStepEnd (c : List C) : TStepEnd := (⟨(cg c 0).toInt, (cg c 1).toInt, (cg c 2).toInt, (cg c 3).toInt⟩ : TStepEnd)
theorem de_TStepEnd (l : List TStepEnd) : List.map d_TStepEnd (List.map e_TStepEnd l) = l := by
  rw [List.map_map]; refine (List.map_congr_left fun x _ => ?_).trans (List.map_id l)
  show d_TStepEnd (e_TStepEnd x) = x
  simp only [d_TStepEnd, e_TStepEnd, cg_zero, cg_succ, C.toBool_bool, C.toInt_int, C.toStr_str, C.toSl_slice]
theorem cg_TStepEnd_0 (l : List TStepEnd) (i : Nat) : (cg (eg (List.map e_TStepEnd l) i) 0).toInt = (gt l i).Kind := by
  rcases Nat.lt_or_ge i l.length with h | h
  · rw [eg_map _ _ _ h]; rfl
  · rw [eg_out _ _ _ h, gt_out _ _ h]; rfl
theorem cg_TStepEnd_1 (l : List TStepEnd) (i : Nat) : (cg (eg (List.map e_TStepEnd l) i) 1).toInt = (gt l i).Code := by
  rcases Nat.lt_or_ge i l.length with h | h
  · rw [eg_map _ _ _ h]; rfl
  · rw [eg_out _ _ _ h, gt_out _ _ h]; rfl
theorem cg_TStepEnd_2 (l : List TStepEnd) (i : Nat) : (cg (eg (List.map e_TStepEnd l) i) 2).toInt = (gt l i).Ins := by
  rcases Nat.lt_or_ge i l.length with h | h
  · rw [eg_map _ _ _ h]; rfl
  · rw [eg_out _ _ _ h, gt_out _ _ h]; rfl
theorem cg_TStepEnd_3 (l : List TStepEnd) (i : Nat) : (cg (eg (List.map e_TStepEnd l) i) 3).toInt = (gt l i).Ios := by
  rcases Nat.lt_or_ge i l.length with h | h
  · rw [eg_map _ _ _ h]; rfl
  · rw [eg_out _ _ _ h, gt_out _ _ h]; rfl
theorem ap_TStepEnd (l : List TStepEnd) (v0 : Int) (v1 : Int) (v2 : Int) (v3 : Int) : List.map e_TStepEnd l ++ [[.int v0, .int v1, .int v2, .int v3]] = List.map e_TStepEnd (l ++ [(⟨v0, v1, v2, v3⟩ : TStepEnd)]) := by simp [e_TStepEnd]
def e_TDD (x : TDD) : List C := [.str x.Name, .str x.Dsn, .str x.Member, .int x.Gen, .bool x.HasGen, .int x.Disp, .int x.Normal, .int x.Abend, .int x.Unit, .str x.Vol, .int x.Tracks, .int x.More, .int x.File, .int x.Dcb.Org, .int x.Dcb.Format, .bool x.Dcb.Blocked, .bool x.Dcb.Asa, .int x.Dcb.Lrecl, .int x.Dcb.Blksize, .int x.Dcb.KeyLen, .int x.Dcb.KeyPos, .str x.Sysout, .slice (List.map e_Str x.Instream), .bool x.HasData, .bool x.Dummy]
def d_TDD (c : List C) : TDD := (⟨(cg c 0).toStr, (cg c 1).toStr, (cg c 2).toStr, (cg c 3).toInt, (cg c 4).toBool, (cg c 5).toInt, (cg c 6).toInt, (cg c 7).toInt, (cg c 8).toInt, (cg c 9).toStr, (cg c 10).toInt, (cg c 11).toInt, (cg c 12).toInt, (⟨(cg c 13).toInt, (cg c 14).toInt, (cg c 15).toBool, (cg c 16).toBool, (cg c 17).toInt, (cg c 18).toInt, (cg c 19).toInt, (cg c 20).toInt⟩ : TDcb), (cg c 21).toStr, ((cg c 22).toSl.map d_Str), (cg c 23).toBool, (cg c 24).toBool⟩ : TDD)
theorem de_TDD (l : List TDD) : List.map d_TDD (List.map e_TDD l) = l := by
  rw [List.map_map]; refine (List.map_congr_left fun x _ => ?_).trans (List.map_id l)
  show d_TDD (e_TDD x) = x
  simp only [d_TDD, e_TDD, cg_zero, cg_succ, C.toBool_bool, C.toInt_int, C.toStr_str, C.toSl_slice, de_Str]
theorem cg_TDD_0 (l : List TDD) (i : Nat) : (cg (eg (List.map e_TDD l) i) 0).toStr = (gt l i).Name := by
  rcases Nat.lt_or_ge i l.length with h | h
  · rw [eg_map _ _ _ h]; rfl
  · rw [eg_out _ _ _ h, gt_out _ _ h]; rfl
theorem cg_TDD_1 (l : List TDD) (i : Nat) : (cg (eg (List.map e_TDD l) i) 1).toStr = (gt l i).Dsn := by
  rcases Nat.lt_or_ge i l.length with h | h
  · rw [eg_map _ _ _ h]; rfl
  · rw [eg_out _ _ _ h, gt_out _ _ h]; rfl
theorem cg_TDD_2 (l : List TDD) (i : Nat) : (cg (eg (List.map e_TDD l) i) 2).toStr = (gt l i).Member := by
  rcases Nat.lt_or_ge i l.length with h | h
  · rw [eg_map _ _ _ h]; rfl
  · rw [eg_out _ _ _ h, gt_out _ _ h]; rfl
theorem cg_TDD_3 (l : List TDD) (i : Nat) : (cg (eg (List.map e_TDD l) i) 3).toInt = (gt l i).Gen := by
  rcases Nat.lt_or_ge i l.length with h | h
  · rw [eg_map _ _ _ h]; rfl
  · rw [eg_out _ _ _ h, gt_out _ _ h]; rfl
theorem cg_TDD_4 (l : List TDD) (i : Nat) : (cg (eg (List.map e_TDD l) i) 4).toBool = (gt l i).HasGen := by
  rcases Nat.lt_or_ge i l.length with h | h
  · rw [eg_map _ _ _ h]; rfl
  · rw [eg_out _ _ _ h, gt_out _ _ h]; rfl
theorem cg_TDD_5 (l : List TDD) (i : Nat) : (cg (eg (List.map e_TDD l) i) 5).toInt = (gt l i).Disp := by
  rcases Nat.lt_or_ge i l.length with h | h
  · rw [eg_map _ _ _ h]; rfl
  · rw [eg_out _ _ _ h, gt_out _ _ h]; rfl
theorem cg_TDD_6 (l : List TDD) (i : Nat) : (cg (eg (List.map e_TDD l) i) 6).toInt = (gt l i).Normal := by
  rcases Nat.lt_or_ge i l.length with h | h
  · rw [eg_map _ _ _ h]; rfl
  · rw [eg_out _ _ _ h, gt_out _ _ h]; rfl
theorem cg_TDD_7 (l : List TDD) (i : Nat) : (cg (eg (List.map e_TDD l) i) 7).toInt = (gt l i).Abend := by
  rcases Nat.lt_or_ge i l.length with h | h
  · rw [eg_map _ _ _ h]; rfl
  · rw [eg_out _ _ _ h, gt_out _ _ h]; rfl
theorem cg_TDD_8 (l : List TDD) (i : Nat) : (cg (eg (List.map e_TDD l) i) 8).toInt = (gt l i).Unit := by
  rcases Nat.lt_or_ge i l.length with h | h
  · rw [eg_map _ _ _ h]; rfl
  · rw [eg_out _ _ _ h, gt_out _ _ h]; rfl
theorem cg_TDD_9 (l : List TDD) (i : Nat) : (cg (eg (List.map e_TDD l) i) 9).toStr = (gt l i).Vol := by
  rcases Nat.lt_or_ge i l.length with h | h
  · rw [eg_map _ _ _ h]; rfl
  · rw [eg_out _ _ _ h, gt_out _ _ h]; rfl
theorem cg_TDD_10 (l : List TDD) (i : Nat) : (cg (eg (List.map e_TDD l) i) 10).toInt = (gt l i).Tracks := by
  rcases Nat.lt_or_ge i l.length with h | h
  · rw [eg_map _ _ _ h]; rfl
  · rw [eg_out _ _ _ h, gt_out _ _ h]; rfl
theorem cg_TDD_11 (l : List TDD) (i : Nat) : (cg (eg (List.map e_TDD l) i) 11).toInt = (gt l i).More := by
  rcases Nat.lt_or_ge i l.length with h | h
  · rw [eg_map _ _ _ h]; rfl
  · rw [eg_out _ _ _ h, gt_out _ _ h]; rfl
theorem cg_TDD_12 (l : List TDD) (i : Nat) : (cg (eg (List.map e_TDD l) i) 12).toInt = (gt l i).File := by
  rcases Nat.lt_or_ge i l.length with h | h
  · rw [eg_map _ _ _ h]; rfl
  · rw [eg_out _ _ _ h, gt_out _ _ h]; rfl
theorem cg_TDD_13 (l : List TDD) (i : Nat) : (cg (eg (List.map e_TDD l) i) 13).toInt = (gt l i).Dcb.Org := by
  rcases Nat.lt_or_ge i l.length with h | h
  · rw [eg_map _ _ _ h]; rfl
  · rw [eg_out _ _ _ h, gt_out _ _ h]; rfl
theorem cg_TDD_14 (l : List TDD) (i : Nat) : (cg (eg (List.map e_TDD l) i) 14).toInt = (gt l i).Dcb.Format := by
  rcases Nat.lt_or_ge i l.length with h | h
  · rw [eg_map _ _ _ h]; rfl
  · rw [eg_out _ _ _ h, gt_out _ _ h]; rfl
theorem cg_TDD_15 (l : List TDD) (i : Nat) : (cg (eg (List.map e_TDD l) i) 15).toBool = (gt l i).Dcb.Blocked := by
  rcases Nat.lt_or_ge i l.length with h | h
  · rw [eg_map _ _ _ h]; rfl
  · rw [eg_out _ _ _ h, gt_out _ _ h]; rfl
theorem cg_TDD_16 (l : List TDD) (i : Nat) : (cg (eg (List.map e_TDD l) i) 16).toBool = (gt l i).Dcb.Asa := by
  rcases Nat.lt_or_ge i l.length with h | h
  · rw [eg_map _ _ _ h]; rfl
  · rw [eg_out _ _ _ h, gt_out _ _ h]; rfl
theorem cg_TDD_17 (l : List TDD) (i : Nat) : (cg (eg (List.map e_TDD l) i) 17).toInt = (gt l i).Dcb.Lrecl := by
  rcases Nat.lt_or_ge i l.length with h | h
  · rw [eg_map _ _ _ h]; rfl
  · rw [eg_out _ _ _ h, gt_out _ _ h]; rfl
theorem cg_TDD_18 (l : List TDD) (i : Nat) : (cg (eg (List.map e_TDD l) i) 18).toInt = (gt l i).Dcb.Blksize := by
  rcases Nat.lt_or_ge i l.length with h | h
  · rw [eg_map _ _ _ h]; rfl
  · rw [eg_out _ _ _ h, gt_out _ _ h]; rfl
theorem cg_TDD_19 (l : List TDD) (i : Nat) : (cg (eg (List.map e_TDD l) i) 19).toInt = (gt l i).Dcb.KeyLen := by
  rcases Nat.lt_or_ge i l.length with h | h
  · rw [eg_map _ _ _ h]; rfl
  · rw [eg_out _ _ _ h, gt_out _ _ h]; rfl
theorem cg_TDD_20 (l : List TDD) (i : Nat) : (cg (eg (List.map e_TDD l) i) 20).toInt = (gt l i).Dcb.KeyPos := by
  rcases Nat.lt_or_ge i l.length with h | h
  · rw [eg_map _ _ _ h]; rfl
  · rw [eg_out _ _ _ h, gt_out _ _ h]; rfl
theorem cg_TDD_21 (l : List TDD) (i : Nat) : (cg (eg (List.map e_TDD l) i) 21).toStr = (gt l i).Sysout := by
  rcases Nat.lt_or_ge i l.length with h | h
  · rw [eg_map _ _ _ h]; rfl
  · rw [eg_out _ _ _ h, gt_out _ _ h]; rfl
theorem cg_TDD_22 (l : List TDD) (i : Nat) : (cg (eg (List.map e_TDD l) i) 22).toSl = List.map e_Str ((gt l i).Instream) := by
  rcases Nat.lt_or_ge i l.length with h | h
  · rw [eg_map _ _ _ h]; rfl
  · rw [eg_out _ _ _ h, gt_out _ _ h]; rfl
theorem cg_TDD_23 (l : List TDD) (i : Nat) : (cg (eg (List.map e_TDD l) i) 23).toBool = (gt l i).HasData := by
  rcases Nat.lt_or_ge i l.length with h | h
  · rw [eg_map _ _ _ h]; rfl
  · rw [eg_out _ _ _ h, gt_out _ _ h]; rfl
theorem cg_TDD_24 (l : List TDD) (i : Nat) : (cg (eg (List.map e_TDD l) i) 24).toBool = (gt l i).Dummy := by
  rcases Nat.lt_or_ge i l.length with h | h
  · rw [eg_map _ _ _ h]; rfl
  · rw [eg_out _ _ _ h, gt_out _ _ h]; rfl
theorem ap_TDD (l : List TDD) (v0 : List UInt8) (v1 : List UInt8) (v2 : List UInt8) (v3 : Int) (v4 : Bool) (v5 : Int) (v6 : Int) (v7 : Int) (v8 : Int) (v9 : List UInt8) (v10 : Int) (v11 : Int) (v12 : Int) (v13 : Int) (v14 : Int) (v15 : Bool) (v16 : Bool) (v17 : Int) (v18 : Int) (v19 : Int) (v20 : Int) (v21 : List UInt8) (v22 : List (List UInt8)) (v23 : Bool) (v24 : Bool) : List.map e_TDD l ++ [[.str v0, .str v1, .str v2, .int v3, .bool v4, .int v5, .int v6, .int v7, .int v8, .str v9, .int v10, .int v11, .int v12, .int v13, .int v14, .bool v15, .bool v16, .int v17, .int v18, .int v19, .int v20, .str v21, .slice (List.map e_Str v22), .bool v23, .bool v24]] = List.map e_TDD (l ++ [(⟨v0, v1, v2, v3, v4, v5, v6, v7, v8, v9, v10, v11, v12, (⟨v13, v14, v15, v16, v17, v18, v19, v20⟩ : TDcb), v21, v22, v23, v24⟩ : TDD)]) := by simp [e_TDD]
def e_Int (x : Int) : List C := [.int x]
def d_Int (c : List C) : Int := (cg c 0).toInt
theorem de_Int (l : List Int) : List.map d_Int (List.map e_Int l) = l := by
  rw [List.map_map]; refine (List.map_congr_left fun x _ => ?_).trans (List.map_id l)
  show d_Int (e_Int x) = x
  simp only [d_Int, e_Int, cg_zero, cg_succ, C.toBool_bool, C.toInt_int, C.toStr_str, C.toSl_slice]
theorem cg_Int_0 (l : List Int) (i : Nat) : (cg (eg (List.map e_Int l) i) 0).toInt = gt l i := by
  rcases Nat.lt_or_ge i l.length with h | h
  · rw [eg_map _ _ _ h]; rfl
  · rw [eg_out _ _ _ h, gt_out _ _ h]; rfl
theorem ap_Int (l : List Int) (v0 : Int) : List.map e_Int l ++ [[.int v0]] = List.map e_Int (l ++ [v0]) := by simp [e_Int]
theorem eta_TCond (x : TCond) : (⟨x.Code, x.Op, x.Step⟩ : TCond) = x := rfl
theorem eta_TStepEnd (x : TStepEnd) : (⟨x.Kind, x.Code, x.Ins, x.Ios⟩ : TStepEnd) = x := rfl
theorem eta_TDcb (x : TDcb) : (⟨x.Org, x.Format, x.Blocked, x.Asa, x.Lrecl, x.Blksize, x.KeyLen, x.KeyPos⟩ : TDcb) = x := rfl
theorem eta_TDD (x : TDD) : (⟨x.Name, x.Dsn, x.Member, x.Gen, x.HasGen, x.Disp, x.Normal, x.Abend, x.Unit, x.Vol, x.Tracks, x.More, x.File, x.Dcb, x.Sysout, x.Instream, x.HasData, x.Dummy⟩ : TDD) = x := rfl
theorem eta_TJobStep (x : TJobStep) : (⟨x.Name, x.Pgm, x.Parm, x.Conds, x.Even, x.Only, x.Time, x.DDs⟩ : TJobStep) = x := rfl
def em_Str_Int (p : (List UInt8) × Int) : C × List C := (.str p.1, e_Int p.2)
theorem mg_Str_Int (k : List UInt8) (m : List ((List UInt8) × Int)) : mget .str (.str k) (List.map em_Str_Int m) = (tget k m).map e_Int := by
  induction m with
  | nil => rfl
  | cons p m ih =>
    simp only [List.map_cons, mget, mset, mdel, tget, tset, tdel, em_Str_Int, keyEq, C.toStr_str, C.toInt_int] at ih ⊢
    split <;> simp_all
theorem ms_Str_Int (k : List UInt8) (m : List ((List UInt8) × Int)) (v : Int) : mset .str (.str k) (e_Int v) (List.map em_Str_Int m) = List.map em_Str_Int (tset k v m) := by
  induction m with
  | nil => rfl
  | cons p m ih =>
    simp only [List.map_cons, mget, mset, mdel, tget, tset, tdel, em_Str_Int, keyEq, C.toStr_str, C.toInt_int] at ih ⊢
    split <;> simp_all [em_Str_Int]
theorem md_Str_Int (k : List UInt8) (m : List ((List UInt8) × Int)) : mdel .str (.str k) (List.map em_Str_Int m) = List.map em_Str_Int (tdel k m) := by
  induction m with
  | nil => rfl
  | cons p m ih =>
    simp only [List.map_cons, mget, mset, mdel, tget, tset, tdel, em_Str_Int, keyEq, C.toStr_str, C.toInt_int] at ih ⊢
    split <;> simp_all [em_Str_Int]
theorem ms1_Str_Int (k : List UInt8) (m : List ((List UInt8) × Int)) (v0 : Int) : mset .str (.str k) [.int v0] (List.map em_Str_Int m) = List.map em_Str_Int (tset k v0 m) := ms_Str_Int k m v0
theorem mc_Str_Int_0 (o : Option Int) : (cg ((o.map e_Int).getD [.int 0]) 0).toInt = (o.getD default) := by cases o <;> rfl
theorem mi_Str_Int (o : Option Int) : (o.map e_Int).isSome = o.isSome := by cases o <;> rfl
theorem tl : type_of% (And.intro (And.intro (And.intro (And.intro (And.intro (And.intro @de_TCond @e_TCond.eq_1) (And.intro @d_TCond.eq_1 @cg_TCond_0)) (And.intro (And.intro @cg_TCond_1 @cg_TCond_2) (And.intro @ap_TCond @de_Str))) (And.intro (And.intro (And.intro @e_Str.eq_1 @d_Str.eq_1) (And.intro @cg_Str_0 @ap_Str)) (And.intro (And.intro @de_TStepEnd @e_TStepEnd.eq_1) (And.intro @d_TStepEnd.eq_1 @cg_TStepEnd_0)))) (And.intro (And.intro (And.intro (And.intro @cg_TStepEnd_1 @cg_TStepEnd_2) (And.intro @cg_TStepEnd_3 @ap_TStepEnd)) (And.intro (And.intro @de_TDD @e_TDD.eq_1) (And.intro @d_TDD.eq_1 @cg_TDD_0))) (And.intro (And.intro (And.intro @cg_TDD_1 @cg_TDD_2) (And.intro @cg_TDD_3 @cg_TDD_4)) (And.intro (And.intro @cg_TDD_5 @cg_TDD_6) (And.intro @cg_TDD_7 @cg_TDD_8))))) (And.intro (And.intro (And.intro (And.intro (And.intro @cg_TDD_9 @cg_TDD_10) (And.intro @cg_TDD_11 @cg_TDD_12)) (And.intro (And.intro @cg_TDD_13 @cg_TDD_14) (And.intro @cg_TDD_15 @cg_TDD_16))) (And.intro (And.intro (And.intro @cg_TDD_17 @cg_TDD_18) (And.intro @cg_TDD_19 @cg_TDD_20)) (And.intro (And.intro @cg_TDD_21 @cg_TDD_22) (And.intro @cg_TDD_23 @cg_TDD_24)))) (And.intro (And.intro (And.intro (And.intro @ap_TDD @de_Int) (And.intro @e_Int.eq_1 @d_Int.eq_1)) (And.intro (And.intro @cg_Int_0 @ap_Int) (And.intro @eta_TCond @eta_TStepEnd))) (And.intro (And.intro (And.intro @eta_TDcb @eta_TDD) (And.intro @eta_TJobStep @mg_Str_Int)) (And.intro (And.intro @md_Str_Int @ms1_Str_Int) (And.intro @mc_Str_Int_0 @mi_Str_Int)))))) := (And.intro (And.intro (And.intro (And.intro (And.intro (And.intro @de_TCond @e_TCond.eq_1) (And.intro @d_TCond.eq_1 @cg_TCond_0)) (And.intro (And.intro @cg_TCond_1 @cg_TCond_2) (And.intro @ap_TCond @de_Str))) (And.intro (And.intro (And.intro @e_Str.eq_1 @d_Str.eq_1) (And.intro @cg_Str_0 @ap_Str)) (And.intro (And.intro @de_TStepEnd @e_TStepEnd.eq_1) (And.intro @d_TStepEnd.eq_1 @cg_TStepEnd_0)))) (And.intro (And.intro (And.intro (And.intro @cg_TStepEnd_1 @cg_TStepEnd_2) (And.intro @cg_TStepEnd_3 @ap_TStepEnd)) (And.intro (And.intro @de_TDD @e_TDD.eq_1) (And.intro @d_TDD.eq_1 @cg_TDD_0))) (And.intro (And.intro (And.intro @cg_TDD_1 @cg_TDD_2) (And.intro @cg_TDD_3 @cg_TDD_4)) (And.intro (And.intro @cg_TDD_5 @cg_TDD_6) (And.intro @cg_TDD_7 @cg_TDD_8))))) (And.intro (And.intro (And.intro (And.intro (And.intro @cg_TDD_9 @cg_TDD_10) (And.intro @cg_TDD_11 @cg_TDD_12)) (And.intro (And.intro @cg_TDD_13 @cg_TDD_14) (And.intro @cg_TDD_15 @cg_TDD_16))) (And.intro (And.intro (And.intro @cg_TDD_17 @cg_TDD_18) (And.intro @cg_TDD_19 @cg_TDD_20)) (And.intro (And.intro @cg_TDD_21 @cg_TDD_22) (And.intro @cg_TDD_23 @cg_TDD_24)))) (And.intro (And.intro (And.intro (And.intro @ap_TDD @de_Int) (And.intro @e_Int.eq_1 @d_Int.eq_1)) (And.intro (And.intro @cg_Int_0 @ap_Int) (And.intro @eta_TCond @eta_TStepEnd))) (And.intro (And.intro (And.intro @eta_TDcb @eta_TDD) (And.intro @eta_TJobStep @mg_Str_Int)) (And.intro (And.intro @md_Str_Int @ms1_Str_Int) (And.intro @mc_Str_Int_0 @mi_Str_Int))))))
end Go.Proofs.Ytmaemlpmbjloaaa
