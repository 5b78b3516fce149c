/- Text. -/
import Derived.Test.YtcdofkflbnpjjaaAE19
import Derived.Test.YtcdofkflbnpjjaaAE41
import Derived.Test.YtcdofkflbnpjjaaAE48
import Derived.Test.YtcdofkflbnpjjaaAE28
import Derived.Test.YtcdofkflbnpjjaaRows
set_option maxHeartbeats 8000000
set_option linter.unusedVariables false
set_option linter.unusedSimpArgs false
set_option maxRecDepth 100000
namespace Go.Proofs.Ytcdofkflbnpjjaa
open Go.AE
theorem h00 : tyI Try.prog 0 = none := by kernel_rfl
theorem mixed : Try.prog.follows .mixedOrders = true := by kernel_rfl
theorem ty3 : tyI Try.prog 3 = some ⟨[.int .i64], false, [], 0, 8⟩ := by kernel_rfl
theorem ty4 : tyI Try.prog 4 = some ⟨[.bool], false, [], 0, 1⟩ := by kernel_rfl
theorem ty9 : tyI Try.prog 9 = some ⟨[.str], false, [], 0, 16⟩ := by kernel_rfl
theorem str9 : isStrT Try.prog 9 = true := by kernel_rfl
theorem ty22 : tyI Try.prog 22 = some ⟨[.slice 61], false, [], 61, 24⟩ := by kernel_rfl
theorem sl22 : slE Try.prog 22 = some (61, ⟨[.int .i64, .slice 92], true, [(0, 3), (1, 43)], 0, 32⟩) := by kernel_rfl
theorem ty24 : tyI Try.prog 24 = some ⟨[.slice 61, .slice 61], true, [(0, 22), (1, 22)], 0, 48⟩ := by kernel_rfl
theorem ty27 : tyI Try.prog 27 = some ⟨[.slice 88], false, [], 88, 24⟩ := by kernel_rfl
theorem sl27 : slE Try.prog 27 = some (88, ⟨[.int .i64, .slice 95], true, [(0, 3), (1, 50)], 0, 32⟩) := by kernel_rfl
theorem ty29 : tyI Try.prog 29 = some ⟨[.slice 88, .slice 88], true, [(0, 27), (1, 27)], 0, 48⟩ := by kernel_rfl
theorem ty31 : tyI Try.prog 31 = some ⟨[.slice 3], false, [], 3, 24⟩ := by kernel_rfl
theorem sl31 : slE Try.prog 31 = some (3, ⟨[.int .i64], false, [], 0, 8⟩) := by kernel_rfl
theorem ty32 : tyI Try.prog 32 = some ⟨[.int .i64], false, [], 0, 8⟩ := by kernel_rfl
theorem ty43 : tyI Try.prog 43 = some ⟨[.slice 92], false, [], 92, 24⟩ := by kernel_rfl
theorem sl43 : slE Try.prog 43 = some (92, ⟨[.str, .bool], true, [(0, 9), (1, 4)], 0, 24⟩) := by kernel_rfl
theorem ty50 : tyI Try.prog 50 = some ⟨[.slice 95], false, [], 95, 24⟩ := by kernel_rfl
theorem sl50 : slE Try.prog 50 = some (95, ⟨[.str, .bool], true, [(0, 9), (1, 4)], 0, 24⟩) := by kernel_rfl
theorem ty61 : tyI Try.prog 61 = some ⟨[.int .i64, .slice 92], true, [(0, 3), (1, 43)], 0, 32⟩ := by kernel_rfl
theorem ty88 : tyI Try.prog 88 = some ⟨[.int .i64, .slice 95], true, [(0, 3), (1, 50)], 0, 32⟩ := by kernel_rfl
theorem ty92 : tyI Try.prog 92 = some ⟨[.str, .bool], true, [(0, 9), (1, 4)], 0, 24⟩ := by kernel_rfl
theorem eq92 : eqT Try.prog 92 = true := by kernel_rfl
theorem ty95 : tyI Try.prog 95 = some ⟨[.str, .bool], true, [(0, 9), (1, 4)], 0, 24⟩ := by kernel_rfl
theorem eq95 : eqT Try.prog 95 = true := by kernel_rfl
theorem ty96 : tyI Try.prog 96 = some ⟨[.other], false, [], 0, 8⟩ := by kernel_rfl
theorem mp96 : mapE Try.prog 96 = some ((.int .i64), 4, ⟨[.bool], false, [], 0, 1⟩) := by kernel_rfl
theorem ty120 : tyI Try.prog 120 = some ⟨[.other], false, [], 0, 8⟩ := by kernel_rfl
theorem mp120 : mapE Try.prog 120 = some (.str, 4, ⟨[.bool], false, [], 0, 1⟩) := by kernel_rfl
theorem tys : type_of% (And.intro (And.intro (And.intro (And.intro @ty3 (And.intro @ty4 @ty9)) (And.intro @str9 (And.intro @ty22 @sl22))) (And.intro (And.intro @ty24 (And.intro @ty27 @sl27)) (And.intro (And.intro @ty29 @ty31) (And.intro @sl31 @ty32)))) (And.intro (And.intro (And.intro @ty43 (And.intro @sl43 @ty50)) (And.intro (And.intro @sl50 @ty61) (And.intro @ty88 @ty92))) (And.intro (And.intro @eq92 (And.intro @ty95 @eq95)) (And.intro (And.intro @ty96 @mp96) (And.intro @ty120 @mp120))))) := (And.intro (And.intro (And.intro (And.intro @ty3 (And.intro @ty4 @ty9)) (And.intro @str9 (And.intro @ty22 @sl22))) (And.intro (And.intro @ty24 (And.intro @ty27 @sl27)) (And.intro (And.intro @ty29 @ty31) (And.intro @sl31 @ty32)))) (And.intro (And.intro (And.intro @ty43 (And.intro @sl43 @ty50)) (And.intro (And.intro @sl50 @ty61) (And.intro @ty88 @ty92))) (And.intro (And.intro @eq92 (And.intro @ty95 @eq95)) (And.intro (And.intro @ty96 @mp96) (And.intro @ty120 @mp120)))))
structure TWant where
  Name : List UInt8
  Exclusive : Bool
  deriving DecidableEq, Inhabited
structure TRequest where
  Job : Int
  Wants : List TWant
  deriving DecidableEq, Inhabited
structure TTable where
  Held : List TRequest
  Waiting : List TRequest
  deriving DecidableEq, Inhabited
def e_TWant (x : TWant) : List C := [.str x.Name, .bool x.Exclusive]
def d_TWant (c : List C) : TWant := (⟨(cg c 0).toStr, (cg c 1).toBool⟩ : TWant)
theorem de_TWant (l : List TWant) : List.map d_TWant (List.map e_TWant l) = l := by
  rw [List.map_map]; refine (List.map_congr_left fun x _ => ?_).trans (List.map_id l)
  show d_TWant (e_TWant x) = x
  simp only [d_TWant, e_TWant, cg_zero, cg_succ, C.toBool_bool, C.toInt_int, C.toStr_str, C.toSl_slice]
theorem cg_TWant_0 (l : List TWant) (i : Nat) : (cg (eg (List.map e_TWant l) i) 0).toStr = (gt l i).Name := by
  rcases Nat.lt_or_ge i l.length with h | h
  · rw [eg_map _ _ _ h]; rfl
  · rw [eg_out _ _ _ h, gt_out _ _ h]; rfl
theorem cg_TWant_1 (l : List TWant) (i : Nat) : (cg (eg (List.map e_TWant l) i) 1).toBool = (gt l i).Exclusive := by
  rcases Nat.lt_or_ge i l.length with h | h
  · rw [eg_map _ _ _ h]; rfl
  · rw [eg_out _ _ _ h, gt_out _ _ h]; rfl
theorem ap_TWant (l : List TWant) (v0 : List UInt8) (v1 : Bool) : List.map e_TWant l ++ [[.str v0, .bool v1]] = List.map e_TWant (l ++ [(⟨v0, v1⟩ : TWant)]) := by simp [e_TWant]
def e_TRequest (x : TRequest) : List C := [.int x.Job, .slice (List.map e_TWant x.Wants)]
def d_TRequest (c : List C) : TRequest := (⟨(cg c 0).toInt, ((cg c 1).toSl.map d_TWant)⟩ : TRequest)
theorem de_TRequest (l : List TRequest) : List.map d_TRequest (List.map e_TRequest l) = l := by
  rw [List.map_map]; refine (List.map_congr_left fun x _ => ?_).trans (List.map_id l)
  show d_TRequest (e_TRequest x) = x
  simp only [d_TRequest, e_TRequest, cg_zero, cg_succ, C.toBool_bool, C.toInt_int, C.toStr_str, C.toSl_slice, de_TWant]
theorem cg_TRequest_0 (l : List TRequest) (i : Nat) : (cg (eg (List.map e_TRequest l) i) 0).toInt = (gt l i).Job := by
  rcases Nat.lt_or_ge i l.length with h | h
  · rw [eg_map _ _ _ h]; rfl
  · rw [eg_out _ _ _ h, gt_out _ _ h]; rfl
theorem cg_TRequest_1 (l : List TRequest) (i : Nat) : (cg (eg (List.map e_TRequest l) i) 1).toSl = List.map e_TWant ((gt l i).Wants) := by
  rcases Nat.lt_or_ge i l.length with h | h
  · rw [eg_map _ _ _ h]; rfl
  · rw [eg_out _ _ _ h, gt_out _ _ h]; rfl
theorem ap_TRequest (l : List TRequest) (v0 : Int) (v1 : List TWant) : List.map e_TRequest l ++ [[.int v0, .slice (List.map e_TWant v1)]] = List.map e_TRequest (l ++ [(⟨v0, v1⟩ : TRequest)]) := by simp [e_TRequest]
theorem ap_TRequest_1 (l : List TRequest) (v0 : Int) : List.map e_TRequest l ++ [[.int v0, .slice []]] = List.map e_TRequest (l ++ [(⟨v0, []⟩ : TRequest)]) := by simp [e_TRequest]
theorem zr_TRequest (n : Nat) : zreps n [.int 0, .slice []] = List.map e_TRequest (zreps n (⟨0, []⟩ : TRequest)) := zreps_map rfl
def e_Int (x : Int) : List C := [.int x]
def d_Int (c : List C) : Int := (cg c 0).toInt
theorem de_Int (l : List Int) : List.map d_Int (List.map e_Int l) = l := by
  rw [List.map_map]; refine (List.map_congr_left fun x _ => ?_).trans (List.map_id l)
  show d_Int (e_Int x) = x
  simp only [d_Int, e_Int, cg_zero, cg_succ, C.toBool_bool, C.toInt_int, C.toStr_str, C.toSl_slice]
theorem cg_Int_0 (l : List Int) (i : Nat) : (cg (eg (List.map e_Int l) i) 0).toInt = gt l i := by
  rcases Nat.lt_or_ge i l.length with h | h
  · rw [eg_map _ _ _ h]; rfl
  · rw [eg_out _ _ _ h, gt_out _ _ h]; rfl
theorem ap_Int (l : List Int) (v0 : Int) : List.map e_Int l ++ [[.int v0]] = List.map e_Int (l ++ [v0]) := by simp [e_Int]
def e_Bool (x : Bool) : List C := [.bool x]
def d_Bool (c : List C) : Bool := (cg c 0).toBool
theorem de_Bool (l : List Bool) : List.map d_Bool (List.map e_Bool l) = l := by
  rw [List.map_map]; refine (List.map_congr_left fun x _ => ?_).trans (List.map_id l)
  show d_Bool (e_Bool x) = x
  simp only [d_Bool, e_Bool, cg_zero, cg_succ, C.toBool_bool, C.toInt_int, C.toStr_str, C.toSl_slice]
theorem cg_Bool_0 (l : List Bool) (i : Nat) : (cg (eg (List.map e_Bool l) i) 0).toBool = gt l i := by
  rcases Nat.lt_or_ge i l.length with h | h
  · rw [eg_map _ _ _ h]; rfl
  · rw [eg_out _ _ _ h, gt_out _ _ h]; rfl
theorem ap_Bool (l : List Bool) (v0 : Bool) : List.map e_Bool l ++ [[.bool v0]] = List.map e_Bool (l ++ [v0]) := by simp [e_Bool]
def e_Str (x : List UInt8) : List C := [.str x]
def d_Str (c : List C) : List UInt8 := (cg c 0).toStr
theorem de_Str (l : List (List UInt8)) : List.map d_Str (List.map e_Str l) = l := by
  rw [List.map_map]; refine (List.map_congr_left fun x _ => ?_).trans (List.map_id l)
  show d_Str (e_Str x) = x
  simp only [d_Str, e_Str, cg_zero, cg_succ, C.toBool_bool, C.toInt_int, C.toStr_str, C.toSl_slice]
theorem cg_Str_0 (l : List (List UInt8)) (i : Nat) : (cg (eg (List.map e_Str l) i) 0).toStr = gt l i := by
  rcases Nat.lt_or_ge i l.length with h | h
  · rw [eg_map _ _ _ h]; rfl
  · rw [eg_out _ _ _ h, gt_out _ _ h]; rfl
theorem ap_Str (l : List (List UInt8)) (v0 : List UInt8) : List.map e_Str l ++ [[.str v0]] = List.map e_Str (l ++ [v0]) := by simp [e_Str]
theorem eta_TWant (x : TWant) : (⟨x.Name, x.Exclusive⟩ : TWant) = x := rfl
theorem eta_TRequest (x : TRequest) : (⟨x.Job, x.Wants⟩ : TRequest) = x := rfl
theorem eta_TTable (x : TTable) : (⟨x.Held, x.Waiting⟩ : TTable) = x := rfl
def em_Int_Bool (p : Int × Bool) : C × List C := (.int p.1, e_Bool p.2)
theorem mg_Int_Bool (k : Int) (m : List (Int × Bool)) : mget (.int .i64) (.int k) (List.map em_Int_Bool m) = (tget k m).map e_Bool := by
  induction m with
  | nil => rfl
  | cons p m ih =>
    simp only [List.map_cons, mget, mset, mdel, tget, tset, tdel, em_Int_Bool, keyEq, C.toStr_str, C.toInt_int] at ih ⊢
    split <;> simp_all
theorem ms_Int_Bool (k : Int) (m : List (Int × Bool)) (v : Bool) : mset (.int .i64) (.int k) (e_Bool v) (List.map em_Int_Bool m) = List.map em_Int_Bool (tset k v m) := by
  induction m with
  | nil => rfl
  | cons p m ih =>
    simp only [List.map_cons, mget, mset, mdel, tget, tset, tdel, em_Int_Bool, keyEq, C.toStr_str, C.toInt_int] at ih ⊢
    split <;> simp_all [em_Int_Bool]
theorem md_Int_Bool (k : Int) (m : List (Int × Bool)) : mdel (.int .i64) (.int k) (List.map em_Int_Bool m) = List.map em_Int_Bool (tdel k m) := by
  induction m with
  | nil => rfl
  | cons p m ih =>
    simp only [List.map_cons, mget, mset, mdel, tget, tset, tdel, em_Int_Bool, keyEq, C.toStr_str, C.toInt_int] at ih ⊢
    split <;> simp_all [em_Int_Bool]
theorem mk_Int_Bool (p : Int × Bool) : (em_Int_Bool p).1 = .int p.1 := rfl
theorem mv_Int_Bool_0 (p : Int × Bool) : (cg (em_Int_Bool p).2 0).toBool = p.2 := rfl
theorem ms1_Int_Bool (k : Int) (m : List (Int × Bool)) (v0 : Bool) : mset (.int .i64) (.int k) [.bool v0] (List.map em_Int_Bool m) = List.map em_Int_Bool (tset k v0 m) := ms_Int_Bool k m v0
theorem mc_Int_Bool_0 (o : Option Bool) : (cg ((o.map e_Bool).getD [.bool false]) 0).toBool = (o.getD default) := by cases o <;> rfl
theorem mi_Int_Bool (o : Option Bool) : (o.map e_Bool).isSome = o.isSome := by cases o <;> rfl
def em_Str_Bool (p : (List UInt8) × Bool) : C × List C := (.str p.1, e_Bool p.2)
theorem mg_Str_Bool (k : List UInt8) (m : List ((List UInt8) × Bool)) : mget .str (.str k) (List.map em_Str_Bool m) = (tget k m).map e_Bool := by
  induction m with
  | nil => rfl
  | cons p m ih =>
    simp only [List.map_cons, mget, mset, mdel, tget, tset, tdel, em_Str_Bool, keyEq, C.toStr_str, C.toInt_int] at ih ⊢
    split <;> simp_all
theorem ms_Str_Bool (k : List UInt8) (m : List ((List UInt8) × Bool)) (v : Bool) : mset .str (.str k) (e_Bool v) (List.map em_Str_Bool m) = List.map em_Str_Bool (tset k v m) := by
  induction m with
  | nil => rfl
  | cons p m ih =>
    simp only [List.map_cons, mget, mset, mdel, tget, tset, tdel, em_Str_Bool, keyEq, C.toStr_str, C.toInt_int] at ih ⊢
    split <;> simp_all [em_Str_Bool]
theorem md_Str_Bool (k : List UInt8) (m : List ((List UInt8) × Bool)) : mdel .str (.str k) (List.map em_Str_Bool m) = List.map em_Str_Bool (tdel k m) := by
  induction m with
  | nil => rfl
  | cons p m ih =>
    simp only [List.map_cons, mget, mset, mdel, tget, tset, tdel, em_Str_Bool, keyEq, C.toStr_str, C.toInt_int] at ih ⊢
    split <;> simp_all [em_Str_Bool]
theorem mk_Str_Bool (p : (List UInt8) × Bool) : (em_Str_Bool p).1 = .str p.1 := rfl
theorem mv_Str_Bool_0 (p : (List UInt8) × Bool) : (cg (em_Str_Bool p).2 0).toBool = p.2 := rfl
theorem ms1_Str_Bool (k : List UInt8) (m : List ((List UInt8) × Bool)) (v0 : Bool) : mset .str (.str k) [.bool v0] (List.map em_Str_Bool m) = List.map em_Str_Bool (tset k v0 m) := ms_Str_Bool k m v0
theorem mc_Str_Bool_0 (o : Option Bool) : (cg ((o.map e_Bool).getD [.bool false]) 0).toBool = (o.getD default) := by cases o <;> rfl
theorem mi_Str_Bool (o : Option Bool) : (o.map e_Bool).isSome = o.isSome := by cases o <;> rfl
theorem tl : type_of% (And.intro (And.intro (And.intro (And.intro (And.intro @de_TWant @e_TWant.eq_1) (And.intro @d_TWant.eq_1 (And.intro @cg_TWant_0 @cg_TWant_1))) (And.intro (And.intro @ap_TWant (And.intro @de_TRequest @e_TRequest.eq_1)) (And.intro @d_TRequest.eq_1 (And.intro @cg_TRequest_0 @cg_TRequest_1)))) (And.intro (And.intro (And.intro @ap_TRequest (And.intro @ap_TRequest_1 @zr_TRequest)) (And.intro @de_Int (And.intro @e_Int.eq_1 @d_Int.eq_1))) (And.intro (And.intro @cg_Int_0 (And.intro @ap_Int @de_Bool)) (And.intro @e_Bool.eq_1 (And.intro @d_Bool.eq_1 @cg_Bool_0))))) (And.intro (And.intro (And.intro (And.intro @ap_Bool @de_Str) (And.intro @e_Str.eq_1 (And.intro @d_Str.eq_1 @cg_Str_0))) (And.intro (And.intro @ap_Str (And.intro @eta_TWant @eta_TRequest)) (And.intro @eta_TTable (And.intro @mg_Int_Bool @md_Int_Bool)))) (And.intro (And.intro (And.intro @mk_Int_Bool (And.intro @mv_Int_Bool_0 @ms1_Int_Bool)) (And.intro @mc_Int_Bool_0 (And.intro @mi_Int_Bool @mg_Str_Bool))) (And.intro (And.intro @md_Str_Bool (And.intro @mk_Str_Bool @mv_Str_Bool_0)) (And.intro @ms1_Str_Bool (And.intro @mc_Str_Bool_0 @mi_Str_Bool)))))) := (And.intro (And.intro (And.intro (And.intro (And.intro @de_TWant @e_TWant.eq_1) (And.intro @d_TWant.eq_1 (And.intro @cg_TWant_0 @cg_TWant_1))) (And.intro (And.intro @ap_TWant (And.intro @de_TRequest @e_TRequest.eq_1)) (And.intro @d_TRequest.eq_1 (And.intro @cg_TRequest_0 @cg_TRequest_1)))) (And.intro (And.intro (And.intro @ap_TRequest (And.intro @ap_TRequest_1 @zr_TRequest)) (And.intro @de_Int (And.intro @e_Int.eq_1 @d_Int.eq_1))) (And.intro (And.intro @cg_Int_0 (And.intro @ap_Int @de_Bool)) (And.intro @e_Bool.eq_1 (And.intro @d_Bool.eq_1 @cg_Bool_0))))) (And.intro (And.intro (And.intro (And.intro @ap_Bool @de_Str) (And.intro @e_Str.eq_1 (And.intro @d_Str.eq_1 @cg_Str_0))) (And.intro (And.intro @ap_Str (And.intro @eta_TWant @eta_TRequest)) (And.intro @eta_TTable (And.intro @mg_Int_Bool @md_Int_Bool)))) (And.intro (And.intro (And.intro @mk_Int_Bool (And.intro @mv_Int_Bool_0 @ms1_Int_Bool)) (And.intro @mc_Int_Bool_0 (And.intro @mi_Int_Bool @mg_Str_Bool))) (And.intro (And.intro @md_Str_Bool (And.intro @mk_Str_Bool @mv_Str_Bool_0)) (And.intro @ms1_Str_Bool (And.intro @mc_Str_Bool_0 @mi_Str_Bool))))))
theorem z : type_of% (And.intro (And.intro ev ew) (And.intro tys tl)) := (And.intro (And.intro ev ew) (And.intro tys tl))
end Go.Proofs.Ytcdofkflbnpjjaa
