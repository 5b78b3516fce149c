/- Text. -/
import Derived.Test.YtcdofkflbnpjjaaAE19
import Derived.Test.YtcdofkflbnpjjaaAE41
import Derived.Test.YtcdofkflbnpjjaaAE63
import Derived.Test.YtcdofkflbnpjjaaAE28
import Derived.Test.YtcdofkflbnpjjaaRows
set_option maxHeartbeats 8000000
set_option linter.unusedVariables false
set_option linter.unusedSimpArgs false
set_option maxRecDepth 100000
namespace Go.Proofs.Ytcdofkflbnpjjaa
open Go.AE
theorem h00:tyI Try.prog 0=none:=by kernel_rfl
theorem mixed:Try.prog.follows .mixedOrders=true:=by kernel_rfl
theorem un3:Try.prog.underlying 3=some (.int .i64):=by kernel_rfl
theorem un5:Try.prog.underlying 5=some (.int .u8):=by kernel_rfl
theorem un128:Try.prog.underlying 128=some (.int .u64):=by kernel_rfl
theorem un154:Try.prog.underlying 154=some (.int .u64):=by kernel_rfl
theorem ty3:tyI Try.prog 3=some ⟨[.int .i64],false,[],0,8⟩:=by kernel_rfl
theorem ty4:tyI Try.prog 4=some ⟨[.bool],false,[],0,1⟩:=by kernel_rfl
theorem ty5:tyI Try.prog 5=some ⟨[.int .u8],false,[],0,1⟩:=by kernel_rfl
theorem ty9:tyI Try.prog 9=some ⟨[.str],false,[],0,16⟩:=by kernel_rfl
theorem str9:isStrT Try.prog 9=true:=by kernel_rfl
theorem ty22:tyI Try.prog 22=some ⟨[.slice 61],false,[],61,24⟩:=by kernel_rfl
theorem sl22:slE Try.prog 22=some (61,⟨[.int .i64,.slice 92],true,[(0,3),(1,43)],0,32⟩):=by kernel_rfl
theorem ty24:tyI Try.prog 24=some ⟨[.slice 61,.slice 61],true,[(0,22),(1,22)],0,48⟩:=by kernel_rfl
theorem ty31:tyI Try.prog 31=some ⟨[.slice 3],false,[],3,24⟩:=by kernel_rfl
theorem sl31:slE Try.prog 31=some (3,⟨[.int .i64],false,[],0,8⟩):=by kernel_rfl
theorem ty32:tyI Try.prog 32=some ⟨[.int .i64],false,[],0,8⟩:=by kernel_rfl
theorem ty43:tyI Try.prog 43=some ⟨[.slice 92],false,[],92,24⟩:=by kernel_rfl
theorem sl43:slE Try.prog 43=some (92,⟨[.str,.bool],true,[(0,9),(1,4)],0,24⟩):=by kernel_rfl
theorem ty59:tyI Try.prog 59=some ⟨[.slice 4],false,[],4,24⟩:=by kernel_rfl
theorem sl59:slE Try.prog 59=some (4,⟨[.bool],false,[],0,1⟩):=by kernel_rfl
theorem ty61:tyI Try.prog 61=some ⟨[.int .i64,.slice 92],true,[(0,3),(1,43)],0,32⟩:=by kernel_rfl
theorem ty65:tyI Try.prog 65=some ⟨[.slice 77],false,[],77,24⟩:=by kernel_rfl
theorem sl65:slE Try.prog 65=some (77,⟨[.int .i64,.int .i64,.str,.int .i64,.int .i64],true,[(0,3),(1,3),(2,9),(3,3),(4,3)],0,48⟩):=by kernel_rfl
theorem ty66:tyI Try.prog 66=some ⟨[.slice 69],false,[],69,24⟩:=by kernel_rfl
theorem sl66:slE Try.prog 66=some (69,⟨[.int .i64,.str],true,[(0,3),(1,9)],0,24⟩):=by kernel_rfl
theorem ty67:tyI Try.prog 67=some ⟨[.slice 70],false,[],70,24⟩:=by kernel_rfl
theorem sl67:slE Try.prog 67=some (70,⟨[.int .i64,.str],true,[(0,3),(1,9)],0,24⟩):=by kernel_rfl
theorem ty69:tyI Try.prog 69=some ⟨[.int .i64,.str],true,[(0,3),(1,9)],0,24⟩:=by kernel_rfl
theorem eq69:eqT Try.prog 69=true:=by kernel_rfl
theorem ty70:tyI Try.prog 70=some ⟨[.int .i64,.str],true,[(0,3),(1,9)],0,24⟩:=by kernel_rfl
theorem eq70:eqT Try.prog 70=true:=by kernel_rfl
theorem ty77:tyI Try.prog 77=some ⟨[.int .i64,.int .i64,.str,.int .i64,.int .i64],true,[(0,3),(1,3),(2,9),(3,3),(4,3)],0,48⟩:=by kernel_rfl
theorem eq77:eqT Try.prog 77=true:=by kernel_rfl
theorem ty92:tyI Try.prog 92=some ⟨[.str,.bool],true,[(0,9),(1,4)],0,24⟩:=by kernel_rfl
theorem eq92:eqT Try.prog 92=true:=by kernel_rfl
theorem ty96:tyI Try.prog 96=some ⟨[.other],false,[],0,8⟩:=by kernel_rfl
theorem mp96:mapE Try.prog 96=some ((.int .i64),4,⟨[.bool],false,[],0,1⟩):=by kernel_rfl
theorem ty99:tyI Try.prog 99=some ⟨[.other],false,[],0,8⟩:=by kernel_rfl
theorem mp99:mapE Try.prog 99=some ((.int .i64),69,⟨[.int .i64,.str],true,[(0,3),(1,9)],0,24⟩):=by kernel_rfl
theorem ty101:tyI Try.prog 101=some ⟨[.slice 77,.slice 3,.other],true,[(0,65),(1,31),(2,99)],0,56⟩:=by kernel_rfl
theorem ty120:tyI Try.prog 120=some ⟨[.other],false,[],0,8⟩:=by kernel_rfl
theorem mp120:mapE Try.prog 120=some (.str,4,⟨[.bool],false,[],0,1⟩):=by kernel_rfl
theorem ty128:tyI Try.prog 128=some ⟨[.int .u64],false,[],0,8⟩:=by kernel_rfl
theorem ty137:tyI Try.prog 137=some ⟨[.int .i64],false,[],0,8⟩:=by kernel_rfl
theorem ty146:tyI Try.prog 146=some ⟨[.int .u64],false,[],0,8⟩:=by kernel_rfl
theorem ty154:tyI Try.prog 154=some ⟨[.int .u64],false,[],0,8⟩:=by kernel_rfl
theorem tys:type_of% (And.intro (And.intro (And.intro (And.intro (And.intro @un3 @un5) (And.intro @un128 (And.intro @un154 @ty3))) (And.intro (And.intro @ty4 (And.intro @ty5 @ty9)) (And.intro @str9 (And.intro @ty22 @sl22)))) (And.intro (And.intro (And.intro @ty24 @ty31) (And.intro @sl31 (And.intro @ty32 @ty43))) (And.intro (And.intro @sl43 (And.intro @ty59 @sl59)) (And.intro @ty61 (And.intro @ty65 @sl65))))) (And.intro (And.intro (And.intro (And.intro @ty66 @sl66) (And.intro @ty67 (And.intro @sl67 @ty69))) (And.intro (And.intro @eq69 (And.intro @ty70 @eq70)) (And.intro @ty77 (And.intro @eq77 @ty92)))) (And.intro (And.intro (And.intro @eq92 (And.intro @ty96 @mp96)) (And.intro @ty99 (And.intro @mp99 @ty101))) (And.intro (And.intro @ty120 (And.intro @mp120 @ty128)) (And.intro @ty137 (And.intro @ty146 @ty154)))))):=(And.intro (And.intro (And.intro (And.intro (And.intro @un3 @un5) (And.intro @un128 (And.intro @un154 @ty3))) (And.intro (And.intro @ty4 (And.intro @ty5 @ty9)) (And.intro @str9 (And.intro @ty22 @sl22)))) (And.intro (And.intro (And.intro @ty24 @ty31) (And.intro @sl31 (And.intro @ty32 @ty43))) (And.intro (And.intro @sl43 (And.intro @ty59 @sl59)) (And.intro @ty61 (And.intro @ty65 @sl65))))) (And.intro (And.intro (And.intro (And.intro @ty66 @sl66) (And.intro @ty67 (And.intro @sl67 @ty69))) (And.intro (And.intro @eq69 (And.intro @ty70 @eq70)) (And.intro @ty77 (And.intro @eq77 @ty92)))) (And.intro (And.intro (And.intro @eq92 (And.intro @ty96 @mp96)) (And.intro @ty99 (And.intro @mp99 @ty101))) (And.intro (And.intro @ty120 (And.intro @mp120 @ty128)) (And.intro @ty137 (And.intro @ty146 @ty154))))))
structure TUnitConf where
  Addr:Int
  Kind:Int
  Serial:List UInt8
  Cyls:Int
  Heads:Int
  deriving DecidableEq,Inhabited
structure TNeed where
  Kind:Int
  Serial:List UInt8
  deriving DecidableEq,Inhabited
structure TWant where
  Name:List UInt8
  Exclusive:Bool
  deriving DecidableEq,Inhabited
structure TRequest where
  Job:Int
  Wants:List TWant
  deriving DecidableEq,Inhabited
structure TTable where
  Held:List TRequest
  Waiting:List TRequest
  deriving DecidableEq,Inhabited
structure Tpool where
  units_:List TUnitConf
  busy_:List Int
  given_:List (Int×TNeed)
  deriving DecidableEq,Inhabited
def e_TUnitConf (x:TUnitConf):List C:=[.int x.Addr,.int x.Kind,.str x.Serial,.int x.Cyls,.int x.Heads]
def d_TUnitConf (c:List C):TUnitConf:=(⟨(cg c 0).toInt,(cg c 1).toInt,(cg c 2).toStr,(cg c 3).toInt,(cg c 4).toInt⟩:TUnitConf)
theorem de_TUnitConf (l:List TUnitConf):List.map d_TUnitConf (List.map e_TUnitConf l)=l:=by
  rw [List.map_map];refine (List.map_congr_left fun x _=>?_).trans (List.map_id l)
  show d_TUnitConf (e_TUnitConf x)=x
  simp only [d_TUnitConf,e_TUnitConf,cg_zero,cg_succ,C.toBool_bool,C.toInt_int,C.toStr_str,C.toSl_slice]
theorem cg_TUnitConf_0 (l:List TUnitConf) (i:Nat):(cg (eg (List.map e_TUnitConf l) i) 0).toInt=(gt l i).Addr:=by
  rcases Nat.lt_or_ge i l.length with h | h
  · rw [eg_map _ _ _ h];rfl
  · rw [eg_out _ _ _ h,gt_out _ _ h];rfl
theorem cg_TUnitConf_1 (l:List TUnitConf) (i:Nat):(cg (eg (List.map e_TUnitConf l) i) 1).toInt=(gt l i).Kind:=by
  rcases Nat.lt_or_ge i l.length with h | h
  · rw [eg_map _ _ _ h];rfl
  · rw [eg_out _ _ _ h,gt_out _ _ h];rfl
theorem cg_TUnitConf_2 (l:List TUnitConf) (i:Nat):(cg (eg (List.map e_TUnitConf l) i) 2).toStr=(gt l i).Serial:=by
  rcases Nat.lt_or_ge i l.length with h | h
  · rw [eg_map _ _ _ h];rfl
  · rw [eg_out _ _ _ h,gt_out _ _ h];rfl
theorem cg_TUnitConf_3 (l:List TUnitConf) (i:Nat):(cg (eg (List.map e_TUnitConf l) i) 3).toInt=(gt l i).Cyls:=by
  rcases Nat.lt_or_ge i l.length with h | h
  · rw [eg_map _ _ _ h];rfl
  · rw [eg_out _ _ _ h,gt_out _ _ h];rfl
theorem cg_TUnitConf_4 (l:List TUnitConf) (i:Nat):(cg (eg (List.map e_TUnitConf l) i) 4).toInt=(gt l i).Heads:=by
  rcases Nat.lt_or_ge i l.length with h | h
  · rw [eg_map _ _ _ h];rfl
  · rw [eg_out _ _ _ h,gt_out _ _ h];rfl
theorem ap_TUnitConf (l:List TUnitConf) (v0:Int) (v1:Int) (v2:List UInt8) (v3:Int) (v4:Int):List.map e_TUnitConf l ++ [[.int v0,.int v1,.str v2,.int v3,.int v4]]=List.map e_TUnitConf (l ++ [(⟨v0,v1,v2,v3,v4⟩:TUnitConf)]):=by simp [e_TUnitConf]
theorem set_TUnitConf_0_5 (l:List TUnitConf) (i:Nat) (v0:Int) (v1:Int) (v2:List UInt8) (v3:Int) (v4:Int):(List.map e_TUnitConf l).set i (spliceR (eg (List.map e_TUnitConf l) i) 0 [.int v0,.int v1,.str v2,.int v3,.int v4])=List.map e_TUnitConf (l.set i (⟨v0,v1,v2,v3,v4⟩:TUnitConf)):=by
  refine set_map_of _ _ _ _ fun h=>?_
  rw [eg_map _ _ _ h];rfl
def e_Int (x:Int):List C:=[.int x]
def d_Int (c:List C):Int:=(cg c 0).toInt
theorem de_Int (l:List Int):List.map d_Int (List.map e_Int l)=l:=by
  rw [List.map_map];refine (List.map_congr_left fun x _=>?_).trans (List.map_id l)
  show d_Int (e_Int x)=x
  simp only [d_Int,e_Int,cg_zero,cg_succ,C.toBool_bool,C.toInt_int,C.toStr_str,C.toSl_slice]
theorem cg_Int_0 (l:List Int) (i:Nat):(cg (eg (List.map e_Int l) i) 0).toInt=gt l i:=by
  rcases Nat.lt_or_ge i l.length with h | h
  · rw [eg_map _ _ _ h];rfl
  · rw [eg_out _ _ _ h,gt_out _ _ h];rfl
theorem ap_Int (l:List Int) (v0:Int):List.map e_Int l ++ [[.int v0]]=List.map e_Int (l ++ [v0]):=by simp [e_Int]
theorem set_Int_0_1 (l:List Int) (i:Nat) (v0:Int):(List.map e_Int l).set i (spliceR (eg (List.map e_Int l) i) 0 [.int v0])=List.map e_Int (l.set i v0):=by
  refine set_map_of _ _ _ _ fun h=>?_
  rw [eg_map _ _ _ h];rfl
theorem zr_Int (n:Nat):zreps n [.int 0]=List.map e_Int (zreps n 0):=zreps_map rfl
def e_TNeed (x:TNeed):List C:=[.int x.Kind,.str x.Serial]
def d_TNeed (c:List C):TNeed:=(⟨(cg c 0).toInt,(cg c 1).toStr⟩:TNeed)
theorem de_TNeed (l:List TNeed):List.map d_TNeed (List.map e_TNeed l)=l:=by
  rw [List.map_map];refine (List.map_congr_left fun x _=>?_).trans (List.map_id l)
  show d_TNeed (e_TNeed x)=x
  simp only [d_TNeed,e_TNeed,cg_zero,cg_succ,C.toBool_bool,C.toInt_int,C.toStr_str,C.toSl_slice]
theorem cg_TNeed_0 (l:List TNeed) (i:Nat):(cg (eg (List.map e_TNeed l) i) 0).toInt=(gt l i).Kind:=by
  rcases Nat.lt_or_ge i l.length with h | h
  · rw [eg_map _ _ _ h];rfl
  · rw [eg_out _ _ _ h,gt_out _ _ h];rfl
theorem cg_TNeed_1 (l:List TNeed) (i:Nat):(cg (eg (List.map e_TNeed l) i) 1).toStr=(gt l i).Serial:=by
  rcases Nat.lt_or_ge i l.length with h | h
  · rw [eg_map _ _ _ h];rfl
  · rw [eg_out _ _ _ h,gt_out _ _ h];rfl
theorem ap_TNeed (l:List TNeed) (v0:Int) (v1:List UInt8):List.map e_TNeed l ++ [[.int v0,.str v1]]=List.map e_TNeed (l ++ [(⟨v0,v1⟩:TNeed)]):=by simp [e_TNeed]
def e_TWant (x:TWant):List C:=[.str x.Name,.bool x.Exclusive]
def d_TWant (c:List C):TWant:=(⟨(cg c 0).toStr,(cg c 1).toBool⟩:TWant)
theorem de_TWant (l:List TWant):List.map d_TWant (List.map e_TWant l)=l:=by
  rw [List.map_map];refine (List.map_congr_left fun x _=>?_).trans (List.map_id l)
  show d_TWant (e_TWant x)=x
  simp only [d_TWant,e_TWant,cg_zero,cg_succ,C.toBool_bool,C.toInt_int,C.toStr_str,C.toSl_slice]
theorem cg_TWant_0 (l:List TWant) (i:Nat):(cg (eg (List.map e_TWant l) i) 0).toStr=(gt l i).Name:=by
  rcases Nat.lt_or_ge i l.length with h | h
  · rw [eg_map _ _ _ h];rfl
  · rw [eg_out _ _ _ h,gt_out _ _ h];rfl
theorem cg_TWant_1 (l:List TWant) (i:Nat):(cg (eg (List.map e_TWant l) i) 1).toBool=(gt l i).Exclusive:=by
  rcases Nat.lt_or_ge i l.length with h | h
  · rw [eg_map _ _ _ h];rfl
  · rw [eg_out _ _ _ h,gt_out _ _ h];rfl
theorem ap_TWant (l:List TWant) (v0:List UInt8) (v1:Bool):List.map e_TWant l ++ [[.str v0,.bool v1]]=List.map e_TWant (l ++ [(⟨v0,v1⟩:TWant)]):=by simp [e_TWant]
def e_TRequest (x:TRequest):List C:=[.int x.Job,.slice (List.map e_TWant x.Wants)]
def d_TRequest (c:List C):TRequest:=(⟨(cg c 0).toInt,((cg c 1).toSl.map d_TWant)⟩:TRequest)
theorem de_TRequest (l:List TRequest):List.map d_TRequest (List.map e_TRequest l)=l:=by
  rw [List.map_map];refine (List.map_congr_left fun x _=>?_).trans (List.map_id l)
  show d_TRequest (e_TRequest x)=x
  simp only [d_TRequest,e_TRequest,cg_zero,cg_succ,C.toBool_bool,C.toInt_int,C.toStr_str,C.toSl_slice,de_TWant]
theorem cg_TRequest_0 (l:List TRequest) (i:Nat):(cg (eg (List.map e_TRequest l) i) 0).toInt=(gt l i).Job:=by
  rcases Nat.lt_or_ge i l.length with h | h
  · rw [eg_map _ _ _ h];rfl
  · rw [eg_out _ _ _ h,gt_out _ _ h];rfl
theorem cg_TRequest_1 (l:List TRequest) (i:Nat):(cg (eg (List.map e_TRequest l) i) 1).toSl=List.map e_TWant ((gt l i).Wants):=by
  rcases Nat.lt_or_ge i l.length with h | h
  · rw [eg_map _ _ _ h];rfl
  · rw [eg_out _ _ _ h,gt_out _ _ h];rfl
theorem ap_TRequest (l:List TRequest) (v0:Int) (v1:List TWant):List.map e_TRequest l ++ [[.int v0,.slice (List.map e_TWant v1)]]=List.map e_TRequest (l ++ [(⟨v0,v1⟩:TRequest)]):=by simp [e_TRequest]
theorem ap_TRequest_1 (l:List TRequest) (v0:Int):List.map e_TRequest l ++ [[.int v0,.slice []]]=List.map e_TRequest (l ++ [(⟨v0,[]⟩:TRequest)]):=by simp [e_TRequest]
theorem zr_TRequest (n:Nat):zreps n [.int 0,.slice []]=List.map e_TRequest (zreps n (⟨0,[]⟩:TRequest)):=zreps_map rfl
def e_Bool (x:Bool):List C:=[.bool x]
def d_Bool (c:List C):Bool:=(cg c 0).toBool
theorem de_Bool (l:List Bool):List.map d_Bool (List.map e_Bool l)=l:=by
  rw [List.map_map];refine (List.map_congr_left fun x _=>?_).trans (List.map_id l)
  show d_Bool (e_Bool x)=x
  simp only [d_Bool,e_Bool,cg_zero,cg_succ,C.toBool_bool,C.toInt_int,C.toStr_str,C.toSl_slice]
theorem cg_Bool_0 (l:List Bool) (i:Nat):(cg (eg (List.map e_Bool l) i) 0).toBool=gt l i:=by
  rcases Nat.lt_or_ge i l.length with h | h
  · rw [eg_map _ _ _ h];rfl
  · rw [eg_out _ _ _ h,gt_out _ _ h];rfl
theorem ap_Bool (l:List Bool) (v0:Bool):List.map e_Bool l ++ [[.bool v0]]=List.map e_Bool (l ++ [v0]):=by simp [e_Bool]
theorem set_Bool_0_1 (l:List Bool) (i:Nat) (v0:Bool):(List.map e_Bool l).set i (spliceR (eg (List.map e_Bool l) i) 0 [.bool v0])=List.map e_Bool (l.set i v0):=by
  refine set_map_of _ _ _ _ fun h=>?_
  rw [eg_map _ _ _ h];rfl
theorem zr_Bool (n:Nat):zreps n [.bool false]=List.map e_Bool (zreps n false):=zreps_map rfl
def e_Str (x:List UInt8):List C:=[.str x]
def d_Str (c:List C):List UInt8:=(cg c 0).toStr
theorem de_Str (l:List (List UInt8)):List.map d_Str (List.map e_Str l)=l:=by
  rw [List.map_map];refine (List.map_congr_left fun x _=>?_).trans (List.map_id l)
  show d_Str (e_Str x)=x
  simp only [d_Str,e_Str,cg_zero,cg_succ,C.toBool_bool,C.toInt_int,C.toStr_str,C.toSl_slice]
theorem cg_Str_0 (l:List (List UInt8)) (i:Nat):(cg (eg (List.map e_Str l) i) 0).toStr=gt l i:=by
  rcases Nat.lt_or_ge i l.length with h | h
  · rw [eg_map _ _ _ h];rfl
  · rw [eg_out _ _ _ h,gt_out _ _ h];rfl
theorem ap_Str (l:List (List UInt8)) (v0:List UInt8):List.map e_Str l ++ [[.str v0]]=List.map e_Str (l ++ [v0]):=by simp [e_Str]
theorem eta_TUnitConf (x:TUnitConf):(⟨x.Addr,x.Kind,x.Serial,x.Cyls,x.Heads⟩:TUnitConf)=x:=rfl
theorem eta_TNeed (x:TNeed):(⟨x.Kind,x.Serial⟩:TNeed)=x:=rfl
theorem eta_TWant (x:TWant):(⟨x.Name,x.Exclusive⟩:TWant)=x:=rfl
theorem eta_TRequest (x:TRequest):(⟨x.Job,x.Wants⟩:TRequest)=x:=rfl
theorem eta_TTable (x:TTable):(⟨x.Held,x.Waiting⟩:TTable)=x:=rfl
theorem eta_Tpool (x:Tpool):(⟨x.units_,x.busy_,x.given_⟩:Tpool)=x:=rfl
def em_Int_Bool (p:Int×Bool):C×List C:=(.int p.1,e_Bool p.2)
theorem mg_Int_Bool (k:Int) (m:List (Int×Bool)):mget (.int .i64) (.int k) (List.map em_Int_Bool m)=(tget k m).map e_Bool:=by
  induction m with
  | nil=>rfl
  | cons p m ih =>
    simp only [List.map_cons,mget,mset,mdel,tget,tset,tdel,em_Int_Bool,keyEq,C.toStr_str,C.toInt_int] at ih ⊢
    split <;> simp_all
theorem ms_Int_Bool (k:Int) (m:List (Int×Bool)) (v:Bool):mset (.int .i64) (.int k) (e_Bool v) (List.map em_Int_Bool m)=List.map em_Int_Bool (tset k v m):=by
  induction m with
  | nil=>rfl
  | cons p m ih =>
    simp only [List.map_cons,mget,mset,mdel,tget,tset,tdel,em_Int_Bool,keyEq,C.toStr_str,C.toInt_int] at ih ⊢
    split <;> simp_all [em_Int_Bool]
theorem md_Int_Bool (k:Int) (m:List (Int×Bool)):mdel (.int .i64) (.int k) (List.map em_Int_Bool m)=List.map em_Int_Bool (tdel k m):=by
  induction m with
  | nil=>rfl
  | cons p m ih =>
    simp only [List.map_cons,mget,mset,mdel,tget,tset,tdel,em_Int_Bool,keyEq,C.toStr_str,C.toInt_int] at ih ⊢
    split <;> simp_all [em_Int_Bool]
theorem mk_Int_Bool (p:Int×Bool):(em_Int_Bool p).1 = .int p.1:=rfl
theorem mv_Int_Bool_0 (p:Int×Bool):(cg (em_Int_Bool p).2 0).toBool=p.2:=rfl
theorem ms1_Int_Bool (k:Int) (m:List (Int×Bool)) (v0:Bool):mset (.int .i64) (.int k) [.bool v0] (List.map em_Int_Bool m)=List.map em_Int_Bool (tset k v0 m):=ms_Int_Bool k m v0
theorem mc_Int_Bool_0 (o:Option Bool):(cg ((o.map e_Bool).getD [.bool false]) 0).toBool=(o.getD default):=by cases o <;> rfl
theorem mi_Int_Bool (o:Option Bool):(o.map e_Bool).isSome=o.isSome:=by cases o <;> rfl
def em_Str_Bool (p:(List UInt8)×Bool):C×List C:=(.str p.1,e_Bool p.2)
theorem mg_Str_Bool (k:List UInt8) (m:List ((List UInt8)×Bool)):mget .str (.str k) (List.map em_Str_Bool m)=(tget k m).map e_Bool:=by
  induction m with
  | nil=>rfl
  | cons p m ih =>
    simp only [List.map_cons,mget,mset,mdel,tget,tset,tdel,em_Str_Bool,keyEq,C.toStr_str,C.toInt_int] at ih ⊢
    split <;> simp_all
theorem ms_Str_Bool (k:List UInt8) (m:List ((List UInt8)×Bool)) (v:Bool):mset .str (.str k) (e_Bool v) (List.map em_Str_Bool m)=List.map em_Str_Bool (tset k v m):=by
  induction m with
  | nil=>rfl
  | cons p m ih =>
    simp only [List.map_cons,mget,mset,mdel,tget,tset,tdel,em_Str_Bool,keyEq,C.toStr_str,C.toInt_int] at ih ⊢
    split <;> simp_all [em_Str_Bool]
theorem md_Str_Bool (k:List UInt8) (m:List ((List UInt8)×Bool)):mdel .str (.str k) (List.map em_Str_Bool m)=List.map em_Str_Bool (tdel k m):=by
  induction m with
  | nil=>rfl
  | cons p m ih =>
    simp only [List.map_cons,mget,mset,mdel,tget,tset,tdel,em_Str_Bool,keyEq,C.toStr_str,C.toInt_int] at ih ⊢
    split <;> simp_all [em_Str_Bool]
theorem mk_Str_Bool (p:(List UInt8)×Bool):(em_Str_Bool p).1 = .str p.1:=rfl
theorem mv_Str_Bool_0 (p:(List UInt8)×Bool):(cg (em_Str_Bool p).2 0).toBool=p.2:=rfl
theorem ms1_Str_Bool (k:List UInt8) (m:List ((List UInt8)×Bool)) (v0:Bool):mset .str (.str k) [.bool v0] (List.map em_Str_Bool m)=List.map em_Str_Bool (tset k v0 m):=ms_Str_Bool k m v0
theorem mc_Str_Bool_0 (o:Option Bool):(cg ((o.map e_Bool).getD [.bool false]) 0).toBool=(o.getD default):=by cases o <;> rfl
theorem mi_Str_Bool (o:Option Bool):(o.map e_Bool).isSome=o.isSome:=by cases o <;> rfl
def em_Int_TNeed (p:Int×TNeed):C×List C:=(.int p.1,e_TNeed p.2)
theorem mg_Int_TNeed (k:Int) (m:List (Int×TNeed)):mget (.int .i64) (.int k) (List.map em_Int_TNeed m)=(tget k m).map e_TNeed:=by
  induction m with
  | nil=>rfl
  | cons p m ih =>
    simp only [List.map_cons,mget,mset,mdel,tget,tset,tdel,em_Int_TNeed,keyEq,C.toStr_str,C.toInt_int] at ih ⊢
    split <;> simp_all
theorem ms_Int_TNeed (k:Int) (m:List (Int×TNeed)) (v:TNeed):mset (.int .i64) (.int k) (e_TNeed v) (List.map em_Int_TNeed m)=List.map em_Int_TNeed (tset k v m):=by
  induction m with
  | nil=>rfl
  | cons p m ih =>
    simp only [List.map_cons,mget,mset,mdel,tget,tset,tdel,em_Int_TNeed,keyEq,C.toStr_str,C.toInt_int] at ih ⊢
    split <;> simp_all [em_Int_TNeed]
theorem md_Int_TNeed (k:Int) (m:List (Int×TNeed)):mdel (.int .i64) (.int k) (List.map em_Int_TNeed m)=List.map em_Int_TNeed (tdel k m):=by
  induction m with
  | nil=>rfl
  | cons p m ih =>
    simp only [List.map_cons,mget,mset,mdel,tget,tset,tdel,em_Int_TNeed,keyEq,C.toStr_str,C.toInt_int] at ih ⊢
    split <;> simp_all [em_Int_TNeed]
theorem mk_Int_TNeed (p:Int×TNeed):(em_Int_TNeed p).1 = .int p.1:=rfl
theorem mv_Int_TNeed_0 (p:Int×TNeed):(cg (em_Int_TNeed p).2 0).toInt=p.2.Kind:=rfl
theorem mv_Int_TNeed_1 (p:Int×TNeed):(cg (em_Int_TNeed p).2 1).toStr=p.2.Serial:=rfl
theorem ms1_Int_TNeed (k:Int) (m:List (Int×TNeed)) (v0:Int) (v1:List UInt8):mset (.int .i64) (.int k) [.int v0,.str v1] (List.map em_Int_TNeed m)=List.map em_Int_TNeed (tset k (⟨v0,v1⟩:TNeed) m):=ms_Int_TNeed k m (⟨v0,v1⟩:TNeed)
theorem mc_Int_TNeed_0 (o:Option TNeed):(cg ((o.map e_TNeed).getD [.int 0,.str []]) 0).toInt=(o.getD default).Kind:=by cases o <;> rfl
theorem mc_Int_TNeed_1 (o:Option TNeed):(cg ((o.map e_TNeed).getD [.int 0,.str []]) 1).toStr=(o.getD default).Serial:=by cases o <;> rfl
theorem mi_Int_TNeed (o:Option TNeed):(o.map e_TNeed).isSome=o.isSome:=by cases o <;> rfl
theorem tl:type_of% (And.intro (And.intro (And.intro (And.intro (And.intro (And.intro @de_TUnitConf @e_TUnitConf.eq_1) (And.intro @d_TUnitConf.eq_1 @cg_TUnitConf_0)) (And.intro (And.intro @cg_TUnitConf_1 @cg_TUnitConf_2) (And.intro @cg_TUnitConf_3 (And.intro @cg_TUnitConf_4 @ap_TUnitConf)))) (And.intro (And.intro (And.intro @set_TUnitConf_0_5 @de_Int) (And.intro @e_Int.eq_1 (And.intro @d_Int.eq_1 @cg_Int_0))) (And.intro (And.intro @ap_Int @set_Int_0_1) (And.intro @zr_Int (And.intro @de_TNeed @e_TNeed.eq_1))))) (And.intro (And.intro (And.intro (And.intro @d_TNeed.eq_1 @cg_TNeed_0) (And.intro @cg_TNeed_1 (And.intro @ap_TNeed @de_TWant))) (And.intro (And.intro @e_TWant.eq_1 @d_TWant.eq_1) (And.intro @cg_TWant_0 (And.intro @cg_TWant_1 @ap_TWant)))) (And.intro (And.intro (And.intro @de_TRequest @e_TRequest.eq_1) (And.intro @d_TRequest.eq_1 (And.intro @cg_TRequest_0 @cg_TRequest_1))) (And.intro (And.intro @ap_TRequest @ap_TRequest_1) (And.intro @zr_TRequest (And.intro @de_Bool @e_Bool.eq_1)))))) (And.intro (And.intro (And.intro (And.intro (And.intro @d_Bool.eq_1 @cg_Bool_0) (And.intro @ap_Bool @set_Bool_0_1)) (And.intro (And.intro @zr_Bool @de_Str) (And.intro @e_Str.eq_1 (And.intro @d_Str.eq_1 @cg_Str_0)))) (And.intro (And.intro (And.intro @ap_Str @eta_TUnitConf) (And.intro @eta_TNeed (And.intro @eta_TWant @eta_TRequest))) (And.intro (And.intro @eta_TTable @eta_Tpool) (And.intro @mg_Int_Bool (And.intro @md_Int_Bool @mk_Int_Bool))))) (And.intro (And.intro (And.intro (And.intro @mv_Int_Bool_0 @ms1_Int_Bool) (And.intro @mc_Int_Bool_0 (And.intro @mi_Int_Bool @mg_Str_Bool))) (And.intro (And.intro @md_Str_Bool @mk_Str_Bool) (And.intro @mv_Str_Bool_0 (And.intro @ms1_Str_Bool @mc_Str_Bool_0)))) (And.intro (And.intro (And.intro @mi_Str_Bool @mg_Int_TNeed) (And.intro @md_Int_TNeed (And.intro @mk_Int_TNeed @mv_Int_TNeed_0))) (And.intro (And.intro @mv_Int_TNeed_1 @ms1_Int_TNeed) (And.intro @mc_Int_TNeed_0 (And.intro @mc_Int_TNeed_1 @mi_Int_TNeed))))))):=(And.intro (And.intro (And.intro (And.intro (And.intro (And.intro @de_TUnitConf @e_TUnitConf.eq_1) (And.intro @d_TUnitConf.eq_1 @cg_TUnitConf_0)) (And.intro (And.intro @cg_TUnitConf_1 @cg_TUnitConf_2) (And.intro @cg_TUnitConf_3 (And.intro @cg_TUnitConf_4 @ap_TUnitConf)))) (And.intro (And.intro (And.intro @set_TUnitConf_0_5 @de_Int) (And.intro @e_Int.eq_1 (And.intro @d_Int.eq_1 @cg_Int_0))) (And.intro (And.intro @ap_Int @set_Int_0_1) (And.intro @zr_Int (And.intro @de_TNeed @e_TNeed.eq_1))))) (And.intro (And.intro (And.intro (And.intro @d_TNeed.eq_1 @cg_TNeed_0) (And.intro @cg_TNeed_1 (And.intro @ap_TNeed @de_TWant))) (And.intro (And.intro @e_TWant.eq_1 @d_TWant.eq_1) (And.intro @cg_TWant_0 (And.intro @cg_TWant_1 @ap_TWant)))) (And.intro (And.intro (And.intro @de_TRequest @e_TRequest.eq_1) (And.intro @d_TRequest.eq_1 (And.intro @cg_TRequest_0 @cg_TRequest_1))) (And.intro (And.intro @ap_TRequest @ap_TRequest_1) (And.intro @zr_TRequest (And.intro @de_Bool @e_Bool.eq_1)))))) (And.intro (And.intro (And.intro (And.intro (And.intro @d_Bool.eq_1 @cg_Bool_0) (And.intro @ap_Bool @set_Bool_0_1)) (And.intro (And.intro @zr_Bool @de_Str) (And.intro @e_Str.eq_1 (And.intro @d_Str.eq_1 @cg_Str_0)))) (And.intro (And.intro (And.intro @ap_Str @eta_TUnitConf) (And.intro @eta_TNeed (And.intro @eta_TWant @eta_TRequest))) (And.intro (And.intro @eta_TTable @eta_Tpool) (And.intro @mg_Int_Bool (And.intro @md_Int_Bool @mk_Int_Bool))))) (And.intro (And.intro (And.intro (And.intro @mv_Int_Bool_0 @ms1_Int_Bool) (And.intro @mc_Int_Bool_0 (And.intro @mi_Int_Bool @mg_Str_Bool))) (And.intro (And.intro @md_Str_Bool @mk_Str_Bool) (And.intro @mv_Str_Bool_0 (And.intro @ms1_Str_Bool @mc_Str_Bool_0)))) (And.intro (And.intro (And.intro @mi_Str_Bool @mg_Int_TNeed) (And.intro @md_Int_TNeed (And.intro @mk_Int_TNeed @mv_Int_TNeed_0))) (And.intro (And.intro @mv_Int_TNeed_1 @ms1_Int_TNeed) (And.intro @mc_Int_TNeed_0 (And.intro @mc_Int_TNeed_1 @mi_Int_TNeed)))))))
theorem z:type_of% (And.intro (And.intro ev ew) (And.intro tys tl)):=(And.intro (And.intro ev ew) (And.intro tys tl))
end Go.Proofs.Ytcdofkflbnpjjaa
