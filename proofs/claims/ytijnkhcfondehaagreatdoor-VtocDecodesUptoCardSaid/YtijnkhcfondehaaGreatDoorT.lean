/- Text. -/
import Derived.Test.YtijnkhcfondehaaGreatDoorAE19
import Derived.Test.YtijnkhcfondehaaGreatDoorAE41
import Derived.Test.YtijnkhcfondehaaGreatDoorAE53
import Derived.Test.YtijnkhcfondehaaGreatDoorAE28
import Derived.Test.YtijnkhcfondehaaGreatDoorRows
set_option maxHeartbeats 8000000
set_option linter.unusedVariables false
set_option linter.unusedSimpArgs false
set_option maxRecDepth 100000
open _root_.List renaming map_map→JE,map_congr_left→jV
open _root_.Nat renaming lt_or_ge→jz
open Go.Proofs.Tryz renaming prog→jd
namespace Go.Proofs.YtijnkhcfondehaaGreatDoor
open Go.AE
theorem h00:tyI jd 0=none:=by kernel_rfl
theorem mixed:jd.follows .mixedOrders=true:=by kernel_rfl
theorem un3:jd.underlying 3=some (.int .i64):=by kernel_rfl
theorem un5:jd.underlying 5=some (.int .u8):=by kernel_rfl
theorem un9:jd.underlying 9=some .string:=by kernel_rfl
theorem un21:jd.underlying 21=some (.int .i32):=by kernel_rfl
theorem iku:jd.underlying 151=some (.int .u64):=by kernel_rfl
theorem ikz:jd.underlying 172=some (.int .u32):=by kernel_rfl
theorem ik3:jd.underlying 206=some (.int .i16):=by kernel_rfl
theorem ty3:tyI jd 3=some ⟨[.int .i64],false,[],0,8⟩:=by kernel_rfl
theorem ty4:tyI jd 4=some ⟨[.bool],false,[],0,1⟩:=by kernel_rfl
theorem ty5:tyI jd 5=some ⟨[.int .u8],false,[],0,1⟩:=by kernel_rfl
theorem ty9:tyI jd 9=some ⟨[.str],false,[],0,16⟩:=by kernel_rfl
theorem str9:eqa jd 9=true:=by kernel_rfl
theorem ty21:tyI jd 21=some ⟨[.int .i32],false,[],0,4⟩:=by kernel_rfl
theorem ty23:tyI jd 23=some ⟨[.slice 41],false,[],41,24⟩:=by kernel_rfl
theorem sl23:slE jd 23=some (41,⟨[.str,.int .i64,.int .i64,.bool,.bool,.int .i64,.int .i64,.int .i64,.int .i64,.slice 80,.int .i64],true,[(0,9),(1,38),(9,39),(10,3)],0,104⟩):=by kernel_rfl
theorem ty25:tyI jd 25=some ⟨[.str,.int .i64,.int .i64,.int .i64,.slice 41],true,[(0,9),(1,3),(2,3),(3,3),(4,23)],0,64⟩:=by kernel_rfl
theorem ty26:tyI jd 26=some ⟨[.int .i64],false,[],0,8⟩:=by kernel_rfl
theorem ty29:tyI jd 29=some ⟨[.str,.int .i64,.int .i64,.int .i64,.slice 41],true,[(0,9),(1,3),(2,3),(3,3),(4,23)],0,64⟩:=by kernel_rfl
theorem ty38:tyI jd 38=some ⟨[.int .i64,.int .i64,.bool,.bool,.int .i64,.int .i64,.int .i64,.int .i64],true,[(0,3),(1,3),(2,4),(3,4),(4,3),(5,3),(6,3),(7,3)],0,56⟩:=by kernel_rfl
theorem eq38:eqT jd 38=true:=by kernel_rfl
theorem ty39:tyI jd 39=some ⟨[.slice 80],false,[],80,24⟩:=by kernel_rfl
theorem sl39:slE jd 39=some (80,⟨[.int .i64,.int .i64],true,[(0,3),(1,3)],0,16⟩):=by kernel_rfl
theorem ty41:tyI jd 41=some ⟨[.str,.int .i64,.int .i64,.bool,.bool,.int .i64,.int .i64,.int .i64,.int .i64,.slice 80,.int .i64],true,[(0,9),(1,38),(9,39),(10,3)],0,104⟩:=by kernel_rfl
theorem ty51:tyI jd 51=some ⟨[.slice 84],false,[],84,24⟩:=by kernel_rfl
theorem sl51:slE jd 51=some (84,⟨[.slice 87],false,[],87,24⟩):=by kernel_rfl
theorem ty62:tyI jd 62=some ⟨[.int .u8,.str,.str,.int .i64,.int .i64,.bool,.bool,.int .i64,.int .i64,.int .i64,.int .i64,.int .i64],true,[(0,5),(1,9),(2,9),(3,38),(11,3)],0,104⟩:=by kernel_rfl
theorem eq62:eqT jd 62=true:=by kernel_rfl
theorem ty67:tyI jd 67=some ⟨[.int .u8,.int .u8,.int .u8],true,[(0,5),(1,5),(2,5)],0,3⟩:=by kernel_rfl
theorem eq67:eqT jd 67=true:=by kernel_rfl
theorem ty68:tyI jd 68=some ⟨[.slice 62],false,[],62,24⟩:=by kernel_rfl
theorem sl68:slE jd 68=some (62,⟨[.int .u8,.str,.str,.int .i64,.int .i64,.bool,.bool,.int .i64,.int .i64,.int .i64,.int .i64,.int .i64],true,[(0,5),(1,9),(2,9),(3,38),(11,3)],0,104⟩):=by kernel_rfl
theorem ty80:tyI jd 80=some ⟨[.int .i64,.int .i64],true,[(0,3),(1,3)],0,16⟩:=by kernel_rfl
theorem eq80:eqT jd 80=true:=by kernel_rfl
theorem ty81:tyI jd 81=some ⟨[.slice 3],false,[],3,24⟩:=by kernel_rfl
theorem sl81:slE jd 81=some (3,⟨[.int .i64],false,[],0,8⟩):=by kernel_rfl
theorem ty82:tyI jd 82=some ⟨[.slice 9],false,[],9,24⟩:=by kernel_rfl
theorem sl82:slE jd 82=some (9,⟨[.str],false,[],0,16⟩):=by kernel_rfl
theorem ty84:tyI jd 84=some ⟨[.slice 87],false,[],87,24⟩:=by kernel_rfl
theorem sl84:slE jd 84=some (87,⟨[.int .i64,.slice 5,.slice 5,.bool],true,[(0,3),(1,85),(2,85),(3,4)],0,64⟩):=by kernel_rfl
theorem ty85:tyI jd 85=some ⟨[.slice 5],false,[],5,24⟩:=by kernel_rfl
theorem sl85:slE jd 85=some (5,⟨[.int .u8],false,[],0,1⟩):=by kernel_rfl
theorem ty87:tyI jd 87=some ⟨[.int .i64,.slice 5,.slice 5,.bool],true,[(0,3),(1,85),(2,85),(3,4)],0,64⟩:=by kernel_rfl
theorem ikn:tyI jd 151=some ⟨[.int .u64],false,[],0,8⟩:=by kernel_rfl
theorem ikt:arrI jd 159=some (512,4,⟨[.bool],false,[],0,1⟩):=by kernel_rfl
theorem ikl:tyI jd 159=none:=by kernel_rfl
theorem iko:slE jd 159=none:=by kernel_rfl
theorem ik2:tyI jd 172=some ⟨[.int .u32],false,[],0,4⟩:=by kernel_rfl
theorem ikg:tyI jd 206=some ⟨[.int .i16],false,[],0,2⟩:=by kernel_rfl
abbrev tys:=(aI (aI (aI (aI (aI @un3 (aI @un5 @un9)) (aI @un21 (aI @iku @ikz))) (aI (aI @ik3 (aI @ty3 @ty4)) (aI @ty5 (aI @ty9 @str9)))) (aI (aI (aI @ty21 (aI @ty23 @sl23)) (aI @ty25 (aI @ty26 @ty29))) (aI (aI @ty38 (aI @eq38 @ty39)) (aI @sl39 (aI @ty41 @ty51))))) (aI (aI (aI (aI @sl51 (aI @ty62 @eq62)) (aI @ty67 (aI @eq67 @ty68))) (aI (aI @sl68 (aI @ty80 @eq80)) (aI @ty81 (aI @sl81 @ty82)))) (aI (aI (aI @sl82 (aI @ty84 @sl84)) (aI @ty85 (aI @sl85 @ty87))) (aI (aI @ikn (aI @ikt @ikl)) (aI @iko (aI @ik2 @ikg))))))
structure TDcb where
 Org:Int
 Format:Int
 Blocked:Bool
 Asa:Bool
 Lrecl:Int
 Blksize:Int
 KeyLen:Int
 KeyPos:Int
 deriving DecidableEq,Inhabited
structure aj0 where
 At:Int
 Len:Int
 deriving DecidableEq,Inhabited
structure aj8 where
 Name:List UInt8
 Dcb:TDcb
 Extents:List aj0
 Used:Int
 deriving DecidableEq,Inhabited
structure aja where
 Serial:List UInt8
 Cyls:Int
 Heads:Int
 Size:Int
 Sets:List aj8
 deriving DecidableEq,Inhabited
structure TRec where
 R:Int
 Key:List Int
 Data:List Int
 Bad:Bool
 deriving DecidableEq,Inhabited
structure ij8 where
 Cyls:Int
 Heads:Int
 Size:Int
 deriving DecidableEq,Inhabited
structure TAct where
 Kind:Int
 Name:List UInt8
 To:List UInt8
 Dcb:TDcb
 N:Int
 deriving DecidableEq,Inhabited
def aj2 (x:aj0):List C:=[.int x.At,.int x.Len]
def ajl (c:List C):aj0:=(⟨(cg c 0).toInt,(cg c 1).toInt⟩:aj0)
theorem bw8 (l:List aj0):List.map ajl (List.map aj2 l)=l:=by
 rw [JE];refine (jV fun x _=>?_).trans (List.map_id l);show ajl (aj2 x)=x;simp only [ajl,aj2,cg_zero,cg_succ,C.toBool_bool,C.toInt_int,C.toStr_str,C.toSl_slice]
theorem fws (l:List aj0) (i:Nat):(cg (eg (List.map aj2 l) i) 0).toInt=(gt l i).At:=by
 rcases jz i l.length with h | h
 ·rw [aqb _ _ _ h];rfl
 ·rw [aw3 _ _ _ h,aw9 _ _ h];rfl
theorem fz4 (l:List aj0) (i:Nat):(cg (eg (List.map aj2 l) i) 1).toInt=(gt l i).Len:=by
 rcases jz i l.length with h | h
 ·rw [aqb _ _ _ h];rfl
 ·rw [aw3 _ _ _ h,aw9 _ _ h];rfl
theorem gz8 (l:List aj0) (v0:Int) (v1:Int):List.map aj2 l ++ [[.int v0,.int v1]]=List.map aj2 (l ++ [(⟨v0,v1⟩:aj0)]):=by simp [aj2]
theorem ew2 (l:List aj0) (i:Nat) (v0:Int) (v1:Int):(List.map aj2 l).set i (ajy (eg (List.map aj2 l) i) 0 [.int v0,.int v1])=List.map aj2 (l.set i (⟨v0,v1⟩:aj0)):=by
 refine ay9 _ _ _ _ fun h=>?_;rw [aqb _ _ _ h];rfl
theorem ejs (l:List aj0) (i:Nat) (v1:Int):(List.map aj2 l).set i (ajy (eg (List.map aj2 l) i) 1 [.int v1])=List.map aj2 (l.set i (⟨(gt l i).At,v1⟩:aj0)):=by
 refine ay9 _ _ _ _ fun h=>?_;rw [aqb _ _ _ h];rfl
theorem gwr (n:Nat):aw0 n [.int 0,.int 0]=List.map aj2 (aw0 n (⟨0,0⟩:aj0)):=dwv rfl
def aj6 (x:aj8):List C:=[.str x.Name,.int x.Dcb.Org,.int x.Dcb.Format,.bool x.Dcb.Blocked,.bool x.Dcb.Asa,.int x.Dcb.Lrecl,.int x.Dcb.Blksize,.int x.Dcb.KeyLen,.int x.Dcb.KeyPos,.slice (List.map aj2 x.Extents),.int x.Used]
def awo (c:List C):aj8:=(⟨(cg c 0).toStr,(⟨(cg c 1).toInt,(cg c 2).toInt,(cg c 3).toBool,(cg c 4).toBool,(cg c 5).toInt,(cg c 6).toInt,(cg c 7).toInt,(cg c 8).toInt⟩:TDcb),((cg c 9).toSl.map ajl),(cg c 10).toInt⟩:aj8)
theorem hzy (l:List aj8):List.map awo (List.map aj6 l)=l:=by
 rw [JE];refine (jV fun x _=>?_).trans (List.map_id l);show awo (aj6 x)=x;simp only [awo,aj6,cg_zero,cg_succ,C.toBool_bool,C.toInt_int,C.toStr_str,C.toSl_slice,bw8]
theorem gqm (l:List aj8) (i:Nat):(cg (eg (List.map aj6 l) i) 0).toStr=(gt l i).Name:=by
 rcases jz i l.length with h | h
 ·rw [aqb _ _ _ h];rfl
 ·rw [aw3 _ _ _ h,aw9 _ _ h];rfl
theorem gwi (l:List aj8) (i:Nat):(cg (eg (List.map aj6 l) i) 1).toInt=(gt l i).Dcb.Org:=by
 rcases jz i l.length with h | h
 ·rw [aqb _ _ _ h];rfl
 ·rw [aw3 _ _ _ h,aw9 _ _ h];rfl
theorem gwl (l:List aj8) (i:Nat):(cg (eg (List.map aj6 l) i) 2).toInt=(gt l i).Dcb.Format:=by
 rcases jz i l.length with h | h
 ·rw [aqb _ _ _ h];rfl
 ·rw [aw3 _ _ _ h,aw9 _ _ h];rfl
theorem gwd (l:List aj8) (i:Nat):(cg (eg (List.map aj6 l) i) 3).toBool=(gt l i).Dcb.Blocked:=by
 rcases jz i l.length with h | h
 ·rw [aqb _ _ _ h];rfl
 ·rw [aw3 _ _ _ h,aw9 _ _ h];rfl
theorem gq6 (l:List aj8) (i:Nat):(cg (eg (List.map aj6 l) i) 4).toBool=(gt l i).Dcb.Asa:=by
 rcases jz i l.length with h | h
 ·rw [aqb _ _ _ h];rfl
 ·rw [aw3 _ _ _ h,aw9 _ _ h];rfl
theorem gqh (l:List aj8) (i:Nat):(cg (eg (List.map aj6 l) i) 5).toInt=(gt l i).Dcb.Lrecl:=by
 rcases jz i l.length with h | h
 ·rw [aqb _ _ _ h];rfl
 ·rw [aw3 _ _ _ h,aw9 _ _ h];rfl
theorem gwf (l:List aj8) (i:Nat):(cg (eg (List.map aj6 l) i) 6).toInt=(gt l i).Dcb.Blksize:=by
 rcases jz i l.length with h | h
 ·rw [aqb _ _ _ h];rfl
 ·rw [aw3 _ _ _ h,aw9 _ _ h];rfl
theorem gqj (l:List aj8) (i:Nat):(cg (eg (List.map aj6 l) i) 7).toInt=(gt l i).Dcb.KeyLen:=by
 rcases jz i l.length with h | h
 ·rw [aqb _ _ _ h];rfl
 ·rw [aw3 _ _ _ h,aw9 _ _ h];rfl
theorem gq9 (l:List aj8) (i:Nat):(cg (eg (List.map aj6 l) i) 8).toInt=(gt l i).Dcb.KeyPos:=by
 rcases jz i l.length with h | h
 ·rw [aqb _ _ _ h];rfl
 ·rw [aw3 _ _ _ h,aw9 _ _ h];rfl
theorem gw3 (l:List aj8) (i:Nat):(cg (eg (List.map aj6 l) i) 9).toSl=List.map aj2 ((gt l i).Extents):=by
 rcases jz i l.length with h | h
 ·rw [aqb _ _ _ h];rfl
 ·rw [aw3 _ _ _ h,aw9 _ _ h];rfl
theorem fzk (l:List aj8) (i:Nat):(cg (eg (List.map aj6 l) i) 10).toInt=(gt l i).Used:=by
 rcases jz i l.length with h | h
 ·rw [aqb _ _ _ h];rfl
 ·rw [aw3 _ _ _ h,aw9 _ _ h];rfl
theorem hww (l:List aj8) (v0:List UInt8) (v1:Int) (v2:Int) (v3:Bool) (v4:Bool) (v5:Int) (v6:Int) (v7:Int) (v8:Int) (v9:List aj0) (v10:Int):List.map aj6 l ++ [[.str v0,.int v1,.int v2,.bool v3,.bool v4,.int v5,.int v6,.int v7,.int v8,.slice (List.map aj2 v9),.int v10]]=List.map aj6 (l ++ [(⟨v0,(⟨v1,v2,v3,v4,v5,v6,v7,v8⟩:TDcb),v9,v10⟩:aj8)]):=by simp [aj6]
theorem gw2 (l:List aj8) (v0:List UInt8) (v1:Int) (v2:Int) (v3:Bool) (v4:Bool) (v5:Int) (v6:Int) (v7:Int) (v8:Int) (v10:Int):List.map aj6 l ++ [[.str v0,.int v1,.int v2,.bool v3,.bool v4,.int v5,.int v6,.int v7,.int v8,.slice [],.int v10]]=List.map aj6 (l ++ [(⟨v0,(⟨v1,v2,v3,v4,v5,v6,v7,v8⟩:TDcb),[],v10⟩:aj8)]):=by simp [aj6]
theorem fje (l:List aj8) (i:Nat) (v0:List UInt8):(List.map aj6 l).set i (ajy (eg (List.map aj6 l) i) 0 [.str v0])=List.map aj6 (l.set i (⟨v0,((gt l i).Dcb),(gt l i).Extents,(gt l i).Used⟩:aj8)):=by
 refine ay9 _ _ _ _ fun h=>?_;rw [aqb _ _ _ h];rfl
theorem ez4 (l:List aj8) (i:Nat) (v0:List UInt8) (v1:Int) (v2:Int) (v3:Bool) (v4:Bool) (v5:Int) (v6:Int) (v7:Int) (v8:Int) (v9:List aj0) (v10:Int):(List.map aj6 l).set i (ajy (eg (List.map aj6 l) i) 0 [.str v0,.int v1,.int v2,.bool v3,.bool v4,.int v5,.int v6,.int v7,.int v8,.slice (List.map aj2 v9),.int v10])=List.map aj6 (l.set i (⟨v0,(⟨v1,v2,v3,v4,v5,v6,v7,v8⟩:TDcb),v9,v10⟩:aj8)):=by
 refine ay9 _ _ _ _ fun h=>?_;rw [aqb _ _ _ h];rfl
theorem eyx (l:List aj8) (i:Nat) (v1:Int) (v2:Int) (v3:Bool) (v4:Bool) (v5:Int) (v6:Int) (v7:Int) (v8:Int):(List.map aj6 l).set i (ajy (eg (List.map aj6 l) i) 1 [.int v1,.int v2,.bool v3,.bool v4,.int v5,.int v6,.int v7,.int v8])=List.map aj6 (l.set i (⟨(gt l i).Name,(⟨v1,v2,v3,v4,v5,v6,v7,v8⟩:TDcb),(gt l i).Extents,(gt l i).Used⟩:aj8)):=by
 refine ay9 _ _ _ _ fun h=>?_;rw [aqb _ _ _ h];rfl
theorem fj5 (l:List aj8) (i:Nat) (v9:List aj0):(List.map aj6 l).set i (ajy (eg (List.map aj6 l) i) 9 [.slice (List.map aj2 v9)])=List.map aj6 (l.set i (⟨(gt l i).Name,((gt l i).Dcb),v9,(gt l i).Used⟩:aj8)):=by
 refine ay9 _ _ _ _ fun h=>?_;rw [aqb _ _ _ h];rfl
theorem ezd (l:List aj8) (i:Nat) (v10:Int):(List.map aj6 l).set i (ajy (eg (List.map aj6 l) i) 10 [.int v10])=List.map aj6 (l.set i (⟨(gt l i).Name,((gt l i).Dcb),(gt l i).Extents,v10⟩:aj8)):=by
 refine ay9 _ _ _ _ fun h=>?_;rw [aqb _ _ _ h];rfl
theorem hzg (n:Nat):aw0 n [.str [],.int 0,.int 0,.bool false,.bool false,.int 0,.int 0,.int 0,.int 0,.slice [],.int 0]=List.map aj6 (aw0 n (⟨[],(⟨0,0,false,false,0,0,0,0⟩:TDcb),[],0⟩:aj8)):=dwv rfl
def dzj (x:List UInt8):List C:=[.str x]
def hz4 (c:List C):List UInt8:=(cg c 0).toStr
theorem iwr (l:List (List UInt8)):List.map hz4 (List.map dzj l)=l:=by
 rw [JE];refine (jV fun x _=>?_).trans (List.map_id l);show hz4 (dzj x)=x;simp only [hz4,dzj,cg_zero,cg_succ,C.toBool_bool,C.toInt_int,C.toStr_str,C.toSl_slice]
theorem ij5 (l:List (List UInt8)) (i:Nat):(cg (eg (List.map dzj l) i) 0).toStr=gt l i:=by
 rcases jz i l.length with h | h
 ·rw [aqb _ _ _ h];rfl
 ·rw [aw3 _ _ _ h,aw9 _ _ h];rfl
theorem iz4 (l:List (List UInt8)) (v0:List UInt8):List.map dzj l ++ [[.str v0]]=List.map dzj (l ++ [v0]):=by simp [dzj]
def ajj (x:Int):List C:=[.int x]
def akn (c:List C):Int:=(cg c 0).toInt
theorem fyj (l:List Int):List.map akn (List.map ajj l)=l:=by
 rw [JE];refine (jV fun x _=>?_).trans (List.map_id l);show akn (ajj x)=x;simp only [akn,ajj,cg_zero,cg_succ,C.toBool_bool,C.toInt_int,C.toStr_str,C.toSl_slice]
theorem hk5 (l:List Int) (i:Nat):(cg (eg (List.map ajj l) i) 0).toInt=gt l i:=by
 rcases jz i l.length with h | h
 ·rw [aqb _ _ _ h];rfl
 ·rw [aw3 _ _ _ h,aw9 _ _ h];rfl
theorem izf (l:List Int) (v0:Int):List.map ajj l ++ [[.int v0]]=List.map ajj (l ++ [v0]):=by simp [ajj]
theorem fzo (l:List Int) (i:Nat) (v0:Int):(List.map ajj l).set i (ajy (eg (List.map ajj l) i) 0 [.int v0])=List.map ajj (l.set i v0):=by
 refine ay9 _ _ _ _ fun h=>?_;rw [aqb _ _ _ h];rfl
theorem iws (n:Nat):aw0 n [.int 0]=List.map ajj (aw0 n 0):=dwv rfl
def ajr (x:TRec):List C:=[.int x.R,.slice (List.map ajj x.Key),.slice (List.map ajj x.Data),.bool x.Bad]
def bqx (c:List C):TRec:=(⟨(cg c 0).toInt,((cg c 1).toSl.map akn),((cg c 2).toSl.map akn),(cg c 3).toBool⟩:TRec)
theorem fj6 (l:List TRec):List.map bqx (List.map ajr l)=l:=by
 rw [JE];refine (jV fun x _=>?_).trans (List.map_id l);show bqx (ajr x)=x;simp only [bqx,ajr,cg_zero,cg_succ,C.toBool_bool,C.toInt_int,C.toStr_str,C.toSl_slice,fyj,fyj]
theorem gyq (l:List TRec) (i:Nat):(cg (eg (List.map ajr l) i) 0).toInt=(gt l i).R:=by
 rcases jz i l.length with h | h
 ·rw [aqb _ _ _ h];rfl
 ·rw [aw3 _ _ _ h,aw9 _ _ h];rfl
theorem gzo (l:List TRec) (i:Nat):(cg (eg (List.map ajr l) i) 1).toSl=List.map ajj ((gt l i).Key):=by
 rcases jz i l.length with h | h
 ·rw [aqb _ _ _ h];rfl
 ·rw [aw3 _ _ _ h,aw9 _ _ h];rfl
theorem hqw (l:List TRec) (i:Nat):(cg (eg (List.map ajr l) i) 2).toSl=List.map ajj ((gt l i).Data):=by
 rcases jz i l.length with h | h
 ·rw [aqb _ _ _ h];rfl
 ·rw [aw3 _ _ _ h,aw9 _ _ h];rfl
theorem gyt (l:List TRec) (i:Nat):(cg (eg (List.map ajr l) i) 3).toBool=(gt l i).Bad:=by
 rcases jz i l.length with h | h
 ·rw [aqb _ _ _ h];rfl
 ·rw [aw3 _ _ _ h,aw9 _ _ h];rfl
theorem iqx (l:List TRec) (v0:Int) (v1:List Int) (v2:List Int) (v3:Bool):List.map ajr l ++ [[.int v0,.slice (List.map ajj v1),.slice (List.map ajj v2),.bool v3]]=List.map ajr (l ++ [(⟨v0,v1,v2,v3⟩:TRec)]):=by simp [ajr]
theorem hqs (l:List TRec) (v0:Int) (v2:List Int) (v3:Bool):List.map ajr l ++ [[.int v0,.slice [],.slice (List.map ajj v2),.bool v3]]=List.map ajr (l ++ [(⟨v0,[],v2,v3⟩:TRec)]):=by simp [ajr]
theorem gy1 (l:List TRec) (v0:Int) (v1:List Int) (v3:Bool):List.map ajr l ++ [[.int v0,.slice (List.map ajj v1),.slice [],.bool v3]]=List.map ajr (l ++ [(⟨v0,v1,[],v3⟩:TRec)]):=by simp [ajr]
theorem hq6 (l:List TRec) (v0:Int) (v3:Bool):List.map ajr l ++ [[.int v0,.slice [],.slice [],.bool v3]]=List.map ajr (l ++ [(⟨v0,[],[],v3⟩:TRec)]):=by simp [ajr]
def ajh (x:List TRec):List C:=[.slice (List.map ajr x)]
def bje (c:List C):List TRec:=((cg c 0).toSl.map bqx)
theorem hwb (l:List (List TRec)):List.map bje (List.map ajh l)=l:=by
 rw [JE];refine (jV fun x _=>?_).trans (List.map_id l);show bje (ajh x)=x;simp only [bje,ajh,cg_zero,cg_succ,C.toBool_bool,C.toInt_int,C.toStr_str,C.toSl_slice,fj6]
theorem gqn (l:List (List TRec)) (i:Nat):(cg (eg (List.map ajh l) i) 0).toSl=List.map ajr (gt l i):=by
 rcases jz i l.length with h | h
 ·rw [aqb _ _ _ h];rfl
 ·rw [aw3 _ _ _ h,aw9 _ _ h];rfl
theorem ij3 (l:List (List TRec)) (v0:List TRec):List.map ajh l ++ [[.slice (List.map ajr v0)]]=List.map ajh (l ++ [v0]):=by simp [ajh]
theorem gql (l:List (List TRec))  : List.map ajh l ++ [[.slice []]]=List.map ajh (l ++ [[]]):=by simp [ajh]
def ak1 (x:Bool):List C:=[.bool x]
def fwr (c:List C):Bool:=(cg c 0).toBool
theorem iw5 (l:List Bool):List.map fwr (List.map ak1 l)=l:=by
 rw [JE];refine (jV fun x _=>?_).trans (List.map_id l);show fwr (ak1 x)=x;simp only [fwr,ak1,cg_zero,cg_succ,C.toBool_bool,C.toInt_int,C.toStr_str,C.toSl_slice]
theorem gye (l:List Bool) (i:Nat):(cg (eg (List.map ak1 l) i) 0).toBool=gt l i:=by
 rcases jz i l.length with h | h
 ·rw [aqb _ _ _ h];rfl
 ·rw [aw3 _ _ _ h,aw9 _ _ h];rfl
theorem iqw (l:List Bool) (v0:Bool):List.map ak1 l ++ [[.bool v0]]=List.map ak1 (l ++ [v0]):=by simp [ak1]
theorem fqi (l:List Bool) (i:Nat) (v0:Bool):(List.map ak1 l).set i (ajy (eg (List.map ak1 l) i) 0 [.bool v0])=List.map ak1 (l.set i v0):=by
 refine ay9 _ _ _ _ fun h=>?_;rw [aqb _ _ _ h];rfl
theorem iwf (n:Nat):aw0 n [.bool false]=List.map ak1 (aw0 n false):=dwv rfl
def bjy (x:TAct):List C:=[.int x.Kind,.str x.Name,.str x.To,.int x.Dcb.Org,.int x.Dcb.Format,.bool x.Dcb.Blocked,.bool x.Dcb.Asa,.int x.Dcb.Lrecl,.int x.Dcb.Blksize,.int x.Dcb.KeyLen,.int x.Dcb.KeyPos,.int x.N]
def gj9 (c:List C):TAct:=(⟨(cg c 0).toInt,(cg c 1).toStr,(cg c 2).toStr,(⟨(cg c 3).toInt,(cg c 4).toInt,(cg c 5).toBool,(cg c 6).toBool,(cg c 7).toInt,(cg c 8).toInt,(cg c 9).toInt,(cg c 10).toInt⟩:TDcb),(cg c 11).toInt⟩:TAct)
theorem iw1 (l:List TAct):List.map gj9 (List.map bjy l)=l:=by
 rw [JE];refine (jV fun x _=>?_).trans (List.map_id l);show gj9 (bjy x)=x;simp only [gj9,bjy,cg_zero,cg_succ,C.toBool_bool,C.toInt_int,C.toStr_str,C.toSl_slice]
theorem gzc (l:List TAct) (i:Nat):(cg (eg (List.map bjy l) i) 0).toInt=(gt l i).Kind:=by
 rcases jz i l.length with h | h
 ·rw [aqb _ _ _ h];rfl
 ·rw [aw3 _ _ _ h,aw9 _ _ h];rfl
theorem gk1 (l:List TAct) (i:Nat):(cg (eg (List.map bjy l) i) 1).toStr=(gt l i).Name:=by
 rcases jz i l.length with h | h
 ·rw [aqb _ _ _ h];rfl
 ·rw [aw3 _ _ _ h,aw9 _ _ h];rfl
theorem hq9 (l:List TAct) (i:Nat):(cg (eg (List.map bjy l) i) 2).toStr=(gt l i).To:=by
 rcases jz i l.length with h | h
 ·rw [aqb _ _ _ h];rfl
 ·rw [aw3 _ _ _ h,aw9 _ _ h];rfl
theorem hqb (l:List TAct) (i:Nat):(cg (eg (List.map bjy l) i) 3).toInt=(gt l i).Dcb.Org:=by
 rcases jz i l.length with h | h
 ·rw [aqb _ _ _ h];rfl
 ·rw [aw3 _ _ _ h,aw9 _ _ h];rfl
theorem gyh (l:List TAct) (i:Nat):(cg (eg (List.map bjy l) i) 4).toInt=(gt l i).Dcb.Format:=by
 rcases jz i l.length with h | h
 ·rw [aqb _ _ _ h];rfl
 ·rw [aw3 _ _ _ h,aw9 _ _ h];rfl
theorem gzq (l:List TAct) (i:Nat):(cg (eg (List.map bjy l) i) 5).toBool=(gt l i).Dcb.Blocked:=by
 rcases jz i l.length with h | h
 ·rw [aqb _ _ _ h];rfl
 ·rw [aw3 _ _ _ h,aw9 _ _ h];rfl
theorem gya (l:List TAct) (i:Nat):(cg (eg (List.map bjy l) i) 6).toBool=(gt l i).Dcb.Asa:=by
 rcases jz i l.length with h | h
 ·rw [aqb _ _ _ h];rfl
 ·rw [aw3 _ _ _ h,aw9 _ _ h];rfl
theorem hj1 (l:List TAct) (i:Nat):(cg (eg (List.map bjy l) i) 7).toInt=(gt l i).Dcb.Lrecl:=by
 rcases jz i l.length with h | h
 ·rw [aqb _ _ _ h];rfl
 ·rw [aw3 _ _ _ h,aw9 _ _ h];rfl
theorem gkf (l:List TAct) (i:Nat):(cg (eg (List.map bjy l) i) 8).toInt=(gt l i).Dcb.Blksize:=by
 rcases jz i l.length with h | h
 ·rw [aqb _ _ _ h];rfl
 ·rw [aw3 _ _ _ h,aw9 _ _ h];rfl
theorem gzl (l:List TAct) (i:Nat):(cg (eg (List.map bjy l) i) 9).toInt=(gt l i).Dcb.KeyLen:=by
 rcases jz i l.length with h | h
 ·rw [aqb _ _ _ h];rfl
 ·rw [aw3 _ _ _ h,aw9 _ _ h];rfl
theorem gwa (l:List TAct) (i:Nat):(cg (eg (List.map bjy l) i) 10).toInt=(gt l i).Dcb.KeyPos:=by
 rcases jz i l.length with h | h
 ·rw [aqb _ _ _ h];rfl
 ·rw [aw3 _ _ _ h,aw9 _ _ h];rfl
theorem gqv (l:List TAct) (i:Nat):(cg (eg (List.map bjy l) i) 11).toInt=(gt l i).N:=by
 rcases jz i l.length with h | h
 ·rw [aqb _ _ _ h];rfl
 ·rw [aw3 _ _ _ h,aw9 _ _ h];rfl
theorem iw8 (l:List TAct) (v0:Int) (v1:List UInt8) (v2:List UInt8) (v3:Int) (v4:Int) (v5:Bool) (v6:Bool) (v7:Int) (v8:Int) (v9:Int) (v10:Int) (v11:Int):List.map bjy l ++ [[.int v0,.str v1,.str v2,.int v3,.int v4,.bool v5,.bool v6,.int v7,.int v8,.int v9,.int v10,.int v11]]=List.map bjy (l ++ [(⟨v0,v1,v2,(⟨v3,v4,v5,v6,v7,v8,v9,v10⟩:TDcb),v11⟩:TAct)]):=by simp [bjy]
theorem ij0 (x:TDcb):(⟨x.Org,x.Format,x.Blocked,x.Asa,x.Lrecl,x.Blksize,x.KeyLen,x.KeyPos⟩:TDcb)=x:=rfl
theorem fkr (x:aj0):(⟨x.At,x.Len⟩:aj0)=x:=rfl
theorem gy2 (x:aj8):(⟨x.Name,x.Dcb,x.Extents,x.Used⟩:aj8)=x:=rfl
theorem hqq (x:aja):(⟨x.Serial,x.Cyls,x.Heads,x.Size,x.Sets⟩:aja)=x:=rfl
theorem hka (x:TRec):(⟨x.R,x.Key,x.Data,x.Bad⟩:TRec)=x:=rfl
theorem gw9 (x:ij8):(⟨x.Cyls,x.Heads,x.Size⟩:ij8)=x:=rfl
theorem hz7 (x:TAct):(⟨x.Kind,x.Name,x.To,x.Dcb,x.N⟩:TAct)=x:=rfl
theorem iz0 (s:List UInt8):row8 s=List.map ajj (bzn s):=hzi ajj (fun _=>rfl) s
theorem izo (l:List Int):str8 (List.map ajj l)=awk l:=hwl ajj (fun _=>rfl) l
abbrev tl:=(aI (aI (aI (aI (aI (aI @bw8 (aI @aj2.eq_1 @ajl.eq_1)) (aI @fws (aI @fz4 @gz8))) (aI (aI @ew2 (aI @ejs @gwr)) (aI @hzy (aI @aj6.eq_1 @awo.eq_1)))) (aI (aI (aI @gqm (aI @gwi @gwl)) (aI @gwd (aI @gq6 @gqh))) (aI (aI @gwf (aI @gqj @gq9)) (aI @gw3 (aI @fzk @hww))))) (aI (aI (aI (aI @gw2 (aI @fje @ez4)) (aI @eyx (aI @fj5 @ezd))) (aI (aI @hzg (aI @iwr @dzj.eq_1)) (aI @hz4.eq_1 (aI @ij5 @iz4)))) (aI (aI (aI @fyj (aI @ajj.eq_1 @akn.eq_1)) (aI @hk5 (aI @izf @fzo))) (aI (aI @iws (aI @fj6 @ajr.eq_1)) (aI (aI @bqx.eq_1 @gyq) (aI @gzo @hqw)))))) (aI (aI (aI (aI (aI @gyt (aI @iqx @hqs)) (aI @gy1 (aI @hq6 @hwb))) (aI (aI @ajh.eq_1 (aI @bje.eq_1 @gqn)) (aI @ij3 (aI @gql @iw5)))) (aI (aI (aI @ak1.eq_1 (aI @fwr.eq_1 @gye)) (aI @iqw (aI @fqi @iwf))) (aI (aI @iw1 (aI @bjy.eq_1 @gj9.eq_1)) (aI @gzc (aI @gk1 @hq9))))) (aI (aI (aI (aI @hqb (aI @gyh @gzq)) (aI @gya (aI @hj1 @gkf))) (aI (aI @gzl (aI @gwa @gqv)) (aI @iw8 (aI @ij0 @fkr)))) (aI (aI (aI @gy2 (aI @hqq @hka)) (aI @gw9 (aI @hz7 @iz0))) (aI (aI @izo (aI @fqm @gqx)) (aI (aI @iqs @iqe) (aI @hwc @gkc)))))))
theorem sI {α:Type _} {a b:α} (h:some a=some b):a=b:=Option.some.inj h
theorem cF {A R:Type} [Inhabited R] {f:FuncId} {ps:List (Bool×List Kd)} {refs:Bool} {dec:List (List C)→A} {enc:A→List (List C)} {F:A→Option R} {res:R→List Go.AE.A} {rows:R→List Blk} {fn:Func} (c:Code) (hf:jd.funcs[f]? = some fn) (hb:fn.body=some c) (henter:∀ args w,(callFunc f args).run jd w = .ok (.enter f args) w) (h:∀ (a:A) (r:R),F a=some r→Sm jd fn.ntmps 0 c ⟨dwi ps (enc a) 0,fun _=>.dead⟩ (Ret jd fn.results.toList ⟨True,res r,rows r⟩)) (hN:ps.length≤fn.ntmps:=by decide) (hs:refs=false→∀ r,bqa (res r)=true∧∀ b∈rows r,∃ t es E,b = .row t es∧tyI jd t=some E∧E.kinds.all aw1=true:=by intro _ r;exact ⟨rfl,by simp⟩):aj1 jd (mkFn f ps refs dec enc F res rows):=aj5 c h00 hf hb henter hN hs h
abbrev cD (d:aj8):List Go.AE.A:=[.c .str (.str d.Name),.c (.int .i64) (.int d.Dcb.Org),.c (.int .i64) (.int d.Dcb.Format),.c .bool (.bool d.Dcb.Blocked),.c .bool (.bool d.Dcb.Asa),.c (.int .i64) (.int d.Dcb.Lrecl),.c (.int .i64) (.int d.Dcb.Blksize),.c (.int .i64) (.int d.Dcb.KeyLen),.c (.int .i64) (.int d.Dcb.KeyPos),.c (.slice 80) (.slice (List.map aj2 d.Extents)),.c (.int .i64) (.int d.Used)]
abbrev cV (d:aja):List Go.AE.A:=[.c .str (.str d.Serial),.c (.int .i64) (.int d.Cyls),.c (.int .i64) (.int d.Heads),.c (.int .i64) (.int d.Size),.c (.slice 41) (.slice (List.map aj6 d.Sets))]
abbrev kD:List Kd:=[.str,.int .i64,.int .i64,.bool,.bool,.int .i64,.int .i64,.int .i64,.int .i64,.slice 80,.int .i64]
abbrev z:=(aI (aI @cD.eq_1 (aI @cV.eq_1 @kD.eq_1)) (aI (aI ev ew) (aI tys tl)))
end Go.Proofs.YtijnkhcfondehaaGreatDoor
