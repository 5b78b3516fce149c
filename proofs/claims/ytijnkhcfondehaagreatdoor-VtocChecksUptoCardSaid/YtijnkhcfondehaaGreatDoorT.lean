/- Text. -/
import Derived.Test.YtijnkhcfondehaaGreatDoorAE19
import Derived.Test.YtijnkhcfondehaaGreatDoorAE41
import Derived.Test.YtijnkhcfondehaaGreatDoorAE53
import Derived.Test.YtijnkhcfondehaaGreatDoorAE28
import Derived.Test.YtijnkhcfondehaaGreatDoorRows
set_option maxHeartbeats 8000000
set_option linter.unusedVariables false
set_option linter.unusedSimpArgs false
set_option maxRecDepth 100000
open _root_.List renaming map_map→JL,map_congr_left→jR
open _root_.Nat renaming lt_or_ge→jE
open Go.Proofs.Tryz renaming prog→jd
namespace Go.Proofs.YtijnkhcfondehaaGreatDoor
open Go.AE
theorem h00:tyI jd 0=none:=by kernel_rfl
theorem mixed:jd.follows .mixedOrders=true:=by kernel_rfl
theorem un3:jd.underlying 3=some (.int .i64):=by kernel_rfl
theorem un5:jd.underlying 5=some (.int .u8):=by kernel_rfl
theorem un9:jd.underlying 9=some .string:=by kernel_rfl
theorem hwq:jd.underlying 151=some (.int .u64):=by kernel_rfl
theorem ty3:tyI jd 3=some ⟨[.int .i64],false,[],0,8⟩:=by kernel_rfl
theorem ty4:tyI jd 4=some ⟨[.bool],false,[],0,1⟩:=by kernel_rfl
theorem ty5:tyI jd 5=some ⟨[.int .u8],false,[],0,1⟩:=by kernel_rfl
theorem ty9:tyI jd 9=some ⟨[.str],false,[],0,16⟩:=by kernel_rfl
theorem str9:dzn jd 9=true:=by kernel_rfl
theorem ty23:tyI jd 23=some ⟨[.slice 41],false,[],41,24⟩:=by kernel_rfl
theorem sl23:slE jd 23=some (41,⟨[.str,.int .i64,.int .i64,.bool,.bool,.int .i64,.int .i64,.int .i64,.int .i64,.slice 80,.int .i64],true,[(0,9),(1,38),(9,39),(10,3)],0,104⟩):=by kernel_rfl
theorem ty25:tyI jd 25=some ⟨[.str,.int .i64,.int .i64,.int .i64,.slice 41],true,[(0,9),(1,3),(2,3),(3,3),(4,23)],0,64⟩:=by kernel_rfl
theorem ty26:tyI jd 26=some ⟨[.int .i64],false,[],0,8⟩:=by kernel_rfl
theorem ty29:tyI jd 29=some ⟨[.str,.int .i64,.int .i64,.int .i64,.slice 41],true,[(0,9),(1,3),(2,3),(3,3),(4,23)],0,64⟩:=by kernel_rfl
theorem ty38:tyI jd 38=some ⟨[.int .i64,.int .i64,.bool,.bool,.int .i64,.int .i64,.int .i64,.int .i64],true,[(0,3),(1,3),(2,4),(3,4),(4,3),(5,3),(6,3),(7,3)],0,56⟩:=by kernel_rfl
theorem eq38:eqT jd 38=true:=by kernel_rfl
theorem ty39:tyI jd 39=some ⟨[.slice 80],false,[],80,24⟩:=by kernel_rfl
theorem sl39:slE jd 39=some (80,⟨[.int .i64,.int .i64],true,[(0,3),(1,3)],0,16⟩):=by kernel_rfl
theorem ty41:tyI jd 41=some ⟨[.str,.int .i64,.int .i64,.bool,.bool,.int .i64,.int .i64,.int .i64,.int .i64,.slice 80,.int .i64],true,[(0,9),(1,38),(9,39),(10,3)],0,104⟩:=by kernel_rfl
theorem ty51:tyI jd 51=some ⟨[.slice 84],false,[],84,24⟩:=by kernel_rfl
theorem sl51:slE jd 51=some (84,⟨[.slice 87],false,[],87,24⟩):=by kernel_rfl
theorem ty80:tyI jd 80=some ⟨[.int .i64,.int .i64],true,[(0,3),(1,3)],0,16⟩:=by kernel_rfl
theorem eq80:eqT jd 80=true:=by kernel_rfl
theorem ty81:tyI jd 81=some ⟨[.slice 3],false,[],3,24⟩:=by kernel_rfl
theorem sl81:slE jd 81=some (3,⟨[.int .i64],false,[],0,8⟩):=by kernel_rfl
theorem ty82:tyI jd 82=some ⟨[.slice 9],false,[],9,24⟩:=by kernel_rfl
theorem sl82:slE jd 82=some (9,⟨[.str],false,[],0,16⟩):=by kernel_rfl
theorem ty84:tyI jd 84=some ⟨[.slice 87],false,[],87,24⟩:=by kernel_rfl
theorem sl84:slE jd 84=some (87,⟨[.int .i64,.slice 5,.slice 5,.bool],true,[(0,3),(1,85),(2,85),(3,4)],0,64⟩):=by kernel_rfl
theorem ty85:tyI jd 85=some ⟨[.slice 5],false,[],5,24⟩:=by kernel_rfl
theorem sl85:slE jd 85=some (5,⟨[.int .u8],false,[],0,1⟩):=by kernel_rfl
theorem ty87:tyI jd 87=some ⟨[.int .i64,.slice 5,.slice 5,.bool],true,[(0,3),(1,85),(2,85),(3,4)],0,64⟩:=by kernel_rfl
theorem hwj:tyI jd 151=some ⟨[.int .u64],false,[],0,8⟩:=by kernel_rfl
theorem hwp:arrI jd 159=some (512,4,⟨[.bool],false,[],0,1⟩):=by kernel_rfl
theorem hwh:tyI jd 159=none:=by kernel_rfl
theorem hwk:slE jd 159=none:=by kernel_rfl
abbrev tys:=(aI (aI (aI (aI (aI @un3 @un5) (aI @un9 @hwq)) (aI (aI @ty3 @ty4) (aI @ty5 (aI @ty9 @str9)))) (aI (aI (aI @ty23 @sl23) (aI @ty25 @ty26)) (aI (aI @ty29 @ty38) (aI @eq38 (aI @ty39 @sl39))))) (aI (aI (aI (aI @ty41 @ty51) (aI @sl51 @ty80)) (aI (aI @eq80 @ty81) (aI @sl81 (aI @ty82 @sl82)))) (aI (aI (aI @ty84 @sl84) (aI @ty85 @sl85)) (aI (aI @ty87 @hwj) (aI @hwp (aI @hwh @hwk))))))
structure TDcb where
 Org:Int
 Format:Int
 Blocked:Bool
 Asa:Bool
 Lrecl:Int
 Blksize:Int
 KeyLen:Int
 KeyPos:Int
 deriving DecidableEq,Inhabited
structure aj0 where
 At:Int
 Len:Int
 deriving DecidableEq,Inhabited
structure ajc where
 Name:List UInt8
 Dcb:TDcb
 Extents:List aj0
 Used:Int
 deriving DecidableEq,Inhabited
structure aja where
 Serial:List UInt8
 Cyls:Int
 Heads:Int
 Size:Int
 Sets:List ajc
 deriving DecidableEq,Inhabited
structure TRec where
 R:Int
 Key:List Int
 Data:List Int
 Bad:Bool
 deriving DecidableEq,Inhabited
def aj2 (x:aj0):List C:=[.int x.At,.int x.Len]
def ajl (c:List C):aj0:=(⟨(cg c 0).toInt,(cg c 1).toInt⟩:aj0)
theorem eq0 (l:List aj0):List.map ajl (List.map aj2 l)=l:=by
 rw [JL];refine (jR fun x _=>?_).trans (List.map_id l)
 show ajl (aj2 x)=x
 simp only [ajl,aj2,cg_zero,cg_succ,C.toBool_bool,C.toInt_int,C.toStr_str,C.toSl_slice]
theorem ekf (l:List aj0) (i:Nat):(cg (eg (List.map aj2 l) i) 0).toInt=(gt l i).At:=by
 rcases jE i l.length with h | h
 ·rw [aw3 _ _ _ h];rfl
 ·rw [akr _ _ _ h,ay4 _ _ h];rfl
theorem eks (l:List aj0) (i:Nat):(cg (eg (List.map aj2 l) i) 1).toInt=(gt l i).Len:=by
 rcases jE i l.length with h | h
 ·rw [aw3 _ _ _ h];rfl
 ·rw [akr _ _ _ h,ay4 _ _ h];rfl
theorem fkd (l:List aj0) (v0:Int) (v1:Int):List.map aj2 l ++ [[.int v0,.int v1]]=List.map aj2 (l ++ [(⟨v0,v1⟩:aj0)]):=by simp [aj2]
theorem dkf (l:List aj0) (i:Nat) (v0:Int) (v1:Int):(List.map aj2 l).set i (ajw (eg (List.map aj2 l) i) 0 [.int v0,.int v1])=List.map aj2 (l.set i (⟨v0,v1⟩:aj0)):=by
 refine aym _ _ _ _ fun h=>?_
 rw [aw3 _ _ _ h];rfl
theorem dz7 (l:List aj0) (i:Nat) (v1:Int):(List.map aj2 l).set i (ajw (eg (List.map aj2 l) i) 1 [.int v1])=List.map aj2 (l.set i (⟨(gt l i).At,v1⟩:aj0)):=by
 refine aym _ _ _ _ fun h=>?_
 rw [aw3 _ _ _ h];rfl
theorem fzy (n:Nat):aqo n [.int 0,.int 0]=List.map aj2 (aqo n (⟨0,0⟩:aj0)):=cyq rfl
def aj5 (x:ajc):List C:=[.str x.Name,.int x.Dcb.Org,.int x.Dcb.Format,.bool x.Dcb.Blocked,.bool x.Dcb.Asa,.int x.Dcb.Lrecl,.int x.Dcb.Blksize,.int x.Dcb.KeyLen,.int x.Dcb.KeyPos,.slice (List.map aj2 x.Extents),.int x.Used]
def aql (c:List C):ajc:=(⟨(cg c 0).toStr,(⟨(cg c 1).toInt,(cg c 2).toInt,(cg c 3).toBool,(cg c 4).toBool,(cg c 5).toInt,(cg c 6).toInt,(cg c 7).toInt,(cg c 8).toInt⟩:TDcb),((cg c 9).toSl.map ajl),(cg c 10).toInt⟩:ajc)
theorem gzh (l:List ajc):List.map aql (List.map aj5 l)=l:=by
 rw [JL];refine (jR fun x _=>?_).trans (List.map_id l)
 show aql (aj5 x)=x
 simp only [aql,aj5,cg_zero,cg_succ,C.toBool_bool,C.toInt_int,C.toStr_str,C.toSl_slice,eq0]
theorem fww (l:List ajc) (i:Nat):(cg (eg (List.map aj5 l) i) 0).toStr=(gt l i).Name:=by
 rcases jE i l.length with h | h
 ·rw [aw3 _ _ _ h];rfl
 ·rw [akr _ _ _ h,ay4 _ _ h];rfl
theorem fzr (l:List ajc) (i:Nat):(cg (eg (List.map aj5 l) i) 1).toInt=(gt l i).Dcb.Org:=by
 rcases jE i l.length with h | h
 ·rw [aw3 _ _ _ h];rfl
 ·rw [akr _ _ _ h,ay4 _ _ h];rfl
theorem fzt (l:List ajc) (i:Nat):(cg (eg (List.map aj5 l) i) 2).toInt=(gt l i).Dcb.Format:=by
 rcases jE i l.length with h | h
 ·rw [aw3 _ _ _ h];rfl
 ·rw [akr _ _ _ h,ay4 _ _ h];rfl
theorem fzm (l:List ajc) (i:Nat):(cg (eg (List.map aj5 l) i) 3).toBool=(gt l i).Dcb.Blocked:=by
 rcases jE i l.length with h | h
 ·rw [aw3 _ _ _ h];rfl
 ·rw [akr _ _ _ h,ay4 _ _ h];rfl
theorem fwi (l:List ajc) (i:Nat):(cg (eg (List.map aj5 l) i) 4).toBool=(gt l i).Dcb.Asa:=by
 rcases jE i l.length with h | h
 ·rw [aw3 _ _ _ h];rfl
 ·rw [akr _ _ _ h,ay4 _ _ h];rfl
theorem fwr (l:List ajc) (i:Nat):(cg (eg (List.map aj5 l) i) 5).toInt=(gt l i).Dcb.Lrecl:=by
 rcases jE i l.length with h | h
 ·rw [aw3 _ _ _ h];rfl
 ·rw [akr _ _ _ h,ay4 _ _ h];rfl
theorem fzo (l:List ajc) (i:Nat):(cg (eg (List.map aj5 l) i) 6).toInt=(gt l i).Dcb.Blksize:=by
 rcases jE i l.length with h | h
 ·rw [aw3 _ _ _ h];rfl
 ·rw [akr _ _ _ h,ay4 _ _ h];rfl
theorem fwt (l:List ajc) (i:Nat):(cg (eg (List.map aj5 l) i) 7).toInt=(gt l i).Dcb.KeyLen:=by
 rcases jE i l.length with h | h
 ·rw [aw3 _ _ _ h];rfl
 ·rw [akr _ _ _ h,ay4 _ _ h];rfl
theorem fwl (l:List ajc) (i:Nat):(cg (eg (List.map aj5 l) i) 8).toInt=(gt l i).Dcb.KeyPos:=by
 rcases jE i l.length with h | h
 ·rw [aw3 _ _ _ h];rfl
 ·rw [akr _ _ _ h,ay4 _ _ h];rfl
theorem fzd (l:List ajc) (i:Nat):(cg (eg (List.map aj5 l) i) 9).toSl=List.map aj2 ((gt l i).Extents):=by
 rcases jE i l.length with h | h
 ·rw [aw3 _ _ _ h];rfl
 ·rw [akr _ _ _ h,ay4 _ _ h];rfl
theorem ey8 (l:List ajc) (i:Nat):(cg (eg (List.map aj5 l) i) 10).toInt=(gt l i).Used:=by
 rcases jE i l.length with h | h
 ·rw [aw3 _ _ _ h];rfl
 ·rw [akr _ _ _ h,ay4 _ _ h];rfl
theorem gwu (l:List ajc) (v0:List UInt8) (v1:Int) (v2:Int) (v3:Bool) (v4:Bool) (v5:Int) (v6:Int) (v7:Int) (v8:Int) (v9:List aj0) (v10:Int):List.map aj5 l ++ [[.str v0,.int v1,.int v2,.bool v3,.bool v4,.int v5,.int v6,.int v7,.int v8,.slice (List.map aj2 v9),.int v10]]=List.map aj5 (l ++ [(⟨v0,(⟨v1,v2,v3,v4,v5,v6,v7,v8⟩:TDcb),v9,v10⟩:ajc)]):=by simp [aj5]
theorem fzb (l:List ajc) (v0:List UInt8) (v1:Int) (v2:Int) (v3:Bool) (v4:Bool) (v5:Int) (v6:Int) (v7:Int) (v8:Int) (v10:Int):List.map aj5 l ++ [[.str v0,.int v1,.int v2,.bool v3,.bool v4,.int v5,.int v6,.int v7,.int v8,.slice [],.int v10]]=List.map aj5 (l ++ [(⟨v0,(⟨v1,v2,v3,v4,v5,v6,v7,v8⟩:TDcb),[],v10⟩:ajc)]):=by simp [aj5]
theorem dye (l:List ajc) (i:Nat) (v0:List UInt8) (v1:Int) (v2:Int) (v3:Bool) (v4:Bool) (v5:Int) (v6:Int) (v7:Int) (v8:Int) (v9:List aj0) (v10:Int):(List.map aj5 l).set i (ajw (eg (List.map aj5 l) i) 0 [.str v0,.int v1,.int v2,.bool v3,.bool v4,.int v5,.int v6,.int v7,.int v8,.slice (List.map aj2 v9),.int v10])=List.map aj5 (l.set i (⟨v0,(⟨v1,v2,v3,v4,v5,v6,v7,v8⟩:TDcb),v9,v10⟩:ajc)):=by
 refine aym _ _ _ _ fun h=>?_
 rw [aw3 _ _ _ h];rfl
theorem eqx (l:List ajc) (i:Nat) (v1:Int) (v2:Int) (v3:Bool) (v4:Bool) (v5:Int) (v6:Int) (v7:Int) (v8:Int):(List.map aj5 l).set i (ajw (eg (List.map aj5 l) i) 1 [.int v1,.int v2,.bool v3,.bool v4,.int v5,.int v6,.int v7,.int v8])=List.map aj5 (l.set i (⟨(gt l i).Name,(⟨v1,v2,v3,v4,v5,v6,v7,v8⟩:TDcb),(gt l i).Extents,(gt l i).Used⟩:ajc)):=by
 refine aym _ _ _ _ fun h=>?_
 rw [aw3 _ _ _ h];rfl
theorem ew4 (l:List ajc) (i:Nat) (v9:List aj0):(List.map aj5 l).set i (ajw (eg (List.map aj5 l) i) 9 [.slice (List.map aj2 v9)])=List.map aj5 (l.set i (⟨(gt l i).Name,((gt l i).Dcb),v9,(gt l i).Used⟩:ajc)):=by
 refine aym _ _ _ _ fun h=>?_
 rw [aw3 _ _ _ h];rfl
theorem dyl (l:List ajc) (i:Nat) (v10:Int):(List.map aj5 l).set i (ajw (eg (List.map aj5 l) i) 10 [.int v10])=List.map aj5 (l.set i (⟨(gt l i).Name,((gt l i).Dcb),(gt l i).Extents,v10⟩:ajc)):=by
 refine aym _ _ _ _ fun h=>?_
 rw [aw3 _ _ _ h];rfl
theorem gz5 (n:Nat):aqo n [.str [],.int 0,.int 0,.bool false,.bool false,.int 0,.int 0,.int 0,.int 0,.slice [],.int 0]=List.map aj5 (aqo n (⟨[],(⟨0,0,false,false,0,0,0,0⟩:TDcb),[],0⟩:ajc)):=cyq rfl
def dja (x:List UInt8):List C:=[.str x]
def gwy (c:List C):List UInt8:=(cg c 0).toStr
theorem hjv (l:List (List UInt8)):List.map gwy (List.map dja l)=l:=by
 rw [JL];refine (jR fun x _=>?_).trans (List.map_id l)
 show gwy (dja x)=x
 simp only [gwy,dja,cg_zero,cg_succ,C.toBool_bool,C.toInt_int,C.toStr_str,C.toSl_slice]
theorem gkk (l:List (List UInt8)) (i:Nat):(cg (eg (List.map dja l) i) 0).toStr=gt l i:=by
 rcases jE i l.length with h | h
 ·rw [aw3 _ _ _ h];rfl
 ·rw [akr _ _ _ h,ay4 _ _ h];rfl
theorem hq9 (l:List (List UInt8)) (v0:List UInt8):List.map dja l ++ [[.str v0]]=List.map dja (l ++ [v0]):=by simp [dja]
def ajz (x:Int):List C:=[.int x]
def dy7 (c:List C):Int:=(cg c 0).toInt
theorem fkm (l:List Int):List.map dy7 (List.map ajz l)=l:=by
 rw [JL];refine (jR fun x _=>?_).trans (List.map_id l)
 show dy7 (ajz x)=x
 simp only [dy7,ajz,cg_zero,cg_succ,C.toBool_bool,C.toInt_int,C.toStr_str,C.toSl_slice]
theorem gzi (l:List Int) (i:Nat):(cg (eg (List.map ajz l) i) 0).toInt=gt l i:=by
 rcases jE i l.length with h | h
 ·rw [aw3 _ _ _ h];rfl
 ·rw [akr _ _ _ h,ay4 _ _ h];rfl
theorem hqk (l:List Int) (v0:Int):List.map ajz l ++ [[.int v0]]=List.map ajz (l ++ [v0]):=by simp [ajz]
theorem eyd (l:List Int) (i:Nat) (v0:Int):(List.map ajz l).set i (ajw (eg (List.map ajz l) i) 0 [.int v0])=List.map ajz (l.set i v0):=by
 refine aym _ _ _ _ fun h=>?_
 rw [aw3 _ _ _ h];rfl
theorem hjw (n:Nat):aqo n [.int 0]=List.map ajz (aqo n 0):=cyq rfl
def aqp (x:TRec):List C:=[.int x.R,.slice (List.map ajz x.Key),.slice (List.map ajz x.Data),.bool x.Bad]
def dy4 (c:List C):TRec:=(⟨(cg c 0).toInt,((cg c 1).toSl.map dy7),((cg c 2).toSl.map dy7),(cg c 3).toBool⟩:TRec)
theorem gj9 (l:List TRec):List.map dy4 (List.map aqp l)=l:=by
 rw [JL];refine (jR fun x _=>?_).trans (List.map_id l)
 show dy4 (aqp x)=x
 simp only [dy4,aqp,cg_zero,cg_succ,C.toBool_bool,C.toInt_int,C.toStr_str,C.toSl_slice,fkm,fkm]
theorem gje (l:List TRec) (i:Nat):(cg (eg (List.map aqp l) i) 0).toInt=(gt l i).R:=by
 rcases jE i l.length with h | h
 ·rw [aw3 _ _ _ h];rfl
 ·rw [akr _ _ _ h,ay4 _ _ h];rfl
theorem fko (l:List TRec) (i:Nat):(cg (eg (List.map aqp l) i) 1).toSl=List.map ajz ((gt l i).Key):=by
 rcases jE i l.length with h | h
 ·rw [aw3 _ _ _ h];rfl
 ·rw [akr _ _ _ h,ay4 _ _ h];rfl
theorem gw3 (l:List TRec) (i:Nat):(cg (eg (List.map aqp l) i) 2).toSl=List.map ajz ((gt l i).Data):=by
 rcases jE i l.length with h | h
 ·rw [aw3 _ _ _ h];rfl
 ·rw [akr _ _ _ h,ay4 _ _ h];rfl
theorem gji (l:List TRec) (i:Nat):(cg (eg (List.map aqp l) i) 3).toBool=(gt l i).Bad:=by
 rcases jE i l.length with h | h
 ·rw [aw3 _ _ _ h];rfl
 ·rw [akr _ _ _ h,ay4 _ _ h];rfl
theorem hj2 (l:List TRec) (v0:Int) (v1:List Int) (v2:List Int) (v3:Bool):List.map aqp l ++ [[.int v0,.slice (List.map ajz v1),.slice (List.map ajz v2),.bool v3]]=List.map aqp (l ++ [(⟨v0,v1,v2,v3⟩:TRec)]):=by simp [aqp]
theorem gqz (l:List TRec) (v0:Int) (v2:List Int) (v3:Bool):List.map aqp l ++ [[.int v0,.slice [],.slice (List.map ajz v2),.bool v3]]=List.map aqp (l ++ [(⟨v0,[],v2,v3⟩:TRec)]):=by simp [aqp]
theorem fys (l:List TRec) (v0:Int) (v1:List Int) (v3:Bool):List.map aqp l ++ [[.int v0,.slice (List.map ajz v1),.slice [],.bool v3]]=List.map aqp (l ++ [(⟨v0,v1,[],v3⟩:TRec)]):=by simp [aqp]
theorem gqg (l:List TRec) (v0:Int) (v3:Bool):List.map aqp l ++ [[.int v0,.slice [],.slice [],.bool v3]]=List.map aqp (l ++ [(⟨v0,[],[],v3⟩:TRec)]):=by simp [aqp]
def aq7 (x:List TRec):List C:=[.slice (List.map aqp x)]
def dq5 (c:List C):List TRec:=((cg c 0).toSl.map dy4)
theorem gwd (l:List (List TRec)):List.map dq5 (List.map aq7 l)=l:=by
 rw [JL];refine (jR fun x _=>?_).trans (List.map_id l)
 show dq5 (aq7 x)=x
 simp only [dq5,aq7,cg_zero,cg_succ,C.toBool_bool,C.toInt_int,C.toStr_str,C.toSl_slice,gj9]
theorem fwx (l:List (List TRec)) (i:Nat):(cg (eg (List.map aq7 l) i) 0).toSl=List.map aqp (gt l i):=by
 rcases jE i l.length with h | h
 ·rw [aw3 _ _ _ h];rfl
 ·rw [akr _ _ _ h,ay4 _ _ h];rfl
theorem gki (l:List (List TRec)) (v0:List TRec):List.map aq7 l ++ [[.slice (List.map aqp v0)]]=List.map aq7 (l ++ [v0]):=by simp [aq7]
theorem fwu (l:List (List TRec))  : List.map aq7 l ++ [[.slice []]]=List.map aq7 (l ++ [[]]):=by simp [aq7]
def aze (x:Bool):List C:=[.bool x]
def eke (c:List C):Bool:=(cg c 0).toBool
theorem hj7 (l:List Bool):List.map eke (List.map aze l)=l:=by
 rw [JL];refine (jR fun x _=>?_).trans (List.map_id l)
 show eke (aze x)=x
 simp only [eke,aze,cg_zero,cg_succ,C.toBool_bool,C.toInt_int,C.toStr_str,C.toSl_slice]
theorem gj3 (l:List Bool) (i:Nat):(cg (eg (List.map aze l) i) 0).toBool=gt l i:=by
 rcases jE i l.length with h | h
 ·rw [aw3 _ _ _ h];rfl
 ·rw [akr _ _ _ h,ay4 _ _ h];rfl
theorem hj1 (l:List Bool) (v0:Bool):List.map aze l ++ [[.bool v0]]=List.map aze (l ++ [v0]):=by simp [aze]
theorem ezf (l:List Bool) (i:Nat) (v0:Bool):(List.map aze l).set i (ajw (eg (List.map aze l) i) 0 [.bool v0])=List.map aze (l.set i v0):=by
 refine aym _ _ _ _ fun h=>?_
 rw [aw3 _ _ _ h];rfl
theorem hjf (n:Nat):aqo n [.bool false]=List.map aze (aqo n false):=cyq rfl
theorem gkf (x:TDcb):(⟨x.Org,x.Format,x.Blocked,x.Asa,x.Lrecl,x.Blksize,x.KeyLen,x.KeyPos⟩:TDcb)=x:=rfl
theorem fjd (x:aj0):(⟨x.At,x.Len⟩:aj0)=x:=rfl
theorem fyt (x:ajc):(⟨x.Name,x.Dcb,x.Extents,x.Used⟩:ajc)=x:=rfl
theorem gqx (x:aja):(⟨x.Serial,x.Cyls,x.Heads,x.Size,x.Sets⟩:aja)=x:=rfl
theorem gzl (x:TRec):(⟨x.R,x.Key,x.Data,x.Bad⟩:TRec)=x:=rfl
theorem hq5 (s:List UInt8):row8 s=List.map ajz (ckn s):=gz7 ajz (fun _=>rfl) s
theorem hqt (l:List Int):str8 (List.map ajz l)=bzm l:=gwm ajz (fun _=>rfl) l
abbrev tl:=(aI (aI (aI (aI (aI (aI @eq0 @aj2.eq_1) (aI @ajl.eq_1 @ekf)) (aI (aI @eks @fkd) (aI @dkf (aI @dz7 @fzy)))) (aI (aI (aI @gzh @aj5.eq_1) (aI @aql.eq_1 (aI @fww @fzr))) (aI (aI @fzt @fzm) (aI @fwi (aI @fwr @fzo))))) (aI (aI (aI (aI @fwt @fwl) (aI @fzd (aI @ey8 @gwu))) (aI (aI @fzb @dye) (aI @eqx (aI @ew4 @dyl)))) (aI (aI (aI @gz5 @hjv) (aI @dja.eq_1 (aI @gwy.eq_1 @gkk))) (aI (aI @hq9 @fkm) (aI @ajz.eq_1 (aI @dy7.eq_1 @gzi)))))) (aI (aI (aI (aI (aI @hqk @eyd) (aI @hjw (aI @gj9 @aqp.eq_1))) (aI (aI @dy4.eq_1 @gje) (aI @fko (aI @gw3 @gji)))) (aI (aI (aI @hj2 @gqz) (aI @fys (aI @gqg @gwd))) (aI (aI @aq7.eq_1 @dq5.eq_1) (aI @fwx (aI @gki @fwu))))) (aI (aI (aI (aI @hj7 @aze.eq_1) (aI @eke.eq_1 (aI @gj3 @hj1))) (aI (aI @ezf @hjf) (aI @gkf (aI @fjd @fyt)))) (aI (aI (aI @gqx @gzl) (aI @hq5 (aI @hqt @ezk))) (aI (aI @fz7 @gyw) (aI @gyj (aI @gwe @fy9)))))))
abbrev z:=(aI (aI ev ew) (aI tys tl))
end Go.Proofs.YtijnkhcfondehaaGreatDoor
