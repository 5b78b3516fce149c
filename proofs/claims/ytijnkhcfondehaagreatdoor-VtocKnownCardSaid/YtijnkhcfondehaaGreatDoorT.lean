/- Text. -/
import Derived.Test.YtijnkhcfondehaaGreatDoorAE19
import Derived.Test.YtijnkhcfondehaaGreatDoorAE41
import Derived.Test.YtijnkhcfondehaaGreatDoorAE53
import Derived.Test.YtijnkhcfondehaaGreatDoorAE28
import Derived.Test.YtijnkhcfondehaaGreatDoorRows
set_option maxHeartbeats 8000000
set_option linter.unusedVariables false
set_option linter.unusedSimpArgs false
set_option maxRecDepth 100000
open _root_.List renaming map_map→JA,map_congr_left→jQ
open _root_.Nat renaming lt_or_ge→jz
open Go.Proofs.Tryz renaming prog→jd
namespace Go.Proofs.YtijnkhcfondehaaGreatDoor
open Go.AE
theorem h00:tyI jd 0=none:=by kernel_rfl
theorem mixed:jd.follows .mixedOrders=true:=by kernel_rfl
theorem un3:jd.underlying 3=some (.int .i64):=by kernel_rfl
theorem un5:jd.underlying 5=some (.int .u8):=by kernel_rfl
theorem un9:jd.underlying 9=some .string:=by kernel_rfl
theorem gkt:jd.underlying 151=some (.int .u64):=by kernel_rfl
theorem ty3:tyI jd 3=some ⟨[.int .i64],false,[],0,8⟩:=by kernel_rfl
theorem ty4:tyI jd 4=some ⟨[.bool],false,[],0,1⟩:=by kernel_rfl
theorem ty5:tyI jd 5=some ⟨[.int .u8],false,[],0,1⟩:=by kernel_rfl
theorem ty9:tyI jd 9=some ⟨[.str],false,[],0,16⟩:=by kernel_rfl
theorem str9:dk8 jd 9=true:=by kernel_rfl
theorem ty23:tyI jd 23=some ⟨[.slice 41],false,[],41,24⟩:=by kernel_rfl
theorem sl23:slE jd 23=some (41,⟨[.str,.int .i64,.int .i64,.bool,.bool,.int .i64,.int .i64,.int .i64,.int .i64,.slice 80,.int .i64],true,[(0,9),(1,38),(9,39),(10,3)],0,104⟩):=by kernel_rfl
theorem ty25:tyI jd 25=some ⟨[.str,.int .i64,.int .i64,.int .i64,.slice 41],true,[(0,9),(1,3),(2,3),(3,3),(4,23)],0,64⟩:=by kernel_rfl
theorem ty26:tyI jd 26=some ⟨[.int .i64],false,[],0,8⟩:=by kernel_rfl
theorem ty29:tyI jd 29=some ⟨[.str,.int .i64,.int .i64,.int .i64,.slice 41],true,[(0,9),(1,3),(2,3),(3,3),(4,23)],0,64⟩:=by kernel_rfl
theorem ty38:tyI jd 38=some ⟨[.int .i64,.int .i64,.bool,.bool,.int .i64,.int .i64,.int .i64,.int .i64],true,[(0,3),(1,3),(2,4),(3,4),(4,3),(5,3),(6,3),(7,3)],0,56⟩:=by kernel_rfl
theorem eq38:eqT jd 38=true:=by kernel_rfl
theorem ty39:tyI jd 39=some ⟨[.slice 80],false,[],80,24⟩:=by kernel_rfl
theorem sl39:slE jd 39=some (80,⟨[.int .i64,.int .i64],true,[(0,3),(1,3)],0,16⟩):=by kernel_rfl
theorem ty41:tyI jd 41=some ⟨[.str,.int .i64,.int .i64,.bool,.bool,.int .i64,.int .i64,.int .i64,.int .i64,.slice 80,.int .i64],true,[(0,9),(1,38),(9,39),(10,3)],0,104⟩:=by kernel_rfl
theorem ty51:tyI jd 51=some ⟨[.slice 84],false,[],84,24⟩:=by kernel_rfl
theorem sl51:slE jd 51=some (84,⟨[.slice 87],false,[],87,24⟩):=by kernel_rfl
theorem ty80:tyI jd 80=some ⟨[.int .i64,.int .i64],true,[(0,3),(1,3)],0,16⟩:=by kernel_rfl
theorem eq80:eqT jd 80=true:=by kernel_rfl
theorem ty81:tyI jd 81=some ⟨[.slice 3],false,[],3,24⟩:=by kernel_rfl
theorem sl81:slE jd 81=some (3,⟨[.int .i64],false,[],0,8⟩):=by kernel_rfl
theorem ty82:tyI jd 82=some ⟨[.slice 9],false,[],9,24⟩:=by kernel_rfl
theorem sl82:slE jd 82=some (9,⟨[.str],false,[],0,16⟩):=by kernel_rfl
theorem ty84:tyI jd 84=some ⟨[.slice 87],false,[],87,24⟩:=by kernel_rfl
theorem sl84:slE jd 84=some (87,⟨[.int .i64,.slice 5,.slice 5,.bool],true,[(0,3),(1,85),(2,85),(3,4)],0,64⟩):=by kernel_rfl
theorem ty85:tyI jd 85=some ⟨[.slice 5],false,[],5,24⟩:=by kernel_rfl
theorem sl85:slE jd 85=some (5,⟨[.int .u8],false,[],0,1⟩):=by kernel_rfl
theorem ty87:tyI jd 87=some ⟨[.int .i64,.slice 5,.slice 5,.bool],true,[(0,3),(1,85),(2,85),(3,4)],0,64⟩:=by kernel_rfl
theorem gkm:tyI jd 151=some ⟨[.int .u64],false,[],0,8⟩:=by kernel_rfl
theorem gks:arrI jd 159=some (512,4,⟨[.bool],false,[],0,1⟩):=by kernel_rfl
theorem gkk:tyI jd 159=none:=by kernel_rfl
theorem gkn:slE jd 159=none:=by kernel_rfl
abbrev tys:=(aI (aI (aI (aI (aI @un3 @un5) (aI @un9 @gkt)) (aI (aI @ty3 @ty4) (aI @ty5 (aI @ty9 @str9)))) (aI (aI (aI @ty23 @sl23) (aI @ty25 @ty26)) (aI (aI @ty29 @ty38) (aI @eq38 (aI @ty39 @sl39))))) (aI (aI (aI (aI @ty41 @ty51) (aI @sl51 @ty80)) (aI (aI @eq80 @ty81) (aI @sl81 (aI @ty82 @sl82)))) (aI (aI (aI @ty84 @sl84) (aI @ty85 @sl85)) (aI (aI @ty87 @gkm) (aI @gks (aI @gkk @gkn))))))
structure TDcb where
 Org:Int
 Format:Int
 Blocked:Bool
 Asa:Bool
 Lrecl:Int
 Blksize:Int
 KeyLen:Int
 KeyPos:Int
 deriving DecidableEq,Inhabited
structure aj0 where
 At:Int
 Len:Int
 deriving DecidableEq,Inhabited
structure aja where
 Name:List UInt8
 Dcb:TDcb
 Extents:List aj0
 Used:Int
 deriving DecidableEq,Inhabited
structure aj9 where
 Serial:List UInt8
 Cyls:Int
 Heads:Int
 Size:Int
 Sets:List aja
 deriving DecidableEq,Inhabited
structure TRec where
 R:Int
 Key:List Int
 Data:List Int
 Bad:Bool
 deriving DecidableEq,Inhabited
def aj2 (x:aj0):List C:=[.int x.At,.int x.Len]
def aji (c:List C):aj0:=(⟨(cg c 0).toInt,(cg c 1).toInt⟩:aj0)
theorem aym (l:List aj0):List.map aji (List.map aj2 l)=l:=by
 rw [JA];refine (jQ fun x _=>?_).trans (List.map_id l)
 show aji (aj2 x)=x
 simp only [aji,aj2,cg_zero,cg_succ,C.toBool_bool,C.toInt_int,C.toStr_str,C.toSl_slice]
theorem ek7 (l:List aj0) (i:Nat):(cg (eg (List.map aj2 l) i) 0).toInt=(gt l i).At:=by
 rcases jz i l.length with h | h
 ·rw [aqx _ _ _ h];rfl
 ·rw [ak7 _ _ _ h,akd _ _ h];rfl
theorem ekg (l:List aj0) (i:Nat):(cg (eg (List.map aj2 l) i) 1).toInt=(gt l i).Len:=by
 rcases jz i l.length with h | h
 ·rw [aqx _ _ _ h];rfl
 ·rw [ak7 _ _ _ h,akd _ _ h];rfl
theorem fz8 (l:List aj0) (v0:Int) (v1:Int):List.map aj2 l ++ [[.int v0,.int v1]]=List.map aj2 (l ++ [(⟨v0,v1⟩:aj0)]):=by simp [aj2]
theorem dkt (l:List aj0) (i:Nat) (v0:Int) (v1:Int):(List.map aj2 l).set i (ajt (eg (List.map aj2 l) i) 0 [.int v0,.int v1])=List.map aj2 (l.set i (⟨v0,v1⟩:aj0)):=by
 refine ako _ _ _ _ fun h=>?_
 rw [aqx _ _ _ h];rfl
theorem dzt (l:List aj0) (i:Nat) (v1:Int):(List.map aj2 l).set i (ajt (eg (List.map aj2 l) i) 1 [.int v1])=List.map aj2 (l.set i (⟨(gt l i).At,v1⟩:aj0)):=by
 refine ako _ _ _ _ fun h=>?_
 rw [aqx _ _ _ h];rfl
theorem fwv (n:Nat):aqt n [.int 0,.int 0]=List.map aj2 (aqt n (⟨0,0⟩:aj0)):=dj6 rfl
def aj4 (x:aja):List C:=[.str x.Name,.int x.Dcb.Org,.int x.Dcb.Format,.bool x.Dcb.Blocked,.bool x.Dcb.Asa,.int x.Dcb.Lrecl,.int x.Dcb.Blksize,.int x.Dcb.KeyLen,.int x.Dcb.KeyPos,.slice (List.map aj2 x.Extents),.int x.Used]
def aqi (c:List C):aja:=(⟨(cg c 0).toStr,(⟨(cg c 1).toInt,(cg c 2).toInt,(cg c 3).toBool,(cg c 4).toBool,(cg c 5).toInt,(cg c 6).toInt,(cg c 7).toInt,(cg c 8).toInt⟩:TDcb),((cg c 9).toSl.map aji),(cg c 10).toInt⟩:aja)
theorem gq5 (l:List aja):List.map aqi (List.map aj4 l)=l:=by
 rw [JA];refine (jQ fun x _=>?_).trans (List.map_id l)
 show aqi (aj4 x)=x
 simp only [aqi,aj4,cg_zero,cg_succ,C.toBool_bool,C.toInt_int,C.toStr_str,C.toSl_slice,aym]
theorem fqw (l:List aja) (i:Nat):(cg (eg (List.map aj4 l) i) 0).toStr=(gt l i).Name:=by
 rcases jz i l.length with h | h
 ·rw [aqx _ _ _ h];rfl
 ·rw [ak7 _ _ _ h,akd _ _ h];rfl
theorem fwo (l:List aja) (i:Nat):(cg (eg (List.map aj4 l) i) 1).toInt=(gt l i).Dcb.Org:=by
 rcases jz i l.length with h | h
 ·rw [aqx _ _ _ h];rfl
 ·rw [ak7 _ _ _ h,akd _ _ h];rfl
theorem fwq (l:List aja) (i:Nat):(cg (eg (List.map aj4 l) i) 2).toInt=(gt l i).Dcb.Format:=by
 rcases jz i l.length with h | h
 ·rw [aqx _ _ _ h];rfl
 ·rw [ak7 _ _ _ h,akd _ _ h];rfl
theorem fwk (l:List aja) (i:Nat):(cg (eg (List.map aj4 l) i) 3).toBool=(gt l i).Dcb.Blocked:=by
 rcases jz i l.length with h | h
 ·rw [aqx _ _ _ h];rfl
 ·rw [ak7 _ _ _ h,akd _ _ h];rfl
theorem fqk (l:List aja) (i:Nat):(cg (eg (List.map aj4 l) i) 4).toBool=(gt l i).Dcb.Asa:=by
 rcases jz i l.length with h | h
 ·rw [aqx _ _ _ h];rfl
 ·rw [ak7 _ _ _ h,akd _ _ h];rfl
theorem fqs (l:List aja) (i:Nat):(cg (eg (List.map aj4 l) i) 5).toInt=(gt l i).Dcb.Lrecl:=by
 rcases jz i l.length with h | h
 ·rw [aqx _ _ _ h];rfl
 ·rw [ak7 _ _ _ h,akd _ _ h];rfl
theorem fwl (l:List aja) (i:Nat):(cg (eg (List.map aj4 l) i) 6).toInt=(gt l i).Dcb.Blksize:=by
 rcases jz i l.length with h | h
 ·rw [aqx _ _ _ h];rfl
 ·rw [ak7 _ _ _ h,akd _ _ h];rfl
theorem fqu (l:List aja) (i:Nat):(cg (eg (List.map aj4 l) i) 7).toInt=(gt l i).Dcb.KeyLen:=by
 rcases jz i l.length with h | h
 ·rw [aqx _ _ _ h];rfl
 ·rw [ak7 _ _ _ h,akd _ _ h];rfl
theorem fqn (l:List aja) (i:Nat):(cg (eg (List.map aj4 l) i) 8).toInt=(gt l i).Dcb.KeyPos:=by
 rcases jz i l.length with h | h
 ·rw [aqx _ _ _ h];rfl
 ·rw [ak7 _ _ _ h,akd _ _ h];rfl
theorem fwb (l:List aja) (i:Nat):(cg (eg (List.map aj4 l) i) 9).toSl=List.map aj2 ((gt l i).Extents):=by
 rcases jz i l.length with h | h
 ·rw [aqx _ _ _ h];rfl
 ·rw [ak7 _ _ _ h,akd _ _ h];rfl
theorem ekv (l:List aja) (i:Nat):(cg (eg (List.map aj4 l) i) 10).toInt=(gt l i).Used:=by
 rcases jz i l.length with h | h
 ·rw [aqx _ _ _ h];rfl
 ·rw [ak7 _ _ _ h,akd _ _ h];rfl
theorem gjq (l:List aja) (v0:List UInt8) (v1:Int) (v2:Int) (v3:Bool) (v4:Bool) (v5:Int) (v6:Int) (v7:Int) (v8:Int) (v9:List aj0) (v10:Int):List.map aj4 l ++ [[.str v0,.int v1,.int v2,.bool v3,.bool v4,.int v5,.int v6,.int v7,.int v8,.slice (List.map aj2 v9),.int v10]]=List.map aj4 (l ++ [(⟨v0,(⟨v1,v2,v3,v4,v5,v6,v7,v8⟩:TDcb),v9,v10⟩:aja)]):=by simp [aj4]
theorem fw9 (l:List aja) (v0:List UInt8) (v1:Int) (v2:Int) (v3:Bool) (v4:Bool) (v5:Int) (v6:Int) (v7:Int) (v8:Int) (v10:Int):List.map aj4 l ++ [[.str v0,.int v1,.int v2,.bool v3,.bool v4,.int v5,.int v6,.int v7,.int v8,.slice [],.int v10]]=List.map aj4 (l ++ [(⟨v0,(⟨v1,v2,v3,v4,v5,v6,v7,v8⟩:TDcb),[],v10⟩:aja)]):=by simp [aj4]
theorem dyx (l:List aja) (i:Nat) (v0:List UInt8) (v1:Int) (v2:Int) (v3:Bool) (v4:Bool) (v5:Int) (v6:Int) (v7:Int) (v8:Int) (v9:List aj0) (v10:Int):(List.map aj4 l).set i (ajt (eg (List.map aj4 l) i) 0 [.str v0,.int v1,.int v2,.bool v3,.bool v4,.int v5,.int v6,.int v7,.int v8,.slice (List.map aj2 v9),.int v10])=List.map aj4 (l.set i (⟨v0,(⟨v1,v2,v3,v4,v5,v6,v7,v8⟩:TDcb),v9,v10⟩:aja)):=by
 refine ako _ _ _ _ fun h=>?_
 rw [aqx _ _ _ h];rfl
theorem ew0 (l:List aja) (i:Nat) (v1:Int) (v2:Int) (v3:Bool) (v4:Bool) (v5:Int) (v6:Int) (v7:Int) (v8:Int):(List.map aj4 l).set i (ajt (eg (List.map aj4 l) i) 1 [.int v1,.int v2,.bool v3,.bool v4,.int v5,.int v6,.int v7,.int v8])=List.map aj4 (l.set i (⟨(gt l i).Name,(⟨v1,v2,v3,v4,v5,v6,v7,v8⟩:TDcb),(gt l i).Extents,(gt l i).Used⟩:aja)):=by
 refine ako _ _ _ _ fun h=>?_
 rw [aqx _ _ _ h];rfl
theorem ew8 (l:List aja) (i:Nat) (v9:List aj0):(List.map aj4 l).set i (ajt (eg (List.map aj4 l) i) 9 [.slice (List.map aj2 v9)])=List.map aj4 (l.set i (⟨(gt l i).Name,((gt l i).Dcb),v9,(gt l i).Used⟩:aja)):=by
 refine ako _ _ _ _ fun h=>?_
 rw [aqx _ _ _ h];rfl
theorem ej4 (l:List aja) (i:Nat) (v10:Int):(List.map aj4 l).set i (ajt (eg (List.map aj4 l) i) 10 [.int v10])=List.map aj4 (l.set i (⟨(gt l i).Name,((gt l i).Dcb),(gt l i).Extents,v10⟩:aja)):=by
 refine ako _ _ _ _ fun h=>?_
 rw [aqx _ _ _ h];rfl
theorem gjy (n:Nat):aqt n [.str [],.int 0,.int 0,.bool false,.bool false,.int 0,.int 0,.int 0,.int 0,.slice [],.int 0]=List.map aj4 (aqt n (⟨[],(⟨0,0,false,false,0,0,0,0⟩:TDcb),[],0⟩:aja)):=dj6 rfl
def djr (x:List UInt8):List C:=[.str x]
def gjs (c:List C):List UInt8:=(cg c 0).toStr
theorem gzh (l:List (List UInt8)):List.map gjs (List.map djr l)=l:=by
 rw [JA];refine (jQ fun x _=>?_).trans (List.map_id l)
 show gjs (djr x)=x
 simp only [gjs,djr,cg_zero,cg_succ,C.toBool_bool,C.toInt_int,C.toStr_str,C.toSl_slice]
theorem gqx (l:List (List UInt8)) (i:Nat):(cg (eg (List.map djr l) i) 0).toStr=gt l i:=by
 rcases jz i l.length with h | h
 ·rw [aqx _ _ _ h];rfl
 ·rw [ak7 _ _ _ h,akd _ _ h];rfl
theorem gzr (l:List (List UInt8)) (v0:List UInt8):List.map djr l ++ [[.str v0]]=List.map djr (l ++ [v0]):=by simp [djr]
def ajw (x:Int):List C:=[.int x]
def dyq (c:List C):Int:=(cg c 0).toInt
theorem fzd (l:List Int):List.map dyq (List.map ajw l)=l:=by
 rw [JA];refine (jQ fun x _=>?_).trans (List.map_id l)
 show dyq (ajw x)=x
 simp only [dyq,ajw,cg_zero,cg_succ,C.toBool_bool,C.toInt_int,C.toStr_str,C.toSl_slice]
theorem gq6 (l:List Int) (i:Nat):(cg (eg (List.map ajw l) i) 0).toInt=gt l i:=by
 rcases jz i l.length with h | h
 ·rw [aqx _ _ _ h];rfl
 ·rw [ak7 _ _ _ h,akd _ _ h];rfl
theorem gk0 (l:List Int) (v0:Int):List.map ajw l ++ [[.int v0]]=List.map ajw (l ++ [v0]):=by simp [ajw]
theorem ekx (l:List Int) (i:Nat) (v0:Int):(List.map ajw l).set i (ajt (eg (List.map ajw l) i) 0 [.int v0])=List.map ajw (l.set i v0):=by
 refine ako _ _ _ _ fun h=>?_
 rw [aqx _ _ _ h];rfl
theorem gzi (n:Nat):aqt n [.int 0]=List.map ajw (aqt n 0):=dj6 rfl
def aqm (x:TRec):List C:=[.int x.R,.slice (List.map ajw x.Key),.slice (List.map ajw x.Data),.bool x.Bad]
def dyo (c:List C):TRec:=(⟨(cg c 0).toInt,((cg c 1).toSl.map dyq),((cg c 2).toSl.map dyq),(cg c 3).toBool⟩:TRec)
theorem fko (l:List TRec):List.map dyo (List.map aqm l)=l:=by
 rw [JA];refine (jQ fun x _=>?_).trans (List.map_id l)
 show dyo (aqm x)=x
 simp only [dyo,aqm,cg_zero,cg_succ,C.toBool_bool,C.toInt_int,C.toStr_str,C.toSl_slice,fzd,fzd]
theorem fkr (l:List TRec) (i:Nat):(cg (eg (List.map aqm l) i) 0).toInt=(gt l i).R:=by
 rcases jz i l.length with h | h
 ·rw [aqx _ _ _ h];rfl
 ·rw [ak7 _ _ _ h,akd _ _ h];rfl
theorem fzg (l:List TRec) (i:Nat):(cg (eg (List.map aqm l) i) 1).toSl=List.map ajw ((gt l i).Key):=by
 rcases jz i l.length with h | h
 ·rw [aqx _ _ _ h];rfl
 ·rw [ak7 _ _ _ h,akd _ _ h];rfl
theorem gj2 (l:List TRec) (i:Nat):(cg (eg (List.map aqm l) i) 2).toSl=List.map ajw ((gt l i).Data):=by
 rcases jz i l.length with h | h
 ·rw [aqx _ _ _ h];rfl
 ·rw [ak7 _ _ _ h,akd _ _ h];rfl
theorem fkt (l:List TRec) (i:Nat):(cg (eg (List.map aqm l) i) 3).toBool=(gt l i).Bad:=by
 rcases jz i l.length with h | h
 ·rw [aqx _ _ _ h];rfl
 ·rw [ak7 _ _ _ h,akd _ _ h];rfl
theorem gz0 (l:List TRec) (v0:Int) (v1:List Int) (v2:List Int) (v3:Bool):List.map aqm l ++ [[.int v0,.slice (List.map ajw v1),.slice (List.map ajw v2),.bool v3]]=List.map aqm (l ++ [(⟨v0,v1,v2,v3⟩:TRec)]):=by simp [aqm]
theorem fyz (l:List TRec) (v0:Int) (v2:List Int) (v3:Bool):List.map aqm l ++ [[.int v0,.slice [],.slice (List.map ajw v2),.bool v3]]=List.map aqm (l ++ [(⟨v0,[],v2,v3⟩:TRec)]):=by simp [aqm]
theorem fkc (l:List TRec) (v0:Int) (v1:List Int) (v3:Bool):List.map aqm l ++ [[.int v0,.slice (List.map ajw v1),.slice [],.bool v3]]=List.map aqm (l ++ [(⟨v0,v1,[],v3⟩:TRec)]):=by simp [aqm]
theorem fyk (l:List TRec) (v0:Int) (v3:Bool):List.map aqm l ++ [[.int v0,.slice [],.slice [],.bool v3]]=List.map aqm (l ++ [(⟨v0,[],[],v3⟩:TRec)]):=by simp [aqm]
def aq3 (x:List TRec):List C:=[.slice (List.map aqm x)]
def dqs (c:List C):List TRec:=((cg c 0).toSl.map dyo)
theorem gjb (l:List (List TRec)):List.map dqs (List.map aq3 l)=l:=by
 rw [JA];refine (jQ fun x _=>?_).trans (List.map_id l)
 show dqs (aq3 x)=x
 simp only [dqs,aq3,cg_zero,cg_succ,C.toBool_bool,C.toInt_int,C.toStr_str,C.toSl_slice,fko]
theorem fqx (l:List (List TRec)) (i:Nat):(cg (eg (List.map aq3 l) i) 0).toSl=List.map aqm (gt l i):=by
 rcases jz i l.length with h | h
 ·rw [aqx _ _ _ h];rfl
 ·rw [ak7 _ _ _ h,akd _ _ h];rfl
theorem gqv (l:List (List TRec)) (v0:List TRec):List.map aq3 l ++ [[.slice (List.map aqm v0)]]=List.map aq3 (l ++ [v0]):=by simp [aq3]
theorem fqv (l:List (List TRec))  : List.map aq3 l ++ [[.slice []]]=List.map aq3 (l ++ [[]]):=by simp [aq3]
def awx (x:Bool):List C:=[.bool x]
def ek6 (c:List C):Bool:=(cg c 0).toBool
theorem gz5 (l:List Bool):List.map ek6 (List.map awx l)=l:=by
 rw [JA];refine (jQ fun x _=>?_).trans (List.map_id l)
 show ek6 (awx x)=x
 simp only [ek6,awx,cg_zero,cg_succ,C.toBool_bool,C.toInt_int,C.toStr_str,C.toSl_slice]
theorem fkk (l:List Bool) (i:Nat):(cg (eg (List.map awx l) i) 0).toBool=gt l i:=by
 rcases jz i l.length with h | h
 ·rw [aqx _ _ _ h];rfl
 ·rw [ak7 _ _ _ h,akd _ _ h];rfl
theorem gwz (l:List Bool) (v0:Bool):List.map awx l ++ [[.bool v0]]=List.map awx (l ++ [v0]):=by simp [awx]
theorem ezc (l:List Bool) (i:Nat) (v0:Bool):(List.map awx l).set i (ajt (eg (List.map awx l) i) 0 [.bool v0])=List.map awx (l.set i v0):=by
 refine ako _ _ _ _ fun h=>?_
 rw [aqx _ _ _ h];rfl
theorem gza (n:Nat):aqt n [.bool false]=List.map awx (aqt n false):=dj6 rfl
theorem gqs (x:TDcb):(⟨x.Org,x.Format,x.Blocked,x.Asa,x.Lrecl,x.Blksize,x.KeyLen,x.KeyPos⟩:TDcb)=x:=rfl
theorem eyw (x:aj0):(⟨x.At,x.Len⟩:aj0)=x:=rfl
theorem fkd (x:aja):(⟨x.Name,x.Dcb,x.Extents,x.Used⟩:aja)=x:=rfl
theorem fyx (x:aj9):(⟨x.Serial,x.Cyls,x.Heads,x.Size,x.Sets⟩:aj9)=x:=rfl
theorem gq8 (x:TRec):(⟨x.R,x.Key,x.Data,x.Bad⟩:TRec)=x:=rfl
theorem gzn (s:List UInt8):row8 s=List.map ajw (ckx s):=gjz ajw (fun _=>rfl) s
theorem gk5 (l:List Int):str8 (List.map ajw l)=bje l:=gjj ajw (fun _=>rfl) l
abbrev tl:=(aI (aI (aI (aI (aI (aI @aym @aj2.eq_1) (aI @aji.eq_1 @ek7)) (aI (aI @ekg @fz8) (aI @dkt (aI @dzt @fwv)))) (aI (aI (aI @gq5 @aj4.eq_1) (aI @aqi.eq_1 (aI @fqw @fwo))) (aI (aI @fwq @fwk) (aI @fqk (aI @fqs @fwl))))) (aI (aI (aI (aI @fqu @fqn) (aI @fwb (aI @ekv @gjq))) (aI (aI @fw9 @dyx) (aI @ew0 (aI @ew8 @ej4)))) (aI (aI (aI @gjy @gzh) (aI @djr.eq_1 (aI @gjs.eq_1 @gqx))) (aI (aI @gzr @fzd) (aI @ajw.eq_1 (aI @dyq.eq_1 @gq6)))))) (aI (aI (aI (aI (aI @gk0 @ekx) (aI @gzi (aI @fko @aqm.eq_1))) (aI (aI @dyo.eq_1 @fkr) (aI @fzg (aI @gj2 @fkt)))) (aI (aI (aI @gz0 @fyz) (aI @fkc (aI @fyk @gjb))) (aI (aI @aq3.eq_1 @dqs.eq_1) (aI @fqx (aI @gqv @fqv))))) (aI (aI (aI (aI @gz5 @awx.eq_1) (aI @ek6.eq_1 (aI @fkk @gwz))) (aI (aI @ezc @gza) (aI @gqs (aI @eyw @fkd)))) (aI (aI (aI @fyx @gq8) (aI @gzn (aI @gk5 @ezf))) (aI (aI @fw6 @gww) (aI @gwp (aI @gjc @fzx)))))))
abbrev z:=(aI (aI ev ew) (aI tys tl))
end Go.Proofs.YtijnkhcfondehaaGreatDoor
