/- Text. -/
import Derived.Test.YtijnkhcfondehaaGreatDoorAE19
import Derived.Test.YtijnkhcfondehaaGreatDoorAE41
import Derived.Test.YtijnkhcfondehaaGreatDoorAE28
import Derived.Test.YtijnkhcfondehaaGreatDoorRows
set_option maxHeartbeats 8000000
set_option linter.unusedVariables false
set_option linter.unusedSimpArgs false
set_option maxRecDepth 100000
open _root_.List renaming map_map→JR,map_congr_left→j6
open _root_.Nat renaming lt_or_ge→jq
open Go.Proofs.Tryz renaming prog→jd
namespace Go.Proofs.YtijnkhcfondehaaGreatDoor
open Go.AE
theorem h00:tyI jd 0=none:=by kernel_rfl
theorem mixed:jd.follows .mixedOrders=true:=by kernel_rfl
theorem un3:jd.underlying 3=some (.int .i64):=by kernel_rfl
theorem un151:jd.underlying 151=some (.int .u64):=by kernel_rfl
theorem ty3:tyI jd 3=some ⟨[.int .i64],false,[],0,8⟩:=by kernel_rfl
theorem ty4:tyI jd 4=some ⟨[.bool],false,[],0,1⟩:=by kernel_rfl
theorem ty5:tyI jd 5=some ⟨[.int .u8],false,[],0,1⟩:=by kernel_rfl
theorem ty9:tyI jd 9=some ⟨[.str],false,[],0,16⟩:=by kernel_rfl
theorem str9:isStrT jd 9=true:=by kernel_rfl
theorem ty23:tyI jd 23=some ⟨[.slice 41],false,[],41,24⟩:=by kernel_rfl
theorem sl23:slE jd 23=some (41,⟨[.str,.int .i64,.int .i64,.bool,.bool,.int .i64,.int .i64,.int .i64,.int .i64,.slice 80,.int .i64],true,[(0,9),(1,38),(9,39),(10,3)],0,104⟩):=by kernel_rfl
theorem ty25:tyI jd 25=some ⟨[.str,.int .i64,.int .i64,.int .i64,.slice 41],true,[(0,9),(1,3),(2,3),(3,3),(4,23)],0,64⟩:=by kernel_rfl
theorem ty26:tyI jd 26=some ⟨[.int .i64],false,[],0,8⟩:=by kernel_rfl
theorem ty38:tyI jd 38=some ⟨[.int .i64,.int .i64,.bool,.bool,.int .i64,.int .i64,.int .i64,.int .i64],true,[(0,3),(1,3),(2,4),(3,4),(4,3),(5,3),(6,3),(7,3)],0,56⟩:=by kernel_rfl
theorem eq38:eqT jd 38=true:=by kernel_rfl
theorem ty39:tyI jd 39=some ⟨[.slice 80],false,[],80,24⟩:=by kernel_rfl
theorem sl39:slE jd 39=some (80,⟨[.int .i64,.int .i64],true,[(0,3),(1,3)],0,16⟩):=by kernel_rfl
theorem ty41:tyI jd 41=some ⟨[.str,.int .i64,.int .i64,.bool,.bool,.int .i64,.int .i64,.int .i64,.int .i64,.slice 80,.int .i64],true,[(0,9),(1,38),(9,39),(10,3)],0,104⟩:=by kernel_rfl
theorem ty62:tyI jd 62=some ⟨[.int .u8,.str,.str,.int .i64,.int .i64,.bool,.bool,.int .i64,.int .i64,.int .i64,.int .i64,.int .i64],true,[(0,5),(1,9),(2,9),(3,38),(11,3)],0,104⟩:=by kernel_rfl
theorem eq62:eqT jd 62=true:=by kernel_rfl
theorem ty67:tyI jd 67=some ⟨[.int .u8,.int .u8,.int .u8],true,[(0,5),(1,5),(2,5)],0,3⟩:=by kernel_rfl
theorem eq67:eqT jd 67=true:=by kernel_rfl
theorem ty68:tyI jd 68=some ⟨[.slice 62],false,[],62,24⟩:=by kernel_rfl
theorem sl68:slE jd 68=some (62,⟨[.int .u8,.str,.str,.int .i64,.int .i64,.bool,.bool,.int .i64,.int .i64,.int .i64,.int .i64,.int .i64],true,[(0,5),(1,9),(2,9),(3,38),(11,3)],0,104⟩):=by kernel_rfl
theorem ty80:tyI jd 80=some ⟨[.int .i64,.int .i64],true,[(0,3),(1,3)],0,16⟩:=by kernel_rfl
theorem eq80:eqT jd 80=true:=by kernel_rfl
theorem ty81:tyI jd 81=some ⟨[.slice 3],false,[],3,24⟩:=by kernel_rfl
theorem sl81:slE jd 81=some (3,⟨[.int .i64],false,[],0,8⟩):=by kernel_rfl
theorem ty82:tyI jd 82=some ⟨[.slice 9],false,[],9,24⟩:=by kernel_rfl
theorem sl82:slE jd 82=some (9,⟨[.str],false,[],0,16⟩):=by kernel_rfl
theorem ty151:tyI jd 151=some ⟨[.int .u64],false,[],0,8⟩:=by kernel_rfl
abbrev tys:=(aI (aI (aI (aI @un3 (aI @un151 @ty3)) (aI (aI @ty4 @ty5) (aI @ty9 @str9))) (aI (aI @ty23 (aI @sl23 @ty25)) (aI (aI @ty26 @ty38) (aI @eq38 @ty39)))) (aI (aI (aI @sl39 (aI @ty41 @ty62)) (aI (aI @eq62 @ty67) (aI @eq67 @ty68))) (aI (aI (aI @sl68 @ty80) (aI @eq80 @ty81)) (aI (aI @sl81 @ty82) (aI @sl82 @ty151)))))
structure TStart where
  Cyls:Int
  Heads:Int
  Size:Int
  deriving DecidableEq,Inhabited
structure TDcb where
  Org:Int
  Format:Int
  Blocked:Bool
  Asa:Bool
  Lrecl:Int
  Blksize:Int
  KeyLen:Int
  KeyPos:Int
  deriving DecidableEq,Inhabited
structure TAct where
  Kind:Int
  Name:List UInt8
  To:List UInt8
  Dcb:TDcb
  N:Int
  deriving DecidableEq,Inhabited
structure TExtent where
  At:Int
  Len:Int
  deriving DecidableEq,Inhabited
structure TDscb where
  Name:List UInt8
  Dcb:TDcb
  Extents:List TExtent
  Used:Int
  deriving DecidableEq,Inhabited
structure TVtoc where
  Serial:List UInt8
  Cyls:Int
  Heads:Int
  Size:Int
  Sets:List TDscb
  deriving DecidableEq,Inhabited
def e_TAct (x:TAct):List C:=[.int x.Kind,.str x.Name,.str x.To,.int x.Dcb.Org,.int x.Dcb.Format,.bool x.Dcb.Blocked,.bool x.Dcb.Asa,.int x.Dcb.Lrecl,.int x.Dcb.Blksize,.int x.Dcb.KeyLen,.int x.Dcb.KeyPos,.int x.N]
def d_TAct (c:List C):TAct:=(⟨(cg c 0).toInt,(cg c 1).toStr,(cg c 2).toStr,(⟨(cg c 3).toInt,(cg c 4).toInt,(cg c 5).toBool,(cg c 6).toBool,(cg c 7).toInt,(cg c 8).toInt,(cg c 9).toInt,(cg c 10).toInt⟩:TDcb),(cg c 11).toInt⟩:TAct)
theorem de_TAct (l:List TAct):List.map d_TAct (List.map e_TAct l)=l:=by
  rw [JR];refine (j6 fun x _=>?_).trans (List.map_id l)
  show d_TAct (e_TAct x)=x
  simp only [d_TAct,e_TAct,cg_zero,cg_succ,C.toBool_bool,C.toInt_int,C.toStr_str,C.toSl_slice]
theorem cg_TAct_0 (l:List TAct) (i:Nat):(cg (eg (List.map e_TAct l) i) 0).toInt=(gt l i).Kind:=by
  rcases jq i l.length with h | h
  · rw [eg_map _ _ _ h];rfl
  · rw [eg_out _ _ _ h,gt_out _ _ h];rfl
theorem cg_TAct_1 (l:List TAct) (i:Nat):(cg (eg (List.map e_TAct l) i) 1).toStr=(gt l i).Name:=by
  rcases jq i l.length with h | h
  · rw [eg_map _ _ _ h];rfl
  · rw [eg_out _ _ _ h,gt_out _ _ h];rfl
theorem cg_TAct_2 (l:List TAct) (i:Nat):(cg (eg (List.map e_TAct l) i) 2).toStr=(gt l i).To:=by
  rcases jq i l.length with h | h
  · rw [eg_map _ _ _ h];rfl
  · rw [eg_out _ _ _ h,gt_out _ _ h];rfl
theorem cg_TAct_3 (l:List TAct) (i:Nat):(cg (eg (List.map e_TAct l) i) 3).toInt=(gt l i).Dcb.Org:=by
  rcases jq i l.length with h | h
  · rw [eg_map _ _ _ h];rfl
  · rw [eg_out _ _ _ h,gt_out _ _ h];rfl
theorem cg_TAct_4 (l:List TAct) (i:Nat):(cg (eg (List.map e_TAct l) i) 4).toInt=(gt l i).Dcb.Format:=by
  rcases jq i l.length with h | h
  · rw [eg_map _ _ _ h];rfl
  · rw [eg_out _ _ _ h,gt_out _ _ h];rfl
theorem cg_TAct_5 (l:List TAct) (i:Nat):(cg (eg (List.map e_TAct l) i) 5).toBool=(gt l i).Dcb.Blocked:=by
  rcases jq i l.length with h | h
  · rw [eg_map _ _ _ h];rfl
  · rw [eg_out _ _ _ h,gt_out _ _ h];rfl
theorem cg_TAct_6 (l:List TAct) (i:Nat):(cg (eg (List.map e_TAct l) i) 6).toBool=(gt l i).Dcb.Asa:=by
  rcases jq i l.length with h | h
  · rw [eg_map _ _ _ h];rfl
  · rw [eg_out _ _ _ h,gt_out _ _ h];rfl
theorem cg_TAct_7 (l:List TAct) (i:Nat):(cg (eg (List.map e_TAct l) i) 7).toInt=(gt l i).Dcb.Lrecl:=by
  rcases jq i l.length with h | h
  · rw [eg_map _ _ _ h];rfl
  · rw [eg_out _ _ _ h,gt_out _ _ h];rfl
theorem cg_TAct_8 (l:List TAct) (i:Nat):(cg (eg (List.map e_TAct l) i) 8).toInt=(gt l i).Dcb.Blksize:=by
  rcases jq i l.length with h | h
  · rw [eg_map _ _ _ h];rfl
  · rw [eg_out _ _ _ h,gt_out _ _ h];rfl
theorem cg_TAct_9 (l:List TAct) (i:Nat):(cg (eg (List.map e_TAct l) i) 9).toInt=(gt l i).Dcb.KeyLen:=by
  rcases jq i l.length with h | h
  · rw [eg_map _ _ _ h];rfl
  · rw [eg_out _ _ _ h,gt_out _ _ h];rfl
theorem cg_TAct_10 (l:List TAct) (i:Nat):(cg (eg (List.map e_TAct l) i) 10).toInt=(gt l i).Dcb.KeyPos:=by
  rcases jq i l.length with h | h
  · rw [eg_map _ _ _ h];rfl
  · rw [eg_out _ _ _ h,gt_out _ _ h];rfl
theorem cg_TAct_11 (l:List TAct) (i:Nat):(cg (eg (List.map e_TAct l) i) 11).toInt=(gt l i).N:=by
  rcases jq i l.length with h | h
  · rw [eg_map _ _ _ h];rfl
  · rw [eg_out _ _ _ h,gt_out _ _ h];rfl
theorem ap_TAct (l:List TAct) (v0:Int) (v1:List UInt8) (v2:List UInt8) (v3:Int) (v4:Int) (v5:Bool) (v6:Bool) (v7:Int) (v8:Int) (v9:Int) (v10:Int) (v11:Int):List.map e_TAct l ++ [[.int v0,.str v1,.str v2,.int v3,.int v4,.bool v5,.bool v6,.int v7,.int v8,.int v9,.int v10,.int v11]]=List.map e_TAct (l ++ [(⟨v0,v1,v2,(⟨v3,v4,v5,v6,v7,v8,v9,v10⟩:TDcb),v11⟩:TAct)]):=by simp [e_TAct]
def e_TExtent (x:TExtent):List C:=[.int x.At,.int x.Len]
def d_TExtent (c:List C):TExtent:=(⟨(cg c 0).toInt,(cg c 1).toInt⟩:TExtent)
theorem de_TExtent (l:List TExtent):List.map d_TExtent (List.map e_TExtent l)=l:=by
  rw [JR];refine (j6 fun x _=>?_).trans (List.map_id l)
  show d_TExtent (e_TExtent x)=x
  simp only [d_TExtent,e_TExtent,cg_zero,cg_succ,C.toBool_bool,C.toInt_int,C.toStr_str,C.toSl_slice]
theorem cg_TExtent_0 (l:List TExtent) (i:Nat):(cg (eg (List.map e_TExtent l) i) 0).toInt=(gt l i).At:=by
  rcases jq i l.length with h | h
  · rw [eg_map _ _ _ h];rfl
  · rw [eg_out _ _ _ h,gt_out _ _ h];rfl
theorem cg_TExtent_1 (l:List TExtent) (i:Nat):(cg (eg (List.map e_TExtent l) i) 1).toInt=(gt l i).Len:=by
  rcases jq i l.length with h | h
  · rw [eg_map _ _ _ h];rfl
  · rw [eg_out _ _ _ h,gt_out _ _ h];rfl
theorem ap_TExtent (l:List TExtent) (v0:Int) (v1:Int):List.map e_TExtent l ++ [[.int v0,.int v1]]=List.map e_TExtent (l ++ [(⟨v0,v1⟩:TExtent)]):=by simp [e_TExtent]
theorem set_TExtent_0_2 (l:List TExtent) (i:Nat) (v0:Int) (v1:Int):(List.map e_TExtent l).set i (spliceR (eg (List.map e_TExtent l) i) 0 [.int v0,.int v1])=List.map e_TExtent (l.set i (⟨v0,v1⟩:TExtent)):=by
  refine set_map_of _ _ _ _ fun h=>?_
  rw [eg_map _ _ _ h];rfl
theorem zr_TExtent (n:Nat):zreps n [.int 0,.int 0]=List.map e_TExtent (zreps n (⟨0,0⟩:TExtent)):=zreps_map rfl
def e_TDscb (x:TDscb):List C:=[.str x.Name,.int x.Dcb.Org,.int x.Dcb.Format,.bool x.Dcb.Blocked,.bool x.Dcb.Asa,.int x.Dcb.Lrecl,.int x.Dcb.Blksize,.int x.Dcb.KeyLen,.int x.Dcb.KeyPos,.slice (List.map e_TExtent x.Extents),.int x.Used]
def d_TDscb (c:List C):TDscb:=(⟨(cg c 0).toStr,(⟨(cg c 1).toInt,(cg c 2).toInt,(cg c 3).toBool,(cg c 4).toBool,(cg c 5).toInt,(cg c 6).toInt,(cg c 7).toInt,(cg c 8).toInt⟩:TDcb),((cg c 9).toSl.map d_TExtent),(cg c 10).toInt⟩:TDscb)
theorem de_TDscb (l:List TDscb):List.map d_TDscb (List.map e_TDscb l)=l:=by
  rw [JR];refine (j6 fun x _=>?_).trans (List.map_id l)
  show d_TDscb (e_TDscb x)=x
  simp only [d_TDscb,e_TDscb,cg_zero,cg_succ,C.toBool_bool,C.toInt_int,C.toStr_str,C.toSl_slice,de_TExtent]
theorem cg_TDscb_0 (l:List TDscb) (i:Nat):(cg (eg (List.map e_TDscb l) i) 0).toStr=(gt l i).Name:=by
  rcases jq i l.length with h | h
  · rw [eg_map _ _ _ h];rfl
  · rw [eg_out _ _ _ h,gt_out _ _ h];rfl
theorem cg_TDscb_1 (l:List TDscb) (i:Nat):(cg (eg (List.map e_TDscb l) i) 1).toInt=(gt l i).Dcb.Org:=by
  rcases jq i l.length with h | h
  · rw [eg_map _ _ _ h];rfl
  · rw [eg_out _ _ _ h,gt_out _ _ h];rfl
theorem cg_TDscb_2 (l:List TDscb) (i:Nat):(cg (eg (List.map e_TDscb l) i) 2).toInt=(gt l i).Dcb.Format:=by
  rcases jq i l.length with h | h
  · rw [eg_map _ _ _ h];rfl
  · rw [eg_out _ _ _ h,gt_out _ _ h];rfl
theorem cg_TDscb_3 (l:List TDscb) (i:Nat):(cg (eg (List.map e_TDscb l) i) 3).toBool=(gt l i).Dcb.Blocked:=by
  rcases jq i l.length with h | h
  · rw [eg_map _ _ _ h];rfl
  · rw [eg_out _ _ _ h,gt_out _ _ h];rfl
theorem cg_TDscb_4 (l:List TDscb) (i:Nat):(cg (eg (List.map e_TDscb l) i) 4).toBool=(gt l i).Dcb.Asa:=by
  rcases jq i l.length with h | h
  · rw [eg_map _ _ _ h];rfl
  · rw [eg_out _ _ _ h,gt_out _ _ h];rfl
theorem cg_TDscb_5 (l:List TDscb) (i:Nat):(cg (eg (List.map e_TDscb l) i) 5).toInt=(gt l i).Dcb.Lrecl:=by
  rcases jq i l.length with h | h
  · rw [eg_map _ _ _ h];rfl
  · rw [eg_out _ _ _ h,gt_out _ _ h];rfl
theorem cg_TDscb_6 (l:List TDscb) (i:Nat):(cg (eg (List.map e_TDscb l) i) 6).toInt=(gt l i).Dcb.Blksize:=by
  rcases jq i l.length with h | h
  · rw [eg_map _ _ _ h];rfl
  · rw [eg_out _ _ _ h,gt_out _ _ h];rfl
theorem cg_TDscb_7 (l:List TDscb) (i:Nat):(cg (eg (List.map e_TDscb l) i) 7).toInt=(gt l i).Dcb.KeyLen:=by
  rcases jq i l.length with h | h
  · rw [eg_map _ _ _ h];rfl
  · rw [eg_out _ _ _ h,gt_out _ _ h];rfl
theorem cg_TDscb_8 (l:List TDscb) (i:Nat):(cg (eg (List.map e_TDscb l) i) 8).toInt=(gt l i).Dcb.KeyPos:=by
  rcases jq i l.length with h | h
  · rw [eg_map _ _ _ h];rfl
  · rw [eg_out _ _ _ h,gt_out _ _ h];rfl
theorem cg_TDscb_9 (l:List TDscb) (i:Nat):(cg (eg (List.map e_TDscb l) i) 9).toSl=List.map e_TExtent ((gt l i).Extents):=by
  rcases jq i l.length with h | h
  · rw [eg_map _ _ _ h];rfl
  · rw [eg_out _ _ _ h,gt_out _ _ h];rfl
theorem cg_TDscb_10 (l:List TDscb) (i:Nat):(cg (eg (List.map e_TDscb l) i) 10).toInt=(gt l i).Used:=by
  rcases jq i l.length with h | h
  · rw [eg_map _ _ _ h];rfl
  · rw [eg_out _ _ _ h,gt_out _ _ h];rfl
theorem ap_TDscb (l:List TDscb) (v0:List UInt8) (v1:Int) (v2:Int) (v3:Bool) (v4:Bool) (v5:Int) (v6:Int) (v7:Int) (v8:Int) (v9:List TExtent) (v10:Int):List.map e_TDscb l ++ [[.str v0,.int v1,.int v2,.bool v3,.bool v4,.int v5,.int v6,.int v7,.int v8,.slice (List.map e_TExtent v9),.int v10]]=List.map e_TDscb (l ++ [(⟨v0,(⟨v1,v2,v3,v4,v5,v6,v7,v8⟩:TDcb),v9,v10⟩:TDscb)]):=by simp [e_TDscb]
theorem ap_TDscb_1 (l:List TDscb) (v0:List UInt8) (v1:Int) (v2:Int) (v3:Bool) (v4:Bool) (v5:Int) (v6:Int) (v7:Int) (v8:Int) (v10:Int):List.map e_TDscb l ++ [[.str v0,.int v1,.int v2,.bool v3,.bool v4,.int v5,.int v6,.int v7,.int v8,.slice [],.int v10]]=List.map e_TDscb (l ++ [(⟨v0,(⟨v1,v2,v3,v4,v5,v6,v7,v8⟩:TDcb),[],v10⟩:TDscb)]):=by simp [e_TDscb]
theorem set_TDscb_0_1 (l:List TDscb) (i:Nat) (v0:List UInt8):(List.map e_TDscb l).set i (spliceR (eg (List.map e_TDscb l) i) 0 [.str v0])=List.map e_TDscb (l.set i (⟨v0,((gt l i).Dcb),(gt l i).Extents,(gt l i).Used⟩:TDscb)):=by
  refine set_map_of _ _ _ _ fun h=>?_
  rw [eg_map _ _ _ h];rfl
theorem set_TDscb_0_11 (l:List TDscb) (i:Nat) (v0:List UInt8) (v1:Int) (v2:Int) (v3:Bool) (v4:Bool) (v5:Int) (v6:Int) (v7:Int) (v8:Int) (v9:List TExtent) (v10:Int):(List.map e_TDscb l).set i (spliceR (eg (List.map e_TDscb l) i) 0 [.str v0,.int v1,.int v2,.bool v3,.bool v4,.int v5,.int v6,.int v7,.int v8,.slice (List.map e_TExtent v9),.int v10])=List.map e_TDscb (l.set i (⟨v0,(⟨v1,v2,v3,v4,v5,v6,v7,v8⟩:TDcb),v9,v10⟩:TDscb)):=by
  refine set_map_of _ _ _ _ fun h=>?_
  rw [eg_map _ _ _ h];rfl
theorem set_TDscb_1_8 (l:List TDscb) (i:Nat) (v1:Int) (v2:Int) (v3:Bool) (v4:Bool) (v5:Int) (v6:Int) (v7:Int) (v8:Int):(List.map e_TDscb l).set i (spliceR (eg (List.map e_TDscb l) i) 1 [.int v1,.int v2,.bool v3,.bool v4,.int v5,.int v6,.int v7,.int v8])=List.map e_TDscb (l.set i (⟨(gt l i).Name,(⟨v1,v2,v3,v4,v5,v6,v7,v8⟩:TDcb),(gt l i).Extents,(gt l i).Used⟩:TDscb)):=by
  refine set_map_of _ _ _ _ fun h=>?_
  rw [eg_map _ _ _ h];rfl
theorem set_TDscb_9_1 (l:List TDscb) (i:Nat) (v9:List TExtent):(List.map e_TDscb l).set i (spliceR (eg (List.map e_TDscb l) i) 9 [.slice (List.map e_TExtent v9)])=List.map e_TDscb (l.set i (⟨(gt l i).Name,((gt l i).Dcb),v9,(gt l i).Used⟩:TDscb)):=by
  refine set_map_of _ _ _ _ fun h=>?_
  rw [eg_map _ _ _ h];rfl
theorem set_TDscb_10_1 (l:List TDscb) (i:Nat) (v10:Int):(List.map e_TDscb l).set i (spliceR (eg (List.map e_TDscb l) i) 10 [.int v10])=List.map e_TDscb (l.set i (⟨(gt l i).Name,((gt l i).Dcb),(gt l i).Extents,v10⟩:TDscb)):=by
  refine set_map_of _ _ _ _ fun h=>?_
  rw [eg_map _ _ _ h];rfl
theorem zr_TDscb (n:Nat):zreps n [.str [],.int 0,.int 0,.bool false,.bool false,.int 0,.int 0,.int 0,.int 0,.slice [],.int 0]=List.map e_TDscb (zreps n (⟨[],(⟨0,0,false,false,0,0,0,0⟩:TDcb),[],0⟩:TDscb)):=zreps_map rfl
def e_Str (x:List UInt8):List C:=[.str x]
def d_Str (c:List C):List UInt8:=(cg c 0).toStr
theorem de_Str (l:List (List UInt8)):List.map d_Str (List.map e_Str l)=l:=by
  rw [JR];refine (j6 fun x _=>?_).trans (List.map_id l)
  show d_Str (e_Str x)=x
  simp only [d_Str,e_Str,cg_zero,cg_succ,C.toBool_bool,C.toInt_int,C.toStr_str,C.toSl_slice]
theorem cg_Str_0 (l:List (List UInt8)) (i:Nat):(cg (eg (List.map e_Str l) i) 0).toStr=gt l i:=by
  rcases jq i l.length with h | h
  · rw [eg_map _ _ _ h];rfl
  · rw [eg_out _ _ _ h,gt_out _ _ h];rfl
theorem ap_Str (l:List (List UInt8)) (v0:List UInt8):List.map e_Str l ++ [[.str v0]]=List.map e_Str (l ++ [v0]):=by simp [e_Str]
theorem set_Str_0_1 (l:List (List UInt8)) (i:Nat) (v0:List UInt8):(List.map e_Str l).set i (spliceR (eg (List.map e_Str l) i) 0 [.str v0])=List.map e_Str (l.set i v0):=by
  refine set_map_of _ _ _ _ fun h=>?_
  rw [eg_map _ _ _ h];rfl
theorem zr_Str (n:Nat):zreps n [.str []]=List.map e_Str (zreps n []):=zreps_map rfl
def e_Int (x:Int):List C:=[.int x]
def d_Int (c:List C):Int:=(cg c 0).toInt
theorem de_Int (l:List Int):List.map d_Int (List.map e_Int l)=l:=by
  rw [JR];refine (j6 fun x _=>?_).trans (List.map_id l)
  show d_Int (e_Int x)=x
  simp only [d_Int,e_Int,cg_zero,cg_succ,C.toBool_bool,C.toInt_int,C.toStr_str,C.toSl_slice]
theorem cg_Int_0 (l:List Int) (i:Nat):(cg (eg (List.map e_Int l) i) 0).toInt=gt l i:=by
  rcases jq i l.length with h | h
  · rw [eg_map _ _ _ h];rfl
  · rw [eg_out _ _ _ h,gt_out _ _ h];rfl
theorem ap_Int (l:List Int) (v0:Int):List.map e_Int l ++ [[.int v0]]=List.map e_Int (l ++ [v0]):=by simp [e_Int]
theorem set_Int_0_1 (l:List Int) (i:Nat) (v0:Int):(List.map e_Int l).set i (spliceR (eg (List.map e_Int l) i) 0 [.int v0])=List.map e_Int (l.set i v0):=by
  refine set_map_of _ _ _ _ fun h=>?_
  rw [eg_map _ _ _ h];rfl
theorem zr_Int (n:Nat):zreps n [.int 0]=List.map e_Int (zreps n 0):=zreps_map rfl
theorem eta_TStart (x:TStart):(⟨x.Cyls,x.Heads,x.Size⟩:TStart)=x:=rfl
theorem eta_TDcb (x:TDcb):(⟨x.Org,x.Format,x.Blocked,x.Asa,x.Lrecl,x.Blksize,x.KeyLen,x.KeyPos⟩:TDcb)=x:=rfl
theorem eta_TAct (x:TAct):(⟨x.Kind,x.Name,x.To,x.Dcb,x.N⟩:TAct)=x:=rfl
theorem eta_TExtent (x:TExtent):(⟨x.At,x.Len⟩:TExtent)=x:=rfl
theorem eta_TDscb (x:TDscb):(⟨x.Name,x.Dcb,x.Extents,x.Used⟩:TDscb)=x:=rfl
theorem eta_TVtoc (x:TVtoc):(⟨x.Serial,x.Cyls,x.Heads,x.Size,x.Sets⟩:TVtoc)=x:=rfl
abbrev tl:=(aI (aI (aI (aI (aI (aI @de_TAct @e_TAct.eq_1) (aI @d_TAct.eq_1 @cg_TAct_0)) (aI (aI @cg_TAct_1 @cg_TAct_2) (aI @cg_TAct_3 @cg_TAct_4))) (aI (aI (aI @cg_TAct_5 @cg_TAct_6) (aI @cg_TAct_7 @cg_TAct_8)) (aI (aI @cg_TAct_9 @cg_TAct_10) (aI @cg_TAct_11 @ap_TAct)))) (aI (aI (aI (aI @de_TExtent @e_TExtent.eq_1) (aI @d_TExtent.eq_1 @cg_TExtent_0)) (aI (aI @cg_TExtent_1 @ap_TExtent) (aI @set_TExtent_0_2 @zr_TExtent))) (aI (aI (aI @de_TDscb @e_TDscb.eq_1) (aI @d_TDscb.eq_1 @cg_TDscb_0)) (aI (aI @cg_TDscb_1 @cg_TDscb_2) (aI @cg_TDscb_3 (aI @cg_TDscb_4 @cg_TDscb_5)))))) (aI (aI (aI (aI (aI @cg_TDscb_6 @cg_TDscb_7) (aI @cg_TDscb_8 @cg_TDscb_9)) (aI (aI @cg_TDscb_10 @ap_TDscb) (aI @ap_TDscb_1 @set_TDscb_0_1))) (aI (aI (aI @set_TDscb_0_11 @set_TDscb_1_8) (aI @set_TDscb_9_1 @set_TDscb_10_1)) (aI (aI @zr_TDscb @de_Str) (aI @e_Str.eq_1 @d_Str.eq_1)))) (aI (aI (aI (aI @cg_Str_0 @ap_Str) (aI @set_Str_0_1 @zr_Str)) (aI (aI @de_Int @e_Int.eq_1) (aI @d_Int.eq_1 @cg_Int_0))) (aI (aI (aI @ap_Int @set_Int_0_1) (aI @zr_Int @eta_TStart)) (aI (aI @eta_TDcb @eta_TAct) (aI @eta_TExtent (aI @eta_TDscb @eta_TVtoc)))))))
abbrev z:=(aI (aI ev ew) (aI tys tl))
end Go.Proofs.YtijnkhcfondehaaGreatDoor
