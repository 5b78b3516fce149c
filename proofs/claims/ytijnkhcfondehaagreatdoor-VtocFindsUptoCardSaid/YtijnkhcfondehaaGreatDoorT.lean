/- Text. -/
import Derived.Test.YtijnkhcfondehaaGreatDoorAE19
import Derived.Test.YtijnkhcfondehaaGreatDoorAE41
import Derived.Test.YtijnkhcfondehaaGreatDoorAE50
import Derived.Test.YtijnkhcfondehaaGreatDoorAE44
import Derived.Test.YtijnkhcfondehaaGreatDoorAE28
import Derived.Test.YtijnkhcfondehaaGreatDoorRows
set_option maxHeartbeats 8000000
set_option linter.unusedVariables false
set_option linter.unusedSimpArgs false
set_option maxRecDepth 100000
namespace Go.Proofs.YtijnkhcfondehaaGreatDoor
open Go.AE
theorem h00:tyI Tryz.prog 0=none:=by kernel_rfl
theorem mixed:Tryz.prog.follows .mixedOrders=true:=by kernel_rfl
theorem un3:Tryz.prog.underlying 3=some (.int .i64):=by kernel_rfl
theorem un151:Tryz.prog.underlying 151=some (.int .u64):=by kernel_rfl
theorem ty3:tyI Tryz.prog 3=some ⟨[.int .i64],false,[],0,8⟩:=by kernel_rfl
theorem ty4:tyI Tryz.prog 4=some ⟨[.bool],false,[],0,1⟩:=by kernel_rfl
theorem ty5:tyI Tryz.prog 5=some ⟨[.int .u8],false,[],0,1⟩:=by kernel_rfl
theorem ty9:tyI Tryz.prog 9=some ⟨[.str],false,[],0,16⟩:=by kernel_rfl
theorem str9:isStrT Tryz.prog 9=true:=by kernel_rfl
theorem ty23:tyI Tryz.prog 23=some ⟨[.slice 41],false,[],41,24⟩:=by kernel_rfl
theorem sl23:slE Tryz.prog 23=some (41,⟨[.str,.int .i64,.int .i64,.bool,.bool,.int .i64,.int .i64,.int .i64,.int .i64,.slice 80,.int .i64],true,[(0,9),(1,38),(9,39),(10,3)],0,104⟩):=by kernel_rfl
theorem ty25:tyI Tryz.prog 25=some ⟨[.str,.int .i64,.int .i64,.int .i64,.slice 41],true,[(0,9),(1,3),(2,3),(3,3),(4,23)],0,64⟩:=by kernel_rfl
theorem ty26:tyI Tryz.prog 26=some ⟨[.int .i64],false,[],0,8⟩:=by kernel_rfl
theorem ty29:tyI Tryz.prog 29=some ⟨[.str,.int .i64,.int .i64,.int .i64,.slice 41],true,[(0,9),(1,3),(2,3),(3,3),(4,23)],0,64⟩:=by kernel_rfl
theorem ty38:tyI Tryz.prog 38=some ⟨[.int .i64,.int .i64,.bool,.bool,.int .i64,.int .i64,.int .i64,.int .i64],true,[(0,3),(1,3),(2,4),(3,4),(4,3),(5,3),(6,3),(7,3)],0,56⟩:=by kernel_rfl
theorem eq38:eqT Tryz.prog 38=true:=by kernel_rfl
theorem ty39:tyI Tryz.prog 39=some ⟨[.slice 80],false,[],80,24⟩:=by kernel_rfl
theorem sl39:slE Tryz.prog 39=some (80,⟨[.int .i64,.int .i64],true,[(0,3),(1,3)],0,16⟩):=by kernel_rfl
theorem ty41:tyI Tryz.prog 41=some ⟨[.str,.int .i64,.int .i64,.bool,.bool,.int .i64,.int .i64,.int .i64,.int .i64,.slice 80,.int .i64],true,[(0,9),(1,38),(9,39),(10,3)],0,104⟩:=by kernel_rfl
theorem ty80:tyI Tryz.prog 80=some ⟨[.int .i64,.int .i64],true,[(0,3),(1,3)],0,16⟩:=by kernel_rfl
theorem eq80:eqT Tryz.prog 80=true:=by kernel_rfl
theorem ty81:tyI Tryz.prog 81=some ⟨[.slice 3],false,[],3,24⟩:=by kernel_rfl
theorem sl81:slE Tryz.prog 81=some (3,⟨[.int .i64],false,[],0,8⟩):=by kernel_rfl
theorem ty82:tyI Tryz.prog 82=some ⟨[.slice 9],false,[],9,24⟩:=by kernel_rfl
theorem sl82:slE Tryz.prog 82=some (9,⟨[.str],false,[],0,16⟩):=by kernel_rfl
theorem ty151:tyI Tryz.prog 151=some ⟨[.int .u64],false,[],0,8⟩:=by kernel_rfl
theorem ar159:arrI Tryz.prog 159=some (512,4,⟨[.bool],false,[],0,1⟩):=by kernel_rfl
theorem ty159:tyI Tryz.prog 159=none:=by kernel_rfl
theorem sl159:slE Tryz.prog 159=none:=by kernel_rfl
theorem tys:type_of% (And.intro (And.intro (And.intro (And.intro @un3 (And.intro @un151 @ty3)) (And.intro @ty4 (And.intro @ty5 @ty9))) (And.intro (And.intro @str9 (And.intro @ty23 @sl23)) (And.intro (And.intro @ty25 @ty26) (And.intro @ty29 @ty38)))) (And.intro (And.intro (And.intro @eq38 (And.intro @ty39 @sl39)) (And.intro (And.intro @ty41 @ty80) (And.intro @eq80 @ty81))) (And.intro (And.intro @sl81 (And.intro @ty82 @sl82)) (And.intro (And.intro @ty151 @ar159) (And.intro @ty159 @sl159))))):=(And.intro (And.intro (And.intro (And.intro @un3 (And.intro @un151 @ty3)) (And.intro @ty4 (And.intro @ty5 @ty9))) (And.intro (And.intro @str9 (And.intro @ty23 @sl23)) (And.intro (And.intro @ty25 @ty26) (And.intro @ty29 @ty38)))) (And.intro (And.intro (And.intro @eq38 (And.intro @ty39 @sl39)) (And.intro (And.intro @ty41 @ty80) (And.intro @eq80 @ty81))) (And.intro (And.intro @sl81 (And.intro @ty82 @sl82)) (And.intro (And.intro @ty151 @ar159) (And.intro @ty159 @sl159)))))
structure TDcb where
  Org:Int
  Format:Int
  Blocked:Bool
  Asa:Bool
  Lrecl:Int
  Blksize:Int
  KeyLen:Int
  KeyPos:Int
  deriving DecidableEq,Inhabited
structure TExtent where
  At:Int
  Len:Int
  deriving DecidableEq,Inhabited
structure TDscb where
  Name:List UInt8
  Dcb:TDcb
  Extents:List TExtent
  Used:Int
  deriving DecidableEq,Inhabited
structure TVtoc where
  Serial:List UInt8
  Cyls:Int
  Heads:Int
  Size:Int
  Sets:List TDscb
  deriving DecidableEq,Inhabited
def e_TExtent (x:TExtent):List C:=[.int x.At,.int x.Len]
def d_TExtent (c:List C):TExtent:=(⟨(cg c 0).toInt,(cg c 1).toInt⟩:TExtent)
theorem de_TExtent (l:List TExtent):List.map d_TExtent (List.map e_TExtent l)=l:=by
  rw [List.map_map];refine (List.map_congr_left fun x _=>?_).trans (List.map_id l)
  show d_TExtent (e_TExtent x)=x
  simp only [d_TExtent,e_TExtent,cg_zero,cg_succ,C.toBool_bool,C.toInt_int,C.toStr_str,C.toSl_slice]
theorem cg_TExtent_0 (l:List TExtent) (i:Nat):(cg (eg (List.map e_TExtent l) i) 0).toInt=(gt l i).At:=by
  rcases Nat.lt_or_ge i l.length with h | h
  · rw [eg_map _ _ _ h];rfl
  · rw [eg_out _ _ _ h,gt_out _ _ h];rfl
theorem cg_TExtent_1 (l:List TExtent) (i:Nat):(cg (eg (List.map e_TExtent l) i) 1).toInt=(gt l i).Len:=by
  rcases Nat.lt_or_ge i l.length with h | h
  · rw [eg_map _ _ _ h];rfl
  · rw [eg_out _ _ _ h,gt_out _ _ h];rfl
theorem ap_TExtent (l:List TExtent) (v0:Int) (v1:Int):List.map e_TExtent l ++ [[.int v0,.int v1]]=List.map e_TExtent (l ++ [(⟨v0,v1⟩:TExtent)]):=by simp [e_TExtent]
theorem set_TExtent_0_2 (l:List TExtent) (i:Nat) (v0:Int) (v1:Int):(List.map e_TExtent l).set i (spliceR (eg (List.map e_TExtent l) i) 0 [.int v0,.int v1])=List.map e_TExtent (l.set i (⟨v0,v1⟩:TExtent)):=by
  refine set_map_of _ _ _ _ fun h=>?_
  rw [eg_map _ _ _ h];rfl
theorem zr_TExtent (n:Nat):zreps n [.int 0,.int 0]=List.map e_TExtent (zreps n (⟨0,0⟩:TExtent)):=zreps_map rfl
def e_TDscb (x:TDscb):List C:=[.str x.Name,.int x.Dcb.Org,.int x.Dcb.Format,.bool x.Dcb.Blocked,.bool x.Dcb.Asa,.int x.Dcb.Lrecl,.int x.Dcb.Blksize,.int x.Dcb.KeyLen,.int x.Dcb.KeyPos,.slice (List.map e_TExtent x.Extents),.int x.Used]
def d_TDscb (c:List C):TDscb:=(⟨(cg c 0).toStr,(⟨(cg c 1).toInt,(cg c 2).toInt,(cg c 3).toBool,(cg c 4).toBool,(cg c 5).toInt,(cg c 6).toInt,(cg c 7).toInt,(cg c 8).toInt⟩:TDcb),((cg c 9).toSl.map d_TExtent),(cg c 10).toInt⟩:TDscb)
theorem de_TDscb (l:List TDscb):List.map d_TDscb (List.map e_TDscb l)=l:=by
  rw [List.map_map];refine (List.map_congr_left fun x _=>?_).trans (List.map_id l)
  show d_TDscb (e_TDscb x)=x
  simp only [d_TDscb,e_TDscb,cg_zero,cg_succ,C.toBool_bool,C.toInt_int,C.toStr_str,C.toSl_slice,de_TExtent]
theorem cg_TDscb_0 (l:List TDscb) (i:Nat):(cg (eg (List.map e_TDscb l) i) 0).toStr=(gt l i).Name:=by
  rcases Nat.lt_or_ge i l.length with h | h
  · rw [eg_map _ _ _ h];rfl
  · rw [eg_out _ _ _ h,gt_out _ _ h];rfl
theorem cg_TDscb_1 (l:List TDscb) (i:Nat):(cg (eg (List.map e_TDscb l) i) 1).toInt=(gt l i).Dcb.Org:=by
  rcases Nat.lt_or_ge i l.length with h | h
  · rw [eg_map _ _ _ h];rfl
  · rw [eg_out _ _ _ h,gt_out _ _ h];rfl
theorem cg_TDscb_2 (l:List TDscb) (i:Nat):(cg (eg (List.map e_TDscb l) i) 2).toInt=(gt l i).Dcb.Format:=by
  rcases Nat.lt_or_ge i l.length with h | h
  · rw [eg_map _ _ _ h];rfl
  · rw [eg_out _ _ _ h,gt_out _ _ h];rfl
theorem cg_TDscb_3 (l:List TDscb) (i:Nat):(cg (eg (List.map e_TDscb l) i) 3).toBool=(gt l i).Dcb.Blocked:=by
  rcases Nat.lt_or_ge i l.length with h | h
  · rw [eg_map _ _ _ h];rfl
  · rw [eg_out _ _ _ h,gt_out _ _ h];rfl
theorem cg_TDscb_4 (l:List TDscb) (i:Nat):(cg (eg (List.map e_TDscb l) i) 4).toBool=(gt l i).Dcb.Asa:=by
  rcases Nat.lt_or_ge i l.length with h | h
  · rw [eg_map _ _ _ h];rfl
  · rw [eg_out _ _ _ h,gt_out _ _ h];rfl
theorem cg_TDscb_5 (l:List TDscb) (i:Nat):(cg (eg (List.map e_TDscb l) i) 5).toInt=(gt l i).Dcb.Lrecl:=by
  rcases Nat.lt_or_ge i l.length with h | h
  · rw [eg_map _ _ _ h];rfl
  · rw [eg_out _ _ _ h,gt_out _ _ h];rfl
theorem cg_TDscb_6 (l:List TDscb) (i:Nat):(cg (eg (List.map e_TDscb l) i) 6).toInt=(gt l i).Dcb.Blksize:=by
  rcases Nat.lt_or_ge i l.length with h | h
  · rw [eg_map _ _ _ h];rfl
  · rw [eg_out _ _ _ h,gt_out _ _ h];rfl
theorem cg_TDscb_7 (l:List TDscb) (i:Nat):(cg (eg (List.map e_TDscb l) i) 7).toInt=(gt l i).Dcb.KeyLen:=by
  rcases Nat.lt_or_ge i l.length with h | h
  · rw [eg_map _ _ _ h];rfl
  · rw [eg_out _ _ _ h,gt_out _ _ h];rfl
theorem cg_TDscb_8 (l:List TDscb) (i:Nat):(cg (eg (List.map e_TDscb l) i) 8).toInt=(gt l i).Dcb.KeyPos:=by
  rcases Nat.lt_or_ge i l.length with h | h
  · rw [eg_map _ _ _ h];rfl
  · rw [eg_out _ _ _ h,gt_out _ _ h];rfl
theorem cg_TDscb_9 (l:List TDscb) (i:Nat):(cg (eg (List.map e_TDscb l) i) 9).toSl=List.map e_TExtent ((gt l i).Extents):=by
  rcases Nat.lt_or_ge i l.length with h | h
  · rw [eg_map _ _ _ h];rfl
  · rw [eg_out _ _ _ h,gt_out _ _ h];rfl
theorem cg_TDscb_10 (l:List TDscb) (i:Nat):(cg (eg (List.map e_TDscb l) i) 10).toInt=(gt l i).Used:=by
  rcases Nat.lt_or_ge i l.length with h | h
  · rw [eg_map _ _ _ h];rfl
  · rw [eg_out _ _ _ h,gt_out _ _ h];rfl
theorem ap_TDscb (l:List TDscb) (v0:List UInt8) (v1:Int) (v2:Int) (v3:Bool) (v4:Bool) (v5:Int) (v6:Int) (v7:Int) (v8:Int) (v9:List TExtent) (v10:Int):List.map e_TDscb l ++ [[.str v0,.int v1,.int v2,.bool v3,.bool v4,.int v5,.int v6,.int v7,.int v8,.slice (List.map e_TExtent v9),.int v10]]=List.map e_TDscb (l ++ [(⟨v0,(⟨v1,v2,v3,v4,v5,v6,v7,v8⟩:TDcb),v9,v10⟩:TDscb)]):=by simp [e_TDscb]
theorem ap_TDscb_1 (l:List TDscb) (v0:List UInt8) (v1:Int) (v2:Int) (v3:Bool) (v4:Bool) (v5:Int) (v6:Int) (v7:Int) (v8:Int) (v10:Int):List.map e_TDscb l ++ [[.str v0,.int v1,.int v2,.bool v3,.bool v4,.int v5,.int v6,.int v7,.int v8,.slice [],.int v10]]=List.map e_TDscb (l ++ [(⟨v0,(⟨v1,v2,v3,v4,v5,v6,v7,v8⟩:TDcb),[],v10⟩:TDscb)]):=by simp [e_TDscb]
theorem set_TDscb_0_11 (l:List TDscb) (i:Nat) (v0:List UInt8) (v1:Int) (v2:Int) (v3:Bool) (v4:Bool) (v5:Int) (v6:Int) (v7:Int) (v8:Int) (v9:List TExtent) (v10:Int):(List.map e_TDscb l).set i (spliceR (eg (List.map e_TDscb l) i) 0 [.str v0,.int v1,.int v2,.bool v3,.bool v4,.int v5,.int v6,.int v7,.int v8,.slice (List.map e_TExtent v9),.int v10])=List.map e_TDscb (l.set i (⟨v0,(⟨v1,v2,v3,v4,v5,v6,v7,v8⟩:TDcb),v9,v10⟩:TDscb)):=by
  refine set_map_of _ _ _ _ fun h=>?_
  rw [eg_map _ _ _ h];rfl
theorem zr_TDscb (n:Nat):zreps n [.str [],.int 0,.int 0,.bool false,.bool false,.int 0,.int 0,.int 0,.int 0,.slice [],.int 0]=List.map e_TDscb (zreps n (⟨[],(⟨0,0,false,false,0,0,0,0⟩:TDcb),[],0⟩:TDscb)):=zreps_map rfl
def e_Str (x:List UInt8):List C:=[.str x]
def d_Str (c:List C):List UInt8:=(cg c 0).toStr
theorem de_Str (l:List (List UInt8)):List.map d_Str (List.map e_Str l)=l:=by
  rw [List.map_map];refine (List.map_congr_left fun x _=>?_).trans (List.map_id l)
  show d_Str (e_Str x)=x
  simp only [d_Str,e_Str,cg_zero,cg_succ,C.toBool_bool,C.toInt_int,C.toStr_str,C.toSl_slice]
theorem cg_Str_0 (l:List (List UInt8)) (i:Nat):(cg (eg (List.map e_Str l) i) 0).toStr=gt l i:=by
  rcases Nat.lt_or_ge i l.length with h | h
  · rw [eg_map _ _ _ h];rfl
  · rw [eg_out _ _ _ h,gt_out _ _ h];rfl
theorem ap_Str (l:List (List UInt8)) (v0:List UInt8):List.map e_Str l ++ [[.str v0]]=List.map e_Str (l ++ [v0]):=by simp [e_Str]
def e_Bool (x:Bool):List C:=[.bool x]
def d_Bool (c:List C):Bool:=(cg c 0).toBool
theorem de_Bool (l:List Bool):List.map d_Bool (List.map e_Bool l)=l:=by
  rw [List.map_map];refine (List.map_congr_left fun x _=>?_).trans (List.map_id l)
  show d_Bool (e_Bool x)=x
  simp only [d_Bool,e_Bool,cg_zero,cg_succ,C.toBool_bool,C.toInt_int,C.toStr_str,C.toSl_slice]
theorem cg_Bool_0 (l:List Bool) (i:Nat):(cg (eg (List.map e_Bool l) i) 0).toBool=gt l i:=by
  rcases Nat.lt_or_ge i l.length with h | h
  · rw [eg_map _ _ _ h];rfl
  · rw [eg_out _ _ _ h,gt_out _ _ h];rfl
theorem ap_Bool (l:List Bool) (v0:Bool):List.map e_Bool l ++ [[.bool v0]]=List.map e_Bool (l ++ [v0]):=by simp [e_Bool]
theorem set_Bool_0_1 (l:List Bool) (i:Nat) (v0:Bool):(List.map e_Bool l).set i (spliceR (eg (List.map e_Bool l) i) 0 [.bool v0])=List.map e_Bool (l.set i v0):=by
  refine set_map_of _ _ _ _ fun h=>?_
  rw [eg_map _ _ _ h];rfl
theorem zr_Bool (n:Nat):zreps n [.bool false]=List.map e_Bool (zreps n false):=zreps_map rfl
def e_Int (x:Int):List C:=[.int x]
def d_Int (c:List C):Int:=(cg c 0).toInt
theorem de_Int (l:List Int):List.map d_Int (List.map e_Int l)=l:=by
  rw [List.map_map];refine (List.map_congr_left fun x _=>?_).trans (List.map_id l)
  show d_Int (e_Int x)=x
  simp only [d_Int,e_Int,cg_zero,cg_succ,C.toBool_bool,C.toInt_int,C.toStr_str,C.toSl_slice]
theorem cg_Int_0 (l:List Int) (i:Nat):(cg (eg (List.map e_Int l) i) 0).toInt=gt l i:=by
  rcases Nat.lt_or_ge i l.length with h | h
  · rw [eg_map _ _ _ h];rfl
  · rw [eg_out _ _ _ h,gt_out _ _ h];rfl
theorem ap_Int (l:List Int) (v0:Int):List.map e_Int l ++ [[.int v0]]=List.map e_Int (l ++ [v0]):=by simp [e_Int]
theorem eta_TDcb (x:TDcb):(⟨x.Org,x.Format,x.Blocked,x.Asa,x.Lrecl,x.Blksize,x.KeyLen,x.KeyPos⟩:TDcb)=x:=rfl
theorem eta_TExtent (x:TExtent):(⟨x.At,x.Len⟩:TExtent)=x:=rfl
theorem eta_TDscb (x:TDscb):(⟨x.Name,x.Dcb,x.Extents,x.Used⟩:TDscb)=x:=rfl
theorem eta_TVtoc (x:TVtoc):(⟨x.Serial,x.Cyls,x.Heads,x.Size,x.Sets⟩:TVtoc)=x:=rfl
theorem tl:type_of% (And.intro (And.intro (And.intro (And.intro (And.intro @de_TExtent @e_TExtent.eq_1) (And.intro @d_TExtent.eq_1 (And.intro @cg_TExtent_0 @cg_TExtent_1))) (And.intro (And.intro @ap_TExtent (And.intro @set_TExtent_0_2 @zr_TExtent)) (And.intro @de_TDscb (And.intro @e_TDscb.eq_1 @d_TDscb.eq_1)))) (And.intro (And.intro (And.intro @cg_TDscb_0 (And.intro @cg_TDscb_1 @cg_TDscb_2)) (And.intro @cg_TDscb_3 (And.intro @cg_TDscb_4 @cg_TDscb_5))) (And.intro (And.intro @cg_TDscb_6 (And.intro @cg_TDscb_7 @cg_TDscb_8)) (And.intro @cg_TDscb_9 (And.intro @cg_TDscb_10 @ap_TDscb))))) (And.intro (And.intro (And.intro (And.intro @ap_TDscb_1 (And.intro @set_TDscb_0_11 @zr_TDscb)) (And.intro @de_Str (And.intro @e_Str.eq_1 @d_Str.eq_1))) (And.intro (And.intro @cg_Str_0 (And.intro @ap_Str @de_Bool)) (And.intro @e_Bool.eq_1 (And.intro @d_Bool.eq_1 @cg_Bool_0)))) (And.intro (And.intro (And.intro @ap_Bool (And.intro @set_Bool_0_1 @zr_Bool)) (And.intro @de_Int (And.intro @e_Int.eq_1 @d_Int.eq_1))) (And.intro (And.intro @cg_Int_0 (And.intro @ap_Int @eta_TDcb)) (And.intro @eta_TExtent (And.intro @eta_TDscb @eta_TVtoc)))))):=(And.intro (And.intro (And.intro (And.intro (And.intro @de_TExtent @e_TExtent.eq_1) (And.intro @d_TExtent.eq_1 (And.intro @cg_TExtent_0 @cg_TExtent_1))) (And.intro (And.intro @ap_TExtent (And.intro @set_TExtent_0_2 @zr_TExtent)) (And.intro @de_TDscb (And.intro @e_TDscb.eq_1 @d_TDscb.eq_1)))) (And.intro (And.intro (And.intro @cg_TDscb_0 (And.intro @cg_TDscb_1 @cg_TDscb_2)) (And.intro @cg_TDscb_3 (And.intro @cg_TDscb_4 @cg_TDscb_5))) (And.intro (And.intro @cg_TDscb_6 (And.intro @cg_TDscb_7 @cg_TDscb_8)) (And.intro @cg_TDscb_9 (And.intro @cg_TDscb_10 @ap_TDscb))))) (And.intro (And.intro (And.intro (And.intro @ap_TDscb_1 (And.intro @set_TDscb_0_11 @zr_TDscb)) (And.intro @de_Str (And.intro @e_Str.eq_1 @d_Str.eq_1))) (And.intro (And.intro @cg_Str_0 (And.intro @ap_Str @de_Bool)) (And.intro @e_Bool.eq_1 (And.intro @d_Bool.eq_1 @cg_Bool_0)))) (And.intro (And.intro (And.intro @ap_Bool (And.intro @set_Bool_0_1 @zr_Bool)) (And.intro @de_Int (And.intro @e_Int.eq_1 @d_Int.eq_1))) (And.intro (And.intro @cg_Int_0 (And.intro @ap_Int @eta_TDcb)) (And.intro @eta_TExtent (And.intro @eta_TDscb @eta_TVtoc))))))
theorem z:type_of% (And.intro (And.intro ev ew) (And.intro tys tl)):=(And.intro (And.intro ev ew) (And.intro tys tl))
end Go.Proofs.YtijnkhcfondehaaGreatDoor
