/- Text. -/
import Derived.Test.YtijnkhcfondehaaGreatDoorAE19
import Derived.Test.YtijnkhcfondehaaGreatDoorAE41
import Derived.Test.YtijnkhcfondehaaGreatDoorAE50
import Derived.Test.YtijnkhcfondehaaGreatDoorAE28
import Derived.Test.YtijnkhcfondehaaGreatDoorRows
set_option maxHeartbeats 8000000
set_option linter.unusedVariables false
set_option linter.unusedSimpArgs false
set_option maxRecDepth 100000
open _root_.List renaming map_map→JV,map_congr_left→jX
open _root_.Nat renaming lt_or_ge→jD
open Go.Proofs.Tryz renaming prog→je
namespace Go.Proofs.YtijnkhcfondehaaGreatDoor
open Go.AE
theorem h00:tyI je 0=none:=by kernel_rfl
theorem mixed:je.follows .mixedOrders=true:=by kernel_rfl
theorem un3:je.underlying 3=some (.int .i64):=by kernel_rfl
theorem ij5:je.underlying 151=some (.int .u64):=by kernel_rfl
theorem ty3:tyI je 3=some ⟨[.int .i64],false,[],0,8⟩:=by kernel_rfl
theorem ty4:tyI je 4=some ⟨[.bool],false,[],0,1⟩:=by kernel_rfl
theorem ty5:tyI je 5=some ⟨[.int .u8],false,[],0,1⟩:=by kernel_rfl
theorem ty9:tyI je 9=some ⟨[.str],false,[],0,16⟩:=by kernel_rfl
theorem str9:ej1 je 9=true:=by kernel_rfl
theorem ty23:tyI je 23=some ⟨[.slice 41],false,[],41,24⟩:=by kernel_rfl
theorem sl23:slE je 23=some (41,⟨[.str,.int .i64,.int .i64,.bool,.bool,.int .i64,.int .i64,.int .i64,.int .i64,.slice 80,.int .i64],true,[(0,9),(1,38),(9,39),(10,3)],0,104⟩):=by kernel_rfl
theorem ty25:tyI je 25=some ⟨[.str,.int .i64,.int .i64,.int .i64,.slice 41],true,[(0,9),(1,3),(2,3),(3,3),(4,23)],0,64⟩:=by kernel_rfl
theorem ty26:tyI je 26=some ⟨[.int .i64],false,[],0,8⟩:=by kernel_rfl
theorem ty29:tyI je 29=some ⟨[.str,.int .i64,.int .i64,.int .i64,.slice 41],true,[(0,9),(1,3),(2,3),(3,3),(4,23)],0,64⟩:=by kernel_rfl
theorem ty38:tyI je 38=some ⟨[.int .i64,.int .i64,.bool,.bool,.int .i64,.int .i64,.int .i64,.int .i64],true,[(0,3),(1,3),(2,4),(3,4),(4,3),(5,3),(6,3),(7,3)],0,56⟩:=by kernel_rfl
theorem eq38:eqT je 38=true:=by kernel_rfl
theorem ty39:tyI je 39=some ⟨[.slice 80],false,[],80,24⟩:=by kernel_rfl
theorem sl39:slE je 39=some (80,⟨[.int .i64,.int .i64],true,[(0,3),(1,3)],0,16⟩):=by kernel_rfl
theorem ty41:tyI je 41=some ⟨[.str,.int .i64,.int .i64,.bool,.bool,.int .i64,.int .i64,.int .i64,.int .i64,.slice 80,.int .i64],true,[(0,9),(1,38),(9,39),(10,3)],0,104⟩:=by kernel_rfl
theorem ty62:tyI je 62=some ⟨[.int .u8,.str,.str,.int .i64,.int .i64,.bool,.bool,.int .i64,.int .i64,.int .i64,.int .i64,.int .i64],true,[(0,5),(1,9),(2,9),(3,38),(11,3)],0,104⟩:=by kernel_rfl
theorem eq62:eqT je 62=true:=by kernel_rfl
theorem ty80:tyI je 80=some ⟨[.int .i64,.int .i64],true,[(0,3),(1,3)],0,16⟩:=by kernel_rfl
theorem eq80:eqT je 80=true:=by kernel_rfl
theorem ty81:tyI je 81=some ⟨[.slice 3],false,[],3,24⟩:=by kernel_rfl
theorem sl81:slE je 81=some (3,⟨[.int .i64],false,[],0,8⟩):=by kernel_rfl
theorem ty82:tyI je 82=some ⟨[.slice 9],false,[],9,24⟩:=by kernel_rfl
theorem sl82:slE je 82=some (9,⟨[.str],false,[],0,16⟩):=by kernel_rfl
theorem hyz:tyI je 151=some ⟨[.int .u64],false,[],0,8⟩:=by kernel_rfl
theorem ij4:arrI je 159=some (512,4,⟨[.bool],false,[],0,1⟩):=by kernel_rfl
theorem hyu:tyI je 159=none:=by kernel_rfl
theorem ij0:slE je 159=none:=by kernel_rfl
abbrev tys:=(aI (aI (aI (aI @un3 (aI @ij5 @ty3)) (aI (aI @ty4 @ty5) (aI @ty9 @str9))) (aI (aI @ty23 (aI @sl23 @ty25)) (aI (aI @ty26 @ty29) (aI @ty38 @eq38)))) (aI (aI (aI @ty39 (aI @sl39 @ty41)) (aI (aI @ty62 @eq62) (aI @ty80 @eq80))) (aI (aI (aI @ty81 @sl81) (aI @ty82 @sl82)) (aI (aI @hyz @ij4) (aI @hyu @ij0)))))
structure TDcb where
 Org:Int
 Format:Int
 Blocked:Bool
 Asa:Bool
 Lrecl:Int
 Blksize:Int
 KeyLen:Int
 KeyPos:Int
 deriving DecidableEq,Inhabited
structure aj0 where
 At:Int
 Len:Int
 deriving DecidableEq,Inhabited
structure aj6 where
 Name:List UInt8
 Dcb:TDcb
 Extents:List aj0
 Used:Int
 deriving DecidableEq,Inhabited
structure aj5 where
 Serial:List UInt8
 Cyls:Int
 Heads:Int
 Size:Int
 Sets:List aj6
 deriving DecidableEq,Inhabited
structure TAct where
 Kind:Int
 Name:List UInt8
 To:List UInt8
 Dcb:TDcb
 N:Int
 deriving DecidableEq,Inhabited
def aj1 (x:aj0):List C:=[.int x.At,.int x.Len]
def ajl (c:List C):aj0:=(⟨(cg c 0).toInt,(cg c 1).toInt⟩:aj0)
theorem ezy (l:List aj0):List.map ajl (List.map aj1 l)=l:=by
 rw [JV];refine (jX fun x _=>?_).trans (List.map_id l)
 show ajl (aj1 x)=x
 simp only [ajl,aj1,cg_zero,cg_succ,C.toBool_bool,C.toInt_int,C.toStr_str,C.toSl_slice]
theorem fqn (l:List aj0) (i:Nat):(cg (eg (List.map aj1 l) i) 0).toInt=(gt l i).At:=by
 rcases jD i l.length with h | h
 ·rw [azw _ _ _ h];rfl
 ·rw [bzz _ _ _ h,bk2 _ _ h];rfl
theorem fqz (l:List aj0) (i:Nat):(cg (eg (List.map aj1 l) i) 1).toInt=(gt l i).Len:=by
 rcases jD i l.length with h | h
 ·rw [azw _ _ _ h];rfl
 ·rw [bzz _ _ _ h,bk2 _ _ h];rfl
theorem gqo (l:List aj0) (v0:Int) (v1:Int):List.map aj1 l ++ [[.int v0,.int v1]]=List.map aj1 (l ++ [(⟨v0,v1⟩:aj0)]):=by simp [aj1]
theorem ejr (l:List aj0) (i:Nat) (v0:Int) (v1:Int):(List.map aj1 l).set i (aqk (eg (List.map aj1 l) i) 0 [.int v0,.int v1])=List.map aj1 (l.set i (⟨v0,v1⟩:aj0)):=by
 refine bjs _ _ _ _ fun h=>?_
 rw [azw _ _ _ h];rfl
theorem dyr (l:List aj0) (i:Nat) (v1:Int):(List.map aj1 l).set i (aqk (eg (List.map aj1 l) i) 1 [.int v1])=List.map aj1 (l.set i (⟨(gt l i).At,v1⟩:aj0)):=by
 refine bjs _ _ _ _ fun h=>?_
 rw [azw _ _ _ h];rfl
theorem gq8 (n:Nat):azv n [.int 0,.int 0]=List.map aj1 (azv n (⟨0,0⟩:aj0)):=ejs rfl
def aj3 (x:aj6):List C:=[.str x.Name,.int x.Dcb.Org,.int x.Dcb.Format,.bool x.Dcb.Blocked,.bool x.Dcb.Asa,.int x.Dcb.Lrecl,.int x.Dcb.Blksize,.int x.Dcb.KeyLen,.int x.Dcb.KeyPos,.slice (List.map aj1 x.Extents),.int x.Used]
def aq3 (c:List C):aj6:=(⟨(cg c 0).toStr,(⟨(cg c 1).toInt,(cg c 2).toInt,(cg c 3).toBool,(cg c 4).toBool,(cg c 5).toInt,(cg c 6).toInt,(cg c 7).toInt,(cg c 8).toInt⟩:TDcb),((cg c 9).toSl.map ajl),(cg c 10).toInt⟩:aj6)
theorem hj4 (l:List aj6):List.map aq3 (List.map aj3 l)=l:=by
 rw [JV];refine (jX fun x _=>?_).trans (List.map_id l)
 show aq3 (aj3 x)=x
 simp only [aq3,aj3,cg_zero,cg_succ,C.toBool_bool,C.toInt_int,C.toStr_str,C.toSl_slice,ezy]
theorem gj9 (l:List aj6) (i:Nat):(cg (eg (List.map aj3 l) i) 0).toStr=(gt l i).Name:=by
 rcases jD i l.length with h | h
 ·rw [azw _ _ _ h];rfl
 ·rw [bzz _ _ _ h,bk2 _ _ h];rfl
theorem gjz (l:List aj6) (i:Nat):(cg (eg (List.map aj3 l) i) 1).toInt=(gt l i).Dcb.Org:=by
 rcases jD i l.length with h | h
 ·rw [azw _ _ _ h];rfl
 ·rw [bzz _ _ _ h,bk2 _ _ h];rfl
theorem gq2 (l:List aj6) (i:Nat):(cg (eg (List.map aj3 l) i) 2).toInt=(gt l i).Dcb.Format:=by
 rcases jD i l.length with h | h
 ·rw [azw _ _ _ h];rfl
 ·rw [bzz _ _ _ h,bk2 _ _ h];rfl
theorem gjt (l:List aj6) (i:Nat):(cg (eg (List.map aj3 l) i) 3).toBool=(gt l i).Dcb.Blocked:=by
 rcases jD i l.length with h | h
 ·rw [azw _ _ _ h];rfl
 ·rw [bzz _ _ _ h,bk2 _ _ h];rfl
theorem fyx (l:List aj6) (i:Nat):(cg (eg (List.map aj3 l) i) 4).toBool=(gt l i).Dcb.Asa:=by
 rcases jD i l.length with h | h
 ·rw [azw _ _ _ h];rfl
 ·rw [bzz _ _ _ h,bk2 _ _ h];rfl
theorem gj6 (l:List aj6) (i:Nat):(cg (eg (List.map aj3 l) i) 5).toInt=(gt l i).Dcb.Lrecl:=by
 rcases jD i l.length with h | h
 ·rw [azw _ _ _ h];rfl
 ·rw [bzz _ _ _ h,bk2 _ _ h];rfl
theorem gjv (l:List aj6) (i:Nat):(cg (eg (List.map aj3 l) i) 6).toInt=(gt l i).Dcb.Blksize:=by
 rcases jD i l.length with h | h
 ·rw [azw _ _ _ h];rfl
 ·rw [bzz _ _ _ h,bk2 _ _ h];rfl
theorem gj8 (l:List aj6) (i:Nat):(cg (eg (List.map aj3 l) i) 7).toInt=(gt l i).Dcb.KeyLen:=by
 rcases jD i l.length with h | h
 ·rw [azw _ _ _ h];rfl
 ·rw [bzz _ _ _ h,bk2 _ _ h];rfl
theorem gj0 (l:List aj6) (i:Nat):(cg (eg (List.map aj3 l) i) 8).toInt=(gt l i).Dcb.KeyPos:=by
 rcases jD i l.length with h | h
 ·rw [azw _ _ _ h];rfl
 ·rw [bzz _ _ _ h,bk2 _ _ h];rfl
theorem gjm (l:List aj6) (i:Nat):(cg (eg (List.map aj3 l) i) 9).toSl=List.map aj1 ((gt l i).Extents):=by
 rcases jD i l.length with h | h
 ·rw [azw _ _ _ h];rfl
 ·rw [bzz _ _ _ h,bk2 _ _ h];rfl
theorem fwj (l:List aj6) (i:Nat):(cg (eg (List.map aj3 l) i) 10).toInt=(gt l i).Used:=by
 rcases jD i l.length with h | h
 ·rw [azw _ _ _ h];rfl
 ·rw [bzz _ _ _ h,bk2 _ _ h];rfl
theorem gyk (l:List aj6) (v0:List UInt8) (v1:Int) (v2:Int) (v3:Bool) (v4:Bool) (v5:Int) (v6:Int) (v7:Int) (v8:Int) (v9:List aj0) (v10:Int):List.map aj3 l ++ [[.str v0,.int v1,.int v2,.bool v3,.bool v4,.int v5,.int v6,.int v7,.int v8,.slice (List.map aj1 v9),.int v10]]=List.map aj3 (l ++ [(⟨v0,(⟨v1,v2,v3,v4,v5,v6,v7,v8⟩:TDcb),v9,v10⟩:aj6)]):=by simp [aj3]
theorem gjk (l:List aj6) (v0:List UInt8) (v1:Int) (v2:Int) (v3:Bool) (v4:Bool) (v5:Int) (v6:Int) (v7:Int) (v8:Int) (v10:Int):List.map aj3 l ++ [[.str v0,.int v1,.int v2,.bool v3,.bool v4,.int v5,.int v6,.int v7,.int v8,.slice [],.int v10]]=List.map aj3 (l ++ [(⟨v0,(⟨v1,v2,v3,v4,v5,v6,v7,v8⟩:TDcb),[],v10⟩:aj6)]):=by simp [aj3]
theorem ey6 (l:List aj6) (i:Nat) (v0:List UInt8):(List.map aj3 l).set i (aqk (eg (List.map aj3 l) i) 0 [.str v0])=List.map aj3 (l.set i (⟨v0,((gt l i).Dcb),(gt l i).Extents,(gt l i).Used⟩:aj6)):=by
 refine bjs _ _ _ _ fun h=>?_
 rw [azw _ _ _ h];rfl
theorem ew1 (l:List aj6) (i:Nat) (v0:List UInt8) (v1:Int) (v2:Int) (v3:Bool) (v4:Bool) (v5:Int) (v6:Int) (v7:Int) (v8:Int) (v9:List aj0) (v10:Int):(List.map aj3 l).set i (aqk (eg (List.map aj3 l) i) 0 [.str v0,.int v1,.int v2,.bool v3,.bool v4,.int v5,.int v6,.int v7,.int v8,.slice (List.map aj1 v9),.int v10])=List.map aj3 (l.set i (⟨v0,(⟨v1,v2,v3,v4,v5,v6,v7,v8⟩:TDcb),v9,v10⟩:aj6)):=by
 refine bjs _ _ _ _ fun h=>?_
 rw [azw _ _ _ h];rfl
theorem ekp (l:List aj6) (i:Nat) (v1:Int) (v2:Int) (v3:Bool) (v4:Bool) (v5:Int) (v6:Int) (v7:Int) (v8:Int):(List.map aj3 l).set i (aqk (eg (List.map aj3 l) i) 1 [.int v1,.int v2,.bool v3,.bool v4,.int v5,.int v6,.int v7,.int v8])=List.map aj3 (l.set i (⟨(gt l i).Name,(⟨v1,v2,v3,v4,v5,v6,v7,v8⟩:TDcb),(gt l i).Extents,(gt l i).Used⟩:aj6)):=by
 refine bjs _ _ _ _ fun h=>?_
 rw [azw _ _ _ h];rfl
theorem ekw (l:List aj6) (i:Nat) (v9:List aj0):(List.map aj3 l).set i (aqk (eg (List.map aj3 l) i) 9 [.slice (List.map aj1 v9)])=List.map aj3 (l.set i (⟨(gt l i).Name,((gt l i).Dcb),v9,(gt l i).Used⟩:aj6)):=by
 refine bjs _ _ _ _ fun h=>?_
 rw [azw _ _ _ h];rfl
theorem ewd (l:List aj6) (i:Nat) (v10:Int):(List.map aj3 l).set i (aqk (eg (List.map aj3 l) i) 10 [.int v10])=List.map aj3 (l.set i (⟨(gt l i).Name,((gt l i).Dcb),(gt l i).Extents,v10⟩:aj6)):=by
 refine bjs _ _ _ _ fun h=>?_
 rw [azw _ _ _ h];rfl
theorem gyw (n:Nat):azv n [.str [],.int 0,.int 0,.bool false,.bool false,.int 0,.int 0,.int 0,.int 0,.slice [],.int 0]=List.map aj3 (azv n (⟨[],(⟨0,0,false,false,0,0,0,0⟩:TDcb),[],0⟩:aj6)):=ejs rfl
def dwk (x:List UInt8):List C:=[.str x]
def gyo (c:List C):List UInt8:=(cg c 0).toStr
theorem hzk (l:List (List UInt8)):List.map gyo (List.map dwk l)=l:=by
 rw [JV];refine (jX fun x _=>?_).trans (List.map_id l)
 show gyo (dwk x)=x
 simp only [gyo,dwk,cg_zero,cg_succ,C.toBool_bool,C.toInt_int,C.toStr_str,C.toSl_slice]
theorem hq6 (l:List (List UInt8)) (i:Nat):(cg (eg (List.map dwk l) i) 0).toStr=gt l i:=by
 rcases jD i l.length with h | h
 ·rw [azw _ _ _ h];rfl
 ·rw [bzz _ _ _ h,bk2 _ _ h];rfl
theorem hzx (l:List (List UInt8)) (v0:List UInt8):List.map dwk l ++ [[.str v0]]=List.map dwk (l ++ [v0]):=by simp [dwk]
def ak0 (x:Bool):List C:=[.bool x]
def fqm (c:List C):Bool:=(cg c 0).toBool
theorem hwz (l:List Bool):List.map fqm (List.map ak0 l)=l:=by
 rw [JV];refine (jX fun x _=>?_).trans (List.map_id l)
 show fqm (ak0 x)=x
 simp only [fqm,ak0,cg_zero,cg_succ,C.toBool_bool,C.toInt_int,C.toStr_str,C.toSl_slice]
theorem gz9 (l:List Bool) (i:Nat):(cg (eg (List.map ak0 l) i) 0).toBool=gt l i:=by
 rcases jD i l.length with h | h
 ·rw [azw _ _ _ h];rfl
 ·rw [bzz _ _ _ h,bk2 _ _ h];rfl
theorem hwv (l:List Bool) (v0:Bool):List.map ak0 l ++ [[.bool v0]]=List.map ak0 (l ++ [v0]):=by simp [ak0]
theorem fje (l:List Bool) (i:Nat) (v0:Bool):(List.map ak0 l).set i (aqk (eg (List.map ak0 l) i) 0 [.bool v0])=List.map ak0 (l.set i v0):=by
 refine bjs _ _ _ _ fun h=>?_
 rw [azw _ _ _ h];rfl
theorem hzb (n:Nat):azv n [.bool false]=List.map ak0 (azv n false):=ejs rfl
def cyy (x:Int):List C:=[.int x]
def gkz (c:List C):Int:=(cg c 0).toInt
theorem hzq (l:List Int):List.map gkz (List.map cyy l)=l:=by
 rw [JV];refine (jX fun x _=>?_).trans (List.map_id l)
 show gkz (cyy x)=x
 simp only [gkz,cyy,cg_zero,cg_succ,C.toBool_bool,C.toInt_int,C.toStr_str,C.toSl_slice]
theorem hj5 (l:List Int) (i:Nat):(cg (eg (List.map cyy l) i) 0).toInt=gt l i:=by
 rcases jD i l.length with h | h
 ·rw [azw _ _ _ h];rfl
 ·rw [bzz _ _ _ h,bk2 _ _ h];rfl
theorem hkj (l:List Int) (v0:Int):List.map cyy l ++ [[.int v0]]=List.map cyy (l ++ [v0]):=by simp [cyy]
theorem hq3 (x:TDcb):(⟨x.Org,x.Format,x.Blocked,x.Asa,x.Lrecl,x.Blksize,x.KeyLen,x.KeyPos⟩:TDcb)=x:=rfl
theorem fzn (x:aj0):(⟨x.At,x.Len⟩:aj0)=x:=rfl
theorem gwz (x:aj6):(⟨x.Name,x.Dcb,x.Extents,x.Used⟩:aj6)=x:=rfl
theorem gkq (x:aj5):(⟨x.Serial,x.Cyls,x.Heads,x.Size,x.Sets⟩:aj5)=x:=rfl
theorem gyq (x:TAct):(⟨x.Kind,x.Name,x.To,x.Dcb,x.N⟩:TAct)=x:=rfl
abbrev tl:=(aI (aI (aI (aI (aI @ezy (aI @aj1.eq_1 @ajl.eq_1)) (aI @fqn (aI @fqz @gqo))) (aI (aI @ejr (aI @dyr @gq8)) (aI (aI @hj4 @aj3.eq_1) (aI @aq3.eq_1 @gj9)))) (aI (aI (aI @gjz (aI @gq2 @gjt)) (aI @fyx (aI @gj6 @gjv))) (aI (aI @gj8 (aI @gj0 @gjm)) (aI (aI @fwj @gyk) (aI @gjk @ey6))))) (aI (aI (aI (aI @ew1 (aI @ekp @ekw)) (aI @ewd (aI @gyw @hzk))) (aI (aI @dwk.eq_1 (aI @gyo.eq_1 @hq6)) (aI (aI @hzx @hwz) (aI @ak0.eq_1 @fqm.eq_1)))) (aI (aI (aI @gz9 (aI @hwv @fje)) (aI (aI @hzb @hzq) (aI @cyy.eq_1 @gkz.eq_1))) (aI (aI @hj5 (aI @hkj @hq3)) (aI (aI @fzn @gwz) (aI @gkq @gyq))))))
abbrev z:=(aI (aI ev ew) (aI tys tl))
end Go.Proofs.YtijnkhcfondehaaGreatDoor
