/- Text. -/
import Derived.Test.YtijnkhcfondehaaGreatDoorAE19
import Derived.Test.YtijnkhcfondehaaGreatDoorAE41
import Derived.Test.YtijnkhcfondehaaGreatDoorAE28
import Derived.Test.YtijnkhcfondehaaGreatDoorRows
set_option maxHeartbeats 8000000
set_option linter.unusedVariables false
set_option linter.unusedSimpArgs false
set_option maxRecDepth 100000
namespace Go.Proofs.YtijnkhcfondehaaGreatDoor
open Go.AE
theorem h00:tyI Tryz.prog 0=none:=by kernel_rfl
theorem mixed:Tryz.prog.follows .mixedOrders=true:=by kernel_rfl
theorem un3:Tryz.prog.underlying 3=some (.int .i64):=by kernel_rfl
theorem hwe:Tryz.prog.underlying 151=some (.int .u64):=by kernel_rfl
theorem ty3:tyI Tryz.prog 3=some ⟨[.int .i64],false,[],0,8⟩:=by kernel_rfl
theorem ty4:tyI Tryz.prog 4=some ⟨[.bool],false,[],0,1⟩:=by kernel_rfl
theorem ty5:tyI Tryz.prog 5=some ⟨[.int .u8],false,[],0,1⟩:=by kernel_rfl
theorem ty9:tyI Tryz.prog 9=some ⟨[.str],false,[],0,16⟩:=by kernel_rfl
theorem str9:ej3 Tryz.prog 9=true:=by kernel_rfl
theorem ty23:tyI Tryz.prog 23=some ⟨[.slice 41],false,[],41,24⟩:=by kernel_rfl
theorem sl23:slE Tryz.prog 23=some (41,⟨[.str,.int .i64,.int .i64,.bool,.bool,.int .i64,.int .i64,.int .i64,.int .i64,.slice 80,.int .i64],true,[(0,9),(1,38),(9,39),(10,3)],0,104⟩):=by kernel_rfl
theorem ty25:tyI Tryz.prog 25=some ⟨[.str,.int .i64,.int .i64,.int .i64,.slice 41],true,[(0,9),(1,3),(2,3),(3,3),(4,23)],0,64⟩:=by kernel_rfl
theorem ty26:tyI Tryz.prog 26=some ⟨[.int .i64],false,[],0,8⟩:=by kernel_rfl
theorem ty29:tyI Tryz.prog 29=some ⟨[.str,.int .i64,.int .i64,.int .i64,.slice 41],true,[(0,9),(1,3),(2,3),(3,3),(4,23)],0,64⟩:=by kernel_rfl
theorem ty38:tyI Tryz.prog 38=some ⟨[.int .i64,.int .i64,.bool,.bool,.int .i64,.int .i64,.int .i64,.int .i64],true,[(0,3),(1,3),(2,4),(3,4),(4,3),(5,3),(6,3),(7,3)],0,56⟩:=by kernel_rfl
theorem eq38:eqT Tryz.prog 38=true:=by kernel_rfl
theorem ty39:tyI Tryz.prog 39=some ⟨[.slice 80],false,[],80,24⟩:=by kernel_rfl
theorem sl39:slE Tryz.prog 39=some (80,⟨[.int .i64,.int .i64],true,[(0,3),(1,3)],0,16⟩):=by kernel_rfl
theorem ty41:tyI Tryz.prog 41=some ⟨[.str,.int .i64,.int .i64,.bool,.bool,.int .i64,.int .i64,.int .i64,.int .i64,.slice 80,.int .i64],true,[(0,9),(1,38),(9,39),(10,3)],0,104⟩:=by kernel_rfl
theorem ty62:tyI Tryz.prog 62=some ⟨[.int .u8,.str,.str,.int .i64,.int .i64,.bool,.bool,.int .i64,.int .i64,.int .i64,.int .i64,.int .i64],true,[(0,5),(1,9),(2,9),(3,38),(11,3)],0,104⟩:=by kernel_rfl
theorem eq62:eqT Tryz.prog 62=true:=by kernel_rfl
theorem ty67:tyI Tryz.prog 67=some ⟨[.int .u8,.int .u8,.int .u8],true,[(0,5),(1,5),(2,5)],0,3⟩:=by kernel_rfl
theorem eq67:eqT Tryz.prog 67=true:=by kernel_rfl
theorem ty68:tyI Tryz.prog 68=some ⟨[.slice 62],false,[],62,24⟩:=by kernel_rfl
theorem sl68:slE Tryz.prog 68=some (62,⟨[.int .u8,.str,.str,.int .i64,.int .i64,.bool,.bool,.int .i64,.int .i64,.int .i64,.int .i64,.int .i64],true,[(0,5),(1,9),(2,9),(3,38),(11,3)],0,104⟩):=by kernel_rfl
theorem ty80:tyI Tryz.prog 80=some ⟨[.int .i64,.int .i64],true,[(0,3),(1,3)],0,16⟩:=by kernel_rfl
theorem eq80:eqT Tryz.prog 80=true:=by kernel_rfl
theorem ty81:tyI Tryz.prog 81=some ⟨[.slice 3],false,[],3,24⟩:=by kernel_rfl
theorem sl81:slE Tryz.prog 81=some (3,⟨[.int .i64],false,[],0,8⟩):=by kernel_rfl
theorem ty82:tyI Tryz.prog 82=some ⟨[.slice 9],false,[],9,24⟩:=by kernel_rfl
theorem sl82:slE Tryz.prog 82=some (9,⟨[.str],false,[],0,16⟩):=by kernel_rfl
theorem hw3:tyI Tryz.prog 151=some ⟨[.int .u64],false,[],0,8⟩:=by kernel_rfl
theorem hqt:arrI Tryz.prog 159=some (512,4,⟨[.bool],false,[],0,1⟩):=by kernel_rfl
theorem hqv:tyI Tryz.prog 159=none:=by kernel_rfl
theorem hqr:slE Tryz.prog 159=none:=by kernel_rfl
theorem tys:type_of% (And.intro (And.intro (And.intro (And.intro (And.intro @un3 @hwe) (And.intro @ty3 @ty4)) (And.intro (And.intro @ty5 @ty9) (And.intro @str9 @ty23))) (And.intro (And.intro (And.intro @sl23 @ty25) (And.intro @ty26 @ty29)) (And.intro (And.intro @ty38 @eq38) (And.intro @ty39 @sl39)))) (And.intro (And.intro (And.intro (And.intro @ty41 @ty62) (And.intro @eq62 @ty67)) (And.intro (And.intro @eq67 @ty68) (And.intro @sl68 @ty80))) (And.intro (And.intro (And.intro @eq80 @ty81) (And.intro @sl81 @ty82)) (And.intro (And.intro @sl82 @hw3) (And.intro @hqt (And.intro @hqv @hqr)))))):=(And.intro (And.intro (And.intro (And.intro (And.intro @un3 @hwe) (And.intro @ty3 @ty4)) (And.intro (And.intro @ty5 @ty9) (And.intro @str9 @ty23))) (And.intro (And.intro (And.intro @sl23 @ty25) (And.intro @ty26 @ty29)) (And.intro (And.intro @ty38 @eq38) (And.intro @ty39 @sl39)))) (And.intro (And.intro (And.intro (And.intro @ty41 @ty62) (And.intro @eq62 @ty67)) (And.intro (And.intro @eq67 @ty68) (And.intro @sl68 @ty80))) (And.intro (And.intro (And.intro @eq80 @ty81) (And.intro @sl81 @ty82)) (And.intro (And.intro @sl82 @hw3) (And.intro @hqt (And.intro @hqv @hqr))))))
structure cyh where
 Cyls:Int
 Heads:Int
 Size:Int
 deriving DecidableEq,Inhabited
structure TDcb where
 Org:Int
 Format:Int
 Blocked:Bool
 Asa:Bool
 Lrecl:Int
 Blksize:Int
 KeyLen:Int
 KeyPos:Int
 deriving DecidableEq,Inhabited
structure TAct where
 Kind:Int
 Name:List UInt8
 To:List UInt8
 Dcb:TDcb
 N:Int
 deriving DecidableEq,Inhabited
structure aj0 where
 At:Int
 Len:Int
 deriving DecidableEq,Inhabited
structure aj4 where
 Name:List UInt8
 Dcb:TDcb
 Extents:List aj0
 Used:Int
 deriving DecidableEq,Inhabited
structure aj5 where
 Serial:List UInt8
 Cyls:Int
 Heads:Int
 Size:Int
 Sets:List aj4
 deriving DecidableEq,Inhabited
def awh (x:TAct):List C:=[.int x.Kind,.str x.Name,.str x.To,.int x.Dcb.Org,.int x.Dcb.Format,.bool x.Dcb.Blocked,.bool x.Dcb.Asa,.int x.Dcb.Lrecl,.int x.Dcb.Blksize,.int x.Dcb.KeyLen,.int x.Dcb.KeyPos,.int x.N]
def czu (c:List C):TAct:=(⟨(cg c 0).toInt,(cg c 1).toStr,(cg c 2).toStr,(⟨(cg c 3).toInt,(cg c 4).toInt,(cg c 5).toBool,(cg c 6).toBool,(cg c 7).toInt,(cg c 8).toInt,(cg c 9).toInt,(cg c 10).toInt⟩:TDcb),(cg c 11).toInt⟩:TAct)
theorem gwy (l:List TAct):List.map czu (List.map awh l)=l:=by
 rw [List.map_map];refine (List.map_congr_left fun x _=>?_).trans (List.map_id l)
 show czu (awh x)=x
 simp only [czu,awh,cg_zero,cg_succ,C.toBool_bool,C.toInt_int,C.toStr_str,C.toSl_slice]
theorem fjv (l:List TAct) (i:Nat):(cg (eg (List.map awh l) i) 0).toInt=(gt l i).Kind:=by
 rcases Nat.lt_or_ge i l.length with h | h
 ·rw [aqy _ _ _ h];rfl
 ·rw [azz _ _ _ h,azy _ _ h];rfl
theorem fq0 (l:List TAct) (i:Nat):(cg (eg (List.map awh l) i) 1).toStr=(gt l i).Name:=by
 rcases Nat.lt_or_ge i l.length with h | h
 ·rw [aqy _ _ _ h];rfl
 ·rw [azz _ _ _ h,azy _ _ h];rfl
theorem fqo (l:List TAct) (i:Nat):(cg (eg (List.map awh l) i) 2).toStr=(gt l i).To:=by
 rcases Nat.lt_or_ge i l.length with h | h
 ·rw [aqy _ _ _ h];rfl
 ·rw [azz _ _ _ h,azy _ _ h];rfl
theorem fj7 (l:List TAct) (i:Nat):(cg (eg (List.map awh l) i) 3).toInt=(gt l i).Dcb.Org:=by
 rcases Nat.lt_or_ge i l.length with h | h
 ·rw [aqy _ _ _ h];rfl
 ·rw [azz _ _ _ h,azy _ _ h];rfl
theorem ey4 (l:List TAct) (i:Nat):(cg (eg (List.map awh l) i) 4).toInt=(gt l i).Dcb.Format:=by
 rcases Nat.lt_or_ge i l.length with h | h
 ·rw [aqy _ _ _ h];rfl
 ·rw [azz _ _ _ h,azy _ _ h];rfl
theorem fjs (l:List TAct) (i:Nat):(cg (eg (List.map awh l) i) 5).toBool=(gt l i).Dcb.Blocked:=by
 rcases Nat.lt_or_ge i l.length with h | h
 ·rw [aqy _ _ _ h];rfl
 ·rw [azz _ _ _ h,azy _ _ h];rfl
theorem fqi (l:List TAct) (i:Nat):(cg (eg (List.map awh l) i) 6).toBool=(gt l i).Dcb.Asa:=by
 rcases Nat.lt_or_ge i l.length with h | h
 ·rw [aqy _ _ _ h];rfl
 ·rw [azz _ _ _ h,azy _ _ h];rfl
theorem ey5 (l:List TAct) (i:Nat):(cg (eg (List.map awh l) i) 7).toInt=(gt l i).Dcb.Lrecl:=by
 rcases Nat.lt_or_ge i l.length with h | h
 ·rw [aqy _ _ _ h];rfl
 ·rw [azz _ _ _ h,azy _ _ h];rfl
theorem fqf (l:List TAct) (i:Nat):(cg (eg (List.map awh l) i) 8).toInt=(gt l i).Dcb.Blksize:=by
 rcases Nat.lt_or_ge i l.length with h | h
 ·rw [aqy _ _ _ h];rfl
 ·rw [azz _ _ _ h,azy _ _ h];rfl
theorem fja (l:List TAct) (i:Nat):(cg (eg (List.map awh l) i) 9).toInt=(gt l i).Dcb.KeyLen:=by
 rcases Nat.lt_or_ge i l.length with h | h
 ·rw [aqy _ _ _ h];rfl
 ·rw [azz _ _ _ h,azy _ _ h];rfl
theorem ewt (l:List TAct) (i:Nat):(cg (eg (List.map awh l) i) 10).toInt=(gt l i).Dcb.KeyPos:=by
 rcases Nat.lt_or_ge i l.length with h | h
 ·rw [aqy _ _ _ h];rfl
 ·rw [azz _ _ _ h,azy _ _ h];rfl
theorem ewl (l:List TAct) (i:Nat):(cg (eg (List.map awh l) i) 11).toInt=(gt l i).N:=by
 rcases Nat.lt_or_ge i l.length with h | h
 ·rw [aqy _ _ _ h];rfl
 ·rw [azz _ _ _ h,azy _ _ h];rfl
theorem gzq (l:List TAct) (v0:Int) (v1:List UInt8) (v2:List UInt8) (v3:Int) (v4:Int) (v5:Bool) (v6:Bool) (v7:Int) (v8:Int) (v9:Int) (v10:Int) (v11:Int):List.map awh l ++ [[.int v0,.str v1,.str v2,.int v3,.int v4,.bool v5,.bool v6,.int v7,.int v8,.int v9,.int v10,.int v11]]=List.map awh (l ++ [(⟨v0,v1,v2,(⟨v3,v4,v5,v6,v7,v8,v9,v10⟩:TDcb),v11⟩:TAct)]):=by simp [awh]
def aj1 (x:aj0):List C:=[.int x.At,.int x.Len]
def ajm (c:List C):aj0:=(⟨(cg c 0).toInt,(cg c 1).toInt⟩:aj0)
theorem dz9 (l:List aj0):List.map ajm (List.map aj1 l)=l:=by
 rw [List.map_map];refine (List.map_congr_left fun x _=>?_).trans (List.map_id l)
 show ajm (aj1 x)=x
 simp only [ajm,aj1,cg_zero,cg_succ,C.toBool_bool,C.toInt_int,C.toStr_str,C.toSl_slice]
theorem dk0 (l:List aj0) (i:Nat):(cg (eg (List.map aj1 l) i) 0).toInt=(gt l i).At:=by
 rcases Nat.lt_or_ge i l.length with h | h
 ·rw [aqy _ _ _ h];rfl
 ·rw [azz _ _ _ h,azy _ _ h];rfl
theorem dzg (l:List aj0) (i:Nat):(cg (eg (List.map aj1 l) i) 1).toInt=(gt l i).Len:=by
 rcases Nat.lt_or_ge i l.length with h | h
 ·rw [aqy _ _ _ h];rfl
 ·rw [azz _ _ _ h,azy _ _ h];rfl
theorem ew4 (l:List aj0) (v0:Int) (v1:Int):List.map aj1 l ++ [[.int v0,.int v1]]=List.map aj1 (l ++ [(⟨v0,v1⟩:aj0)]):=by simp [aj1]
theorem czy (l:List aj0) (i:Nat) (v0:Int) (v1:Int):(List.map aj1 l).set i (aqo (eg (List.map aj1 l) i) 0 [.int v0,.int v1])=List.map aj1 (l.set i (⟨v0,v1⟩:aj0)):=by
 refine bqi _ _ _ _ fun h=>?_
 rw [aqy _ _ _ h];rfl
theorem czv (l:List aj0) (i:Nat) (v1:Int):(List.map aj1 l).set i (aqo (eg (List.map aj1 l) i) 1 [.int v1])=List.map aj1 (l.set i (⟨(gt l i).At,v1⟩:aj0)):=by
 refine bqi _ _ _ _ fun h=>?_
 rw [aqy _ _ _ h];rfl
theorem ez6 (n:Nat):ak0 n [.int 0,.int 0]=List.map aj1 (ak0 n (⟨0,0⟩:aj0)):=ejt rfl
def aj3 (x:aj4):List C:=[.str x.Name,.int x.Dcb.Org,.int x.Dcb.Format,.bool x.Dcb.Blocked,.bool x.Dcb.Asa,.int x.Dcb.Lrecl,.int x.Dcb.Blksize,.int x.Dcb.KeyLen,.int x.Dcb.KeyPos,.slice (List.map aj1 x.Extents),.int x.Used]
def aqd (c:List C):aj4:=(⟨(cg c 0).toStr,(⟨(cg c 1).toInt,(cg c 2).toInt,(cg c 3).toBool,(cg c 4).toBool,(cg c 5).toInt,(cg c 6).toInt,(cg c 7).toInt,(cg c 8).toInt⟩:TDcb),((cg c 9).toSl.map ajm),(cg c 10).toInt⟩:aj4)
theorem fzi (l:List aj4):List.map aqd (List.map aj3 l)=l:=by
 rw [List.map_map];refine (List.map_congr_left fun x _=>?_).trans (List.map_id l)
 show aqd (aj3 x)=x
 simp only [aqd,aj3,cg_zero,cg_succ,C.toBool_bool,C.toInt_int,C.toStr_str,C.toSl_slice,dz9]
theorem ez3 (l:List aj4) (i:Nat):(cg (eg (List.map aj3 l) i) 0).toStr=(gt l i).Name:=by
 rcases Nat.lt_or_ge i l.length with h | h
 ·rw [aqy _ _ _ h];rfl
 ·rw [azz _ _ _ h,azy _ _ h];rfl
theorem ewh (l:List aj4) (i:Nat):(cg (eg (List.map aj3 l) i) 1).toInt=(gt l i).Dcb.Org:=by
 rcases Nat.lt_or_ge i l.length with h | h
 ·rw [aqy _ _ _ h];rfl
 ·rw [azz _ _ _ h,azy _ _ h];rfl
theorem ezl (l:List aj4) (i:Nat):(cg (eg (List.map aj3 l) i) 2).toInt=(gt l i).Dcb.Format:=by
 rcases Nat.lt_or_ge i l.length with h | h
 ·rw [aqy _ _ _ h];rfl
 ·rw [azz _ _ _ h,azy _ _ h];rfl
theorem ewx (l:List aj4) (i:Nat):(cg (eg (List.map aj3 l) i) 3).toBool=(gt l i).Dcb.Blocked:=by
 rcases Nat.lt_or_ge i l.length with h | h
 ·rw [aqy _ _ _ h];rfl
 ·rw [azz _ _ _ h,azy _ _ h];rfl
theorem ezf (l:List aj4) (i:Nat):(cg (eg (List.map aj3 l) i) 4).toBool=(gt l i).Dcb.Asa:=by
 rcases Nat.lt_or_ge i l.length with h | h
 ·rw [aqy _ _ _ h];rfl
 ·rw [azz _ _ _ h,azy _ _ h];rfl
theorem ew6 (l:List aj4) (i:Nat):(cg (eg (List.map aj3 l) i) 5).toInt=(gt l i).Dcb.Lrecl:=by
 rcases Nat.lt_or_ge i l.length with h | h
 ·rw [aqy _ _ _ h];rfl
 ·rw [azz _ _ _ h,azy _ _ h];rfl
theorem ez0 (l:List aj4) (i:Nat):(cg (eg (List.map aj3 l) i) 6).toInt=(gt l i).Dcb.Blksize:=by
 rcases Nat.lt_or_ge i l.length with h | h
 ·rw [aqy _ _ _ h];rfl
 ·rw [azz _ _ _ h,azy _ _ h];rfl
theorem ezg (l:List aj4) (i:Nat):(cg (eg (List.map aj3 l) i) 7).toInt=(gt l i).Dcb.KeyLen:=by
 rcases Nat.lt_or_ge i l.length with h | h
 ·rw [aqy _ _ _ h];rfl
 ·rw [azz _ _ _ h,azy _ _ h];rfl
theorem ew3 (l:List aj4) (i:Nat):(cg (eg (List.map aj3 l) i) 8).toInt=(gt l i).Dcb.KeyPos:=by
 rcases Nat.lt_or_ge i l.length with h | h
 ·rw [aqy _ _ _ h];rfl
 ·rw [azz _ _ _ h,azy _ _ h];rfl
theorem ez1 (l:List aj4) (i:Nat):(cg (eg (List.map aj3 l) i) 9).toSl=List.map aj1 ((gt l i).Extents):=by
 rcases Nat.lt_or_ge i l.length with h | h
 ·rw [aqy _ _ _ h];rfl
 ·rw [azz _ _ _ h,azy _ _ h];rfl
theorem eqa (l:List aj4) (i:Nat):(cg (eg (List.map aj3 l) i) 10).toInt=(gt l i).Used:=by
 rcases Nat.lt_or_ge i l.length with h | h
 ·rw [aqy _ _ _ h];rfl
 ·rw [azz _ _ _ h,azy _ _ h];rfl
theorem fkj (l:List aj4) (v0:List UInt8) (v1:Int) (v2:Int) (v3:Bool) (v4:Bool) (v5:Int) (v6:Int) (v7:Int) (v8:Int) (v9:List aj0) (v10:Int):List.map aj3 l ++ [[.str v0,.int v1,.int v2,.bool v3,.bool v4,.int v5,.int v6,.int v7,.int v8,.slice (List.map aj1 v9),.int v10]]=List.map aj3 (l ++ [(⟨v0,(⟨v1,v2,v3,v4,v5,v6,v7,v8⟩:TDcb),v9,v10⟩:aj4)]):=by simp [aj3]
theorem ews (l:List aj4) (v0:List UInt8) (v1:Int) (v2:Int) (v3:Bool) (v4:Bool) (v5:Int) (v6:Int) (v7:Int) (v8:Int) (v10:Int):List.map aj3 l ++ [[.str v0,.int v1,.int v2,.bool v3,.bool v4,.int v5,.int v6,.int v7,.int v8,.slice [],.int v10]]=List.map aj3 (l ++ [(⟨v0,(⟨v1,v2,v3,v4,v5,v6,v7,v8⟩:TDcb),[],v10⟩:aj4)]):=by simp [aj3]
theorem dwf (l:List aj4) (i:Nat) (v0:List UInt8):(List.map aj3 l).set i (aqo (eg (List.map aj3 l) i) 0 [.str v0])=List.map aj3 (l.set i (⟨v0,((gt l i).Dcb),(gt l i).Extents,(gt l i).Used⟩:aj4)):=by
 refine bqi _ _ _ _ fun h=>?_
 rw [aqy _ _ _ h];rfl
theorem cy9 (l:List aj4) (i:Nat) (v0:List UInt8) (v1:Int) (v2:Int) (v3:Bool) (v4:Bool) (v5:Int) (v6:Int) (v7:Int) (v8:Int) (v9:List aj0) (v10:Int):(List.map aj3 l).set i (aqo (eg (List.map aj3 l) i) 0 [.str v0,.int v1,.int v2,.bool v3,.bool v4,.int v5,.int v6,.int v7,.int v8,.slice (List.map aj1 v9),.int v10])=List.map aj3 (l.set i (⟨v0,(⟨v1,v2,v3,v4,v5,v6,v7,v8⟩:TDcb),v9,v10⟩:aj4)):=by
 refine bqi _ _ _ _ fun h=>?_
 rw [aqy _ _ _ h];rfl
theorem dw3 (l:List aj4) (i:Nat) (v1:Int) (v2:Int) (v3:Bool) (v4:Bool) (v5:Int) (v6:Int) (v7:Int) (v8:Int):(List.map aj3 l).set i (aqo (eg (List.map aj3 l) i) 1 [.int v1,.int v2,.bool v3,.bool v4,.int v5,.int v6,.int v7,.int v8])=List.map aj3 (l.set i (⟨(gt l i).Name,(⟨v1,v2,v3,v4,v5,v6,v7,v8⟩:TDcb),(gt l i).Extents,(gt l i).Used⟩:aj4)):=by
 refine bqi _ _ _ _ fun h=>?_
 rw [aqy _ _ _ h];rfl
theorem dq3 (l:List aj4) (i:Nat) (v9:List aj0):(List.map aj3 l).set i (aqo (eg (List.map aj3 l) i) 9 [.slice (List.map aj1 v9)])=List.map aj3 (l.set i (⟨(gt l i).Name,((gt l i).Dcb),v9,(gt l i).Used⟩:aj4)):=by
 refine bqi _ _ _ _ fun h=>?_
 rw [aqy _ _ _ h];rfl
theorem cyf (l:List aj4) (i:Nat) (v10:Int):(List.map aj3 l).set i (aqo (eg (List.map aj3 l) i) 10 [.int v10])=List.map aj3 (l.set i (⟨(gt l i).Name,((gt l i).Dcb),(gt l i).Extents,v10⟩:aj4)):=by
 refine bqi _ _ _ _ fun h=>?_
 rw [aqy _ _ _ h];rfl
theorem fzw (n:Nat):ak0 n [.str [],.int 0,.int 0,.bool false,.bool false,.int 0,.int 0,.int 0,.int 0,.slice [],.int 0]=List.map aj3 (ak0 n (⟨[],(⟨0,0,false,false,0,0,0,0⟩:TDcb),[],0⟩:aj4)):=ejt rfl
def djc (x:List UInt8):List C:=[.str x]
def gwz (c:List C):List UInt8:=(cg c 0).toStr
theorem gyi (l:List (List UInt8)):List.map gwz (List.map djc l)=l:=by
 rw [List.map_map];refine (List.map_congr_left fun x _=>?_).trans (List.map_id l)
 show gwz (djc x)=x
 simp only [gwz,djc,cg_zero,cg_succ,C.toBool_bool,C.toInt_int,C.toStr_str,C.toSl_slice]
theorem fkc (l:List (List UInt8)) (i:Nat):(cg (eg (List.map djc l) i) 0).toStr=gt l i:=by
 rcases Nat.lt_or_ge i l.length with h | h
 ·rw [aqy _ _ _ h];rfl
 ·rw [azz _ _ _ h,azy _ _ h];rfl
theorem hj4 (l:List (List UInt8)) (v0:List UInt8):List.map djc l ++ [[.str v0]]=List.map djc (l ++ [v0]):=by simp [djc]
def aki (x:Bool):List C:=[.bool x]
def ewc (c:List C):Bool:=(cg c 0).toBool
theorem gjz (l:List Bool):List.map ewc (List.map aki l)=l:=by
 rw [List.map_map];refine (List.map_congr_left fun x _=>?_).trans (List.map_id l)
 show ewc (aki x)=x
 simp only [ewc,aki,cg_zero,cg_succ,C.toBool_bool,C.toInt_int,C.toStr_str,C.toSl_slice]
theorem eyc (l:List Bool) (i:Nat):(cg (eg (List.map aki l) i) 0).toBool=gt l i:=by
 rcases Nat.lt_or_ge i l.length with h | h
 ·rw [aqy _ _ _ h];rfl
 ·rw [azz _ _ _ h,azy _ _ h];rfl
theorem gwm (l:List Bool) (v0:Bool):List.map aki l ++ [[.bool v0]]=List.map aki (l ++ [v0]):=by simp [aki]
theorem dzf (l:List Bool) (i:Nat) (v0:Bool):(List.map aki l).set i (aqo (eg (List.map aki l) i) 0 [.bool v0])=List.map aki (l.set i v0):=by
 refine bqi _ _ _ _ fun h=>?_
 rw [aqy _ _ _ h];rfl
theorem gwt (n:Nat):ak0 n [.bool false]=List.map aki (ak0 n false):=ejt rfl
def cy1 (x:Int):List C:=[.int x]
def gw9 (c:List C):Int:=(cg c 0).toInt
theorem gym (l:List Int):List.map gw9 (List.map cy1 l)=l:=by
 rw [List.map_map];refine (List.map_congr_left fun x _=>?_).trans (List.map_id l)
 show gw9 (cy1 x)=x
 simp only [gw9,cy1,cg_zero,cg_succ,C.toBool_bool,C.toInt_int,C.toStr_str,C.toSl_slice]
theorem fzl (l:List Int) (i:Nat):(cg (eg (List.map cy1 l) i) 0).toInt=gt l i:=by
 rcases Nat.lt_or_ge i l.length with h | h
 ·rw [aqy _ _ _ h];rfl
 ·rw [azz _ _ _ h,azy _ _ h];rfl
theorem gyc (l:List Int) (v0:Int):List.map cy1 l ++ [[.int v0]]=List.map cy1 (l ++ [v0]):=by simp [cy1]
theorem ezb (x:cyh):(⟨x.Cyls,x.Heads,x.Size⟩:cyh)=x:=rfl
theorem fkh (x:TDcb):(⟨x.Org,x.Format,x.Blocked,x.Asa,x.Lrecl,x.Blksize,x.KeyLen,x.KeyPos⟩:TDcb)=x:=rfl
theorem fku (x:TAct):(⟨x.Kind,x.Name,x.To,x.Dcb,x.N⟩:TAct)=x:=rfl
theorem dyc (x:aj0):(⟨x.At,x.Len⟩:aj0)=x:=rfl
theorem fq2 (x:aj4):(⟨x.Name,x.Dcb,x.Extents,x.Used⟩:aj4)=x:=rfl
theorem fj2 (x:aj5):(⟨x.Serial,x.Cyls,x.Heads,x.Size,x.Sets⟩:aj5)=x:=rfl
theorem tl:type_of% (And.intro (And.intro (And.intro (And.intro (And.intro (And.intro @gwy @awh.eq_1) (And.intro @czu.eq_1 @fjv)) (And.intro (And.intro @fq0 @fqo) (And.intro @fj7 @ey4))) (And.intro (And.intro (And.intro @fjs @fqi) (And.intro @ey5 @fqf)) (And.intro (And.intro @fja @ewt) (And.intro @ewl (And.intro @gzq @dz9))))) (And.intro (And.intro (And.intro (And.intro @aj1.eq_1 @ajm.eq_1) (And.intro @dk0 @dzg)) (And.intro (And.intro @ew4 @czy) (And.intro @czv (And.intro @ez6 @fzi)))) (And.intro (And.intro (And.intro @aj3.eq_1 @aqd.eq_1) (And.intro @ez3 @ewh)) (And.intro (And.intro @ezl @ewx) (And.intro @ezf (And.intro @ew6 @ez0)))))) (And.intro (And.intro (And.intro (And.intro (And.intro @ezg @ew3) (And.intro @ez1 @eqa)) (And.intro (And.intro @fkj @ews) (And.intro @dwf @cy9))) (And.intro (And.intro (And.intro @dw3 @dq3) (And.intro @cyf @fzw)) (And.intro (And.intro @gyi @djc.eq_1) (And.intro @gwz.eq_1 (And.intro @fkc @hj4))))) (And.intro (And.intro (And.intro (And.intro @gjz @aki.eq_1) (And.intro @ewc.eq_1 @eyc)) (And.intro (And.intro @gwm @dzf) (And.intro @gwt (And.intro @gym @cy1.eq_1)))) (And.intro (And.intro (And.intro @gw9.eq_1 @fzl) (And.intro @gyc @ezb)) (And.intro (And.intro @fkh @fku) (And.intro @dyc (And.intro @fq2 @fj2))))))):=(And.intro (And.intro (And.intro (And.intro (And.intro (And.intro @gwy @awh.eq_1) (And.intro @czu.eq_1 @fjv)) (And.intro (And.intro @fq0 @fqo) (And.intro @fj7 @ey4))) (And.intro (And.intro (And.intro @fjs @fqi) (And.intro @ey5 @fqf)) (And.intro (And.intro @fja @ewt) (And.intro @ewl (And.intro @gzq @dz9))))) (And.intro (And.intro (And.intro (And.intro @aj1.eq_1 @ajm.eq_1) (And.intro @dk0 @dzg)) (And.intro (And.intro @ew4 @czy) (And.intro @czv (And.intro @ez6 @fzi)))) (And.intro (And.intro (And.intro @aj3.eq_1 @aqd.eq_1) (And.intro @ez3 @ewh)) (And.intro (And.intro @ezl @ewx) (And.intro @ezf (And.intro @ew6 @ez0)))))) (And.intro (And.intro (And.intro (And.intro (And.intro @ezg @ew3) (And.intro @ez1 @eqa)) (And.intro (And.intro @fkj @ews) (And.intro @dwf @cy9))) (And.intro (And.intro (And.intro @dw3 @dq3) (And.intro @cyf @fzw)) (And.intro (And.intro @gyi @djc.eq_1) (And.intro @gwz.eq_1 (And.intro @fkc @hj4))))) (And.intro (And.intro (And.intro (And.intro @gjz @aki.eq_1) (And.intro @ewc.eq_1 @eyc)) (And.intro (And.intro @gwm @dzf) (And.intro @gwt (And.intro @gym @cy1.eq_1)))) (And.intro (And.intro (And.intro @gw9.eq_1 @fzl) (And.intro @gyc @ezb)) (And.intro (And.intro @fkh @fku) (And.intro @dyc (And.intro @fq2 @fj2)))))))
theorem z:type_of% (And.intro (And.intro ev ew) (And.intro tys tl)):=(And.intro (And.intro ev ew) (And.intro tys tl))
end Go.Proofs.YtijnkhcfondehaaGreatDoor
