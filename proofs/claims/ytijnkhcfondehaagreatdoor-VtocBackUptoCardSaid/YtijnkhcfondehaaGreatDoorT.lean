/- Text. -/
import Derived.Test.YtijnkhcfondehaaGreatDoorAE19
import Derived.Test.YtijnkhcfondehaaGreatDoorAE41
import Derived.Test.YtijnkhcfondehaaGreatDoorAE53
import Derived.Test.YtijnkhcfondehaaGreatDoorAE28
import Derived.Test.YtijnkhcfondehaaGreatDoorRows
set_option maxHeartbeats 8000000
set_option linter.unusedVariables false
set_option linter.unusedSimpArgs false
set_option maxRecDepth 100000
open _root_.List renaming map_map→JN,map_congr_left→jX
open _root_.Nat renaming lt_or_ge→jv
open Go.Proofs.Tryz renaming prog→jd
namespace Go.Proofs.YtijnkhcfondehaaGreatDoor
open Go.AE
theorem h00:tyI jd 0=none:=by kernel_rfl
theorem mixed:jd.follows .mixedOrders=true:=by kernel_rfl
theorem un3:jd.underlying 3=some (.int .i64):=by kernel_rfl
theorem un5:jd.underlying 5=some (.int .u8):=by kernel_rfl
theorem un9:jd.underlying 9=some .string:=by kernel_rfl
theorem un21:jd.underlying 21=some (.int .i32):=by kernel_rfl
theorem iqh:jd.underlying 151=some (.int .u64):=by kernel_rfl
theorem iqn:jd.underlying 172=some (.int .u32):=by kernel_rfl
theorem iju:jd.underlying 206=some (.int .i16):=by kernel_rfl
theorem ty3:tyI jd 3=some ⟨[.int .i64],false,[],0,8⟩:=by kernel_rfl
theorem ty4:tyI jd 4=some ⟨[.bool],false,[],0,1⟩:=by kernel_rfl
theorem ty5:tyI jd 5=some ⟨[.int .u8],false,[],0,1⟩:=by kernel_rfl
theorem ty9:tyI jd 9=some ⟨[.str],false,[],0,16⟩:=by kernel_rfl
theorem str9:dzr jd 9=true:=by kernel_rfl
theorem ty21:tyI jd 21=some ⟨[.int .i32],false,[],0,4⟩:=by kernel_rfl
theorem ty23:tyI jd 23=some ⟨[.slice 41],false,[],41,24⟩:=by kernel_rfl
theorem sl23:slE jd 23=some (41,⟨[.str,.int .i64,.int .i64,.bool,.bool,.int .i64,.int .i64,.int .i64,.int .i64,.slice 80,.int .i64],true,[(0,9),(1,38),(9,39),(10,3)],0,104⟩):=by kernel_rfl
theorem ty25:tyI jd 25=some ⟨[.str,.int .i64,.int .i64,.int .i64,.slice 41],true,[(0,9),(1,3),(2,3),(3,3),(4,23)],0,64⟩:=by kernel_rfl
theorem ty26:tyI jd 26=some ⟨[.int .i64],false,[],0,8⟩:=by kernel_rfl
theorem ty29:tyI jd 29=some ⟨[.str,.int .i64,.int .i64,.int .i64,.slice 41],true,[(0,9),(1,3),(2,3),(3,3),(4,23)],0,64⟩:=by kernel_rfl
theorem ty38:tyI jd 38=some ⟨[.int .i64,.int .i64,.bool,.bool,.int .i64,.int .i64,.int .i64,.int .i64],true,[(0,3),(1,3),(2,4),(3,4),(4,3),(5,3),(6,3),(7,3)],0,56⟩:=by kernel_rfl
theorem eq38:eqT jd 38=true:=by kernel_rfl
theorem ty39:tyI jd 39=some ⟨[.slice 80],false,[],80,24⟩:=by kernel_rfl
theorem sl39:slE jd 39=some (80,⟨[.int .i64,.int .i64],true,[(0,3),(1,3)],0,16⟩):=by kernel_rfl
theorem ty41:tyI jd 41=some ⟨[.str,.int .i64,.int .i64,.bool,.bool,.int .i64,.int .i64,.int .i64,.int .i64,.slice 80,.int .i64],true,[(0,9),(1,38),(9,39),(10,3)],0,104⟩:=by kernel_rfl
theorem ty51:tyI jd 51=some ⟨[.slice 84],false,[],84,24⟩:=by kernel_rfl
theorem sl51:slE jd 51=some (84,⟨[.slice 87],false,[],87,24⟩):=by kernel_rfl
theorem ty62:tyI jd 62=some ⟨[.int .u8,.str,.str,.int .i64,.int .i64,.bool,.bool,.int .i64,.int .i64,.int .i64,.int .i64,.int .i64],true,[(0,5),(1,9),(2,9),(3,38),(11,3)],0,104⟩:=by kernel_rfl
theorem eq62:eqT jd 62=true:=by kernel_rfl
theorem ty67:tyI jd 67=some ⟨[.int .u8,.int .u8,.int .u8],true,[(0,5),(1,5),(2,5)],0,3⟩:=by kernel_rfl
theorem eq67:eqT jd 67=true:=by kernel_rfl
theorem ty68:tyI jd 68=some ⟨[.slice 62],false,[],62,24⟩:=by kernel_rfl
theorem sl68:slE jd 68=some (62,⟨[.int .u8,.str,.str,.int .i64,.int .i64,.bool,.bool,.int .i64,.int .i64,.int .i64,.int .i64,.int .i64],true,[(0,5),(1,9),(2,9),(3,38),(11,3)],0,104⟩):=by kernel_rfl
theorem ty80:tyI jd 80=some ⟨[.int .i64,.int .i64],true,[(0,3),(1,3)],0,16⟩:=by kernel_rfl
theorem eq80:eqT jd 80=true:=by kernel_rfl
theorem ty81:tyI jd 81=some ⟨[.slice 3],false,[],3,24⟩:=by kernel_rfl
theorem sl81:slE jd 81=some (3,⟨[.int .i64],false,[],0,8⟩):=by kernel_rfl
theorem ty82:tyI jd 82=some ⟨[.slice 9],false,[],9,24⟩:=by kernel_rfl
theorem sl82:slE jd 82=some (9,⟨[.str],false,[],0,16⟩):=by kernel_rfl
theorem ty84:tyI jd 84=some ⟨[.slice 87],false,[],87,24⟩:=by kernel_rfl
theorem sl84:slE jd 84=some (87,⟨[.int .i64,.slice 5,.slice 5,.bool],true,[(0,3),(1,85),(2,85),(3,4)],0,64⟩):=by kernel_rfl
theorem ty85:tyI jd 85=some ⟨[.slice 5],false,[],5,24⟩:=by kernel_rfl
theorem sl85:slE jd 85=some (5,⟨[.int .u8],false,[],0,1⟩):=by kernel_rfl
theorem ty87:tyI jd 87=some ⟨[.int .i64,.slice 5,.slice 5,.bool],true,[(0,3),(1,85),(2,85),(3,4)],0,64⟩:=by kernel_rfl
theorem iqa:tyI jd 151=some ⟨[.int .u64],false,[],0,8⟩:=by kernel_rfl
theorem iqg:arrI jd 159=some (512,4,⟨[.bool],false,[],0,1⟩):=by kernel_rfl
theorem iq7:tyI jd 159=none:=by kernel_rfl
theorem iqb:slE jd 159=none:=by kernel_rfl
theorem ijt:tyI jd 172=some ⟨[.int .u32],false,[],0,4⟩:=by kernel_rfl
theorem iq1:tyI jd 206=some ⟨[.int .i16],false,[],0,2⟩:=by kernel_rfl
abbrev tys:=(aI (aI (aI (aI (aI @un3 (aI @un5 @un9)) (aI @un21 (aI @iqh @iqn))) (aI (aI @iju (aI @ty3 @ty4)) (aI @ty5 (aI @ty9 @str9)))) (aI (aI (aI @ty21 (aI @ty23 @sl23)) (aI @ty25 (aI @ty26 @ty29))) (aI (aI @ty38 (aI @eq38 @ty39)) (aI @sl39 (aI @ty41 @ty51))))) (aI (aI (aI (aI @sl51 (aI @ty62 @eq62)) (aI @ty67 (aI @eq67 @ty68))) (aI (aI @sl68 (aI @ty80 @eq80)) (aI @ty81 (aI @sl81 @ty82)))) (aI (aI (aI @sl82 (aI @ty84 @sl84)) (aI @ty85 (aI @sl85 @ty87))) (aI (aI @iqa (aI @iqg @iq7)) (aI @iqb (aI @ijt @iq1))))))
structure TDcb where
 Org:Int
 Format:Int
 Blocked:Bool
 Asa:Bool
 Lrecl:Int
 Blksize:Int
 KeyLen:Int
 KeyPos:Int
 deriving DecidableEq,Inhabited
structure aj0 where
 At:Int
 Len:Int
 deriving DecidableEq,Inhabited
structure aj5 where
 Name:List UInt8
 Dcb:TDcb
 Extents:List aj0
 Used:Int
 deriving DecidableEq,Inhabited
structure aj6 where
 Serial:List UInt8
 Cyls:Int
 Heads:Int
 Size:Int
 Sets:List aj5
 deriving DecidableEq,Inhabited
structure TRec where
 R:Int
 Key:List Int
 Data:List Int
 Bad:Bool
 deriving DecidableEq,Inhabited
structure bka where
 Cyls:Int
 Heads:Int
 Size:Int
 deriving DecidableEq,Inhabited
structure TAct where
 Kind:Int
 Name:List UInt8
 To:List UInt8
 Dcb:TDcb
 N:Int
 deriving DecidableEq,Inhabited
def aj2 (x:aj0):List C:=[.int x.At,.int x.Len]
def aqm (c:List C):aj0:=(⟨(cg c 0).toInt,(cg c 1).toInt⟩:aj0)
theorem eqb (l:List aj0):List.map aqm (List.map aj2 l)=l:=by
 rw [JN];refine (jX fun x _=>?_).trans (List.map_id l);show aqm (aj2 x)=x;simp only [aqm,aj2,cg_zero,cg_succ,C.toBool_bool,C.toInt_int,C.toStr_str,C.toSl_slice]
theorem ey0 (l:List aj0) (i:Nat):(cg (eg (List.map aj2 l) i) 0).toInt=(gt l i).At:=by
 rcases jv i l.length with h | h
 ·rw [aqh _ _ _ h];rfl
 ·rw [awq _ _ _ h,awu _ _ h];rfl
theorem eyd (l:List aj0) (i:Nat):(cg (eg (List.map aj2 l) i) 1).toInt=(gt l i).Len:=by
 rcases jv i l.length with h | h
 ·rw [aqh _ _ _ h];rfl
 ·rw [awq _ _ _ h,awu _ _ h];rfl
theorem fyo (l:List aj0) (v0:Int) (v1:Int):List.map aj2 l ++ [[.int v0,.int v1]]=List.map aj2 (l ++ [(⟨v0,v1⟩:aj0)]):=by simp [aj2]
theorem dkf (l:List aj0) (i:Nat) (v0:Int) (v1:Int):(List.map aj2 l).set i (aq2 (eg (List.map aj2 l) i) 0 [.int v0,.int v1])=List.map aj2 (l.set i (⟨v0,v1⟩:aj0)):=by
 refine ayc _ _ _ _ fun h=>?_;rw [aqh _ _ _ h];rfl
theorem dzd (l:List aj0) (i:Nat) (v1:Int):(List.map aj2 l).set i (aq2 (eg (List.map aj2 l) i) 1 [.int v1])=List.map aj2 (l.set i (⟨(gt l i).At,v1⟩:aj0)):=by
 refine ayc _ _ _ _ fun h=>?_;rw [aqh _ _ _ h];rfl
theorem fy6 (n:Nat):awi n [.int 0,.int 0]=List.map aj2 (awi n (⟨0,0⟩:aj0)):=cys rfl
def aj4 (x:aj5):List C:=[.str x.Name,.int x.Dcb.Org,.int x.Dcb.Format,.bool x.Dcb.Blocked,.bool x.Dcb.Asa,.int x.Dcb.Lrecl,.int x.Dcb.Blksize,.int x.Dcb.KeyLen,.int x.Dcb.KeyPos,.slice (List.map aj2 x.Extents),.int x.Used]
def akb (c:List C):aj5:=(⟨(cg c 0).toStr,(⟨(cg c 1).toInt,(cg c 2).toInt,(cg c 3).toBool,(cg c 4).toBool,(cg c 5).toInt,(cg c 6).toInt,(cg c 7).toInt,(cg c 8).toInt⟩:TDcb),((cg c 9).toSl.map aqm),(cg c 10).toInt⟩:aj5)
theorem gyi (l:List aj5):List.map akb (List.map aj4 l)=l:=by
 rw [JN];refine (jX fun x _=>?_).trans (List.map_id l);show akb (aj4 x)=x;simp only [akb,aj4,cg_zero,cg_succ,C.toBool_bool,C.toInt_int,C.toStr_str,C.toSl_slice,eqb]
theorem fk0 (l:List aj5) (i:Nat):(cg (eg (List.map aj4 l) i) 0).toStr=(gt l i).Name:=by
 rcases jv i l.length with h | h
 ·rw [aqh _ _ _ h];rfl
 ·rw [awq _ _ _ h,awu _ _ h];rfl
theorem fkx (l:List aj5) (i:Nat):(cg (eg (List.map aj4 l) i) 1).toInt=(gt l i).Dcb.Org:=by
 rcases jv i l.length with h | h
 ·rw [aqh _ _ _ h];rfl
 ·rw [awq _ _ _ h,awu _ _ h];rfl
theorem fkz (l:List aj5) (i:Nat):(cg (eg (List.map aj4 l) i) 2).toInt=(gt l i).Dcb.Format:=by
 rcases jv i l.length with h | h
 ·rw [aqh _ _ _ h];rfl
 ·rw [awq _ _ _ h,awu _ _ h];rfl
theorem fks (l:List aj5) (i:Nat):(cg (eg (List.map aj4 l) i) 3).toBool=(gt l i).Dcb.Blocked:=by
 rcases jv i l.length with h | h
 ·rw [aqh _ _ _ h];rfl
 ·rw [awq _ _ _ h,awu _ _ h];rfl
theorem fzn (l:List aj5) (i:Nat):(cg (eg (List.map aj4 l) i) 4).toBool=(gt l i).Dcb.Asa:=by
 rcases jv i l.length with h | h
 ·rw [aqh _ _ _ h];rfl
 ·rw [awq _ _ _ h,awu _ _ h];rfl
theorem fzv (l:List aj5) (i:Nat):(cg (eg (List.map aj4 l) i) 5).toInt=(gt l i).Dcb.Lrecl:=by
 rcases jv i l.length with h | h
 ·rw [aqh _ _ _ h];rfl
 ·rw [awq _ _ _ h,awu _ _ h];rfl
theorem fkt (l:List aj5) (i:Nat):(cg (eg (List.map aj4 l) i) 6).toInt=(gt l i).Dcb.Blksize:=by
 rcases jv i l.length with h | h
 ·rw [aqh _ _ _ h];rfl
 ·rw [awq _ _ _ h,awu _ _ h];rfl
theorem fzx (l:List aj5) (i:Nat):(cg (eg (List.map aj4 l) i) 7).toInt=(gt l i).Dcb.KeyLen:=by
 rcases jv i l.length with h | h
 ·rw [aqh _ _ _ h];rfl
 ·rw [awq _ _ _ h,awu _ _ h];rfl
theorem fzq (l:List aj5) (i:Nat):(cg (eg (List.map aj4 l) i) 8).toInt=(gt l i).Dcb.KeyPos:=by
 rcases jv i l.length with h | h
 ·rw [aqh _ _ _ h];rfl
 ·rw [awq _ _ _ h,awu _ _ h];rfl
theorem fkj (l:List aj5) (i:Nat):(cg (eg (List.map aj4 l) i) 9).toSl=List.map aj2 ((gt l i).Extents):=by
 rcases jv i l.length with h | h
 ·rw [aqh _ _ _ h];rfl
 ·rw [awq _ _ _ h,awu _ _ h];rfl
theorem fj0 (l:List aj5) (i:Nat):(cg (eg (List.map aj4 l) i) 10).toInt=(gt l i).Used:=by
 rcases jv i l.length with h | h
 ·rw [aqh _ _ _ h];rfl
 ·rw [awq _ _ _ h,awu _ _ h];rfl
theorem gkr (l:List aj5) (v0:List UInt8) (v1:Int) (v2:Int) (v3:Bool) (v4:Bool) (v5:Int) (v6:Int) (v7:Int) (v8:Int) (v9:List aj0) (v10:Int):List.map aj4 l ++ [[.str v0,.int v1,.int v2,.bool v3,.bool v4,.int v5,.int v6,.int v7,.int v8,.slice (List.map aj2 v9),.int v10]]=List.map aj4 (l ++ [(⟨v0,(⟨v1,v2,v3,v4,v5,v6,v7,v8⟩:TDcb),v9,v10⟩:aj5)]):=by simp [aj4]
theorem fki (l:List aj5) (v0:List UInt8) (v1:Int) (v2:Int) (v3:Bool) (v4:Bool) (v5:Int) (v6:Int) (v7:Int) (v8:Int) (v10:Int):List.map aj4 l ++ [[.str v0,.int v1,.int v2,.bool v3,.bool v4,.int v5,.int v6,.int v7,.int v8,.slice [],.int v10]]=List.map aj4 (l ++ [(⟨v0,(⟨v1,v2,v3,v4,v5,v6,v7,v8⟩:TDcb),[],v10⟩:aj5)]):=by simp [aj4]
theorem ewn (l:List aj5) (i:Nat) (v0:List UInt8):(List.map aj4 l).set i (aq2 (eg (List.map aj4 l) i) 0 [.str v0])=List.map aj4 (l.set i (⟨v0,((gt l i).Dcb),(gt l i).Extents,(gt l i).Used⟩:aj5)):=by
 refine ayc _ _ _ _ fun h=>?_;rw [aqh _ _ _ h];rfl
theorem dyk (l:List aj5) (i:Nat) (v0:List UInt8) (v1:Int) (v2:Int) (v3:Bool) (v4:Bool) (v5:Int) (v6:Int) (v7:Int) (v8:Int) (v9:List aj0) (v10:Int):(List.map aj4 l).set i (aq2 (eg (List.map aj4 l) i) 0 [.str v0,.int v1,.int v2,.bool v3,.bool v4,.int v5,.int v6,.int v7,.int v8,.slice (List.map aj2 v9),.int v10])=List.map aj4 (l.set i (⟨v0,(⟨v1,v2,v3,v4,v5,v6,v7,v8⟩:TDcb),v9,v10⟩:aj5)):=by
 refine ayc _ _ _ _ fun h=>?_;rw [aqh _ _ _ h];rfl
theorem ew9 (l:List aj5) (i:Nat) (v1:Int) (v2:Int) (v3:Bool) (v4:Bool) (v5:Int) (v6:Int) (v7:Int) (v8:Int):(List.map aj4 l).set i (aq2 (eg (List.map aj4 l) i) 1 [.int v1,.int v2,.bool v3,.bool v4,.int v5,.int v6,.int v7,.int v8])=List.map aj4 (l.set i (⟨(gt l i).Name,(⟨v1,v2,v3,v4,v5,v6,v7,v8⟩:TDcb),(gt l i).Extents,(gt l i).Used⟩:aj5)):=by
 refine ayc _ _ _ _ fun h=>?_;rw [aqh _ _ _ h];rfl
theorem ewh (l:List aj5) (i:Nat) (v9:List aj0):(List.map aj4 l).set i (aq2 (eg (List.map aj4 l) i) 9 [.slice (List.map aj2 v9)])=List.map aj4 (l.set i (⟨(gt l i).Name,((gt l i).Dcb),v9,(gt l i).Used⟩:aj5)):=by
 refine ayc _ _ _ _ fun h=>?_;rw [aqh _ _ _ h];rfl
theorem dyt (l:List aj5) (i:Nat) (v10:Int):(List.map aj4 l).set i (aq2 (eg (List.map aj4 l) i) 10 [.int v10])=List.map aj4 (l.set i (⟨(gt l i).Name,((gt l i).Dcb),(gt l i).Extents,v10⟩:aj5)):=by
 refine ayc _ _ _ _ fun h=>?_;rw [aqh _ _ _ h];rfl
theorem gy8 (n:Nat):awi n [.str [],.int 0,.int 0,.bool false,.bool false,.int 0,.int 0,.int 0,.int 0,.slice [],.int 0]=List.map aj4 (awi n (⟨[],(⟨0,0,false,false,0,0,0,0⟩:TDcb),[],0⟩:aj5)):=cys rfl
def dj7 (x:List UInt8):List C:=[.str x]
def gkw (c:List C):List UInt8:=(cg c 0).toStr
theorem hkw (l:List (List UInt8)):List.map gkw (List.map dj7 l)=l:=by
 rw [JN];refine (jX fun x _=>?_).trans (List.map_id l);show gkw (dj7 x)=x;simp only [gkw,dj7,cg_zero,cg_succ,C.toBool_bool,C.toInt_int,C.toStr_str,C.toSl_slice]
theorem hq6 (l:List (List UInt8)) (i:Nat):(cg (eg (List.map dj7 l) i) 0).toStr=gt l i:=by
 rcases jv i l.length with h | h
 ·rw [aqh _ _ _ h];rfl
 ·rw [awq _ _ _ h,awu _ _ h];rfl
theorem hyi (l:List (List UInt8)) (v0:List UInt8):List.map dj7 l ++ [[.str v0]]=List.map dj7 (l ++ [v0]):=by simp [dj7]
def aq7 (x:Int):List C:=[.int x]
def bzg (c:List C):Int:=(cg c 0).toInt
theorem fqw (l:List Int):List.map bzg (List.map aq7 l)=l:=by
 rw [JN];refine (jX fun x _=>?_).trans (List.map_id l);show bzg (aq7 x)=x;simp only [bzg,aq7,cg_zero,cg_succ,C.toBool_bool,C.toInt_int,C.toStr_str,C.toSl_slice]
theorem gyk (l:List Int) (i:Nat):(cg (eg (List.map aq7 l) i) 0).toInt=gt l i:=by
 rcases jv i l.length with h | h
 ·rw [aqh _ _ _ h];rfl
 ·rw [awq _ _ _ h,awu _ _ h];rfl
theorem ij6 (l:List Int) (v0:Int):List.map aq7 l ++ [[.int v0]]=List.map aq7 (l ++ [v0]):=by simp [aq7]
theorem fj5 (l:List Int) (i:Nat) (v0:Int):(List.map aq7 l).set i (aq2 (eg (List.map aq7 l) i) 0 [.int v0])=List.map aq7 (l.set i v0):=by
 refine ayc _ _ _ _ fun h=>?_;rw [aqh _ _ _ h];rfl
theorem hkx (n:Nat):awi n [.int 0]=List.map aq7 (awi n 0):=cys rfl
def aq1 (x:TRec):List C:=[.int x.R,.slice (List.map aq7 x.Key),.slice (List.map aq7 x.Data),.bool x.Bad]
def byz (c:List C):TRec:=(⟨(cg c 0).toInt,((cg c 1).toSl.map bzg),((cg c 2).toSl.map bzg),(cg c 3).toBool⟩:TRec)
theorem ewi (l:List TRec):List.map byz (List.map aq1 l)=l:=by
 rw [JN];refine (jX fun x _=>?_).trans (List.map_id l);show byz (aq1 x)=x;simp only [byz,aq1,cg_zero,cg_succ,C.toBool_bool,C.toInt_int,C.toStr_str,C.toSl_slice,fqw,fqw]
theorem gw3 (l:List TRec) (i:Nat):(cg (eg (List.map aq1 l) i) 0).toInt=(gt l i).R:=by
 rcases jv i l.length with h | h
 ·rw [aqh _ _ _ h];rfl
 ·rw [awq _ _ _ h,awu _ _ h];rfl
theorem gj1 (l:List TRec) (i:Nat):(cg (eg (List.map aq1 l) i) 1).toSl=List.map aq7 ((gt l i).Key):=by
 rcases jv i l.length with h | h
 ·rw [aqh _ _ _ h];rfl
 ·rw [awq _ _ _ h,awu _ _ h];rfl
theorem gzw (l:List TRec) (i:Nat):(cg (eg (List.map aq1 l) i) 2).toSl=List.map aq7 ((gt l i).Data):=by
 rcases jv i l.length with h | h
 ·rw [aqh _ _ _ h];rfl
 ·rw [awq _ _ _ h,awu _ _ h];rfl
theorem gw5 (l:List TRec) (i:Nat):(cg (eg (List.map aq1 l) i) 3).toBool=(gt l i).Bad:=by
 rcases jv i l.length with h | h
 ·rw [aqh _ _ _ h];rfl
 ·rw [awq _ _ _ h,awu _ _ h];rfl
theorem hzh (l:List TRec) (v0:Int) (v1:List Int) (v2:List Int) (v3:Bool):List.map aq1 l ++ [[.int v0,.slice (List.map aq7 v1),.slice (List.map aq7 v2),.bool v3]]=List.map aq1 (l ++ [(⟨v0,v1,v2,v3⟩:TRec)]):=by simp [aq1]
theorem gzr (l:List TRec) (v0:Int) (v2:List Int) (v3:Bool):List.map aq1 l ++ [[.int v0,.slice [],.slice (List.map aq7 v2),.bool v3]]=List.map aq1 (l ++ [(⟨v0,[],v2,v3⟩:TRec)]):=by simp [aq1]
theorem gqe (l:List TRec) (v0:Int) (v1:List Int) (v3:Bool):List.map aq1 l ++ [[.int v0,.slice (List.map aq7 v1),.slice [],.bool v3]]=List.map aq1 (l ++ [(⟨v0,v1,[],v3⟩:TRec)]):=by simp [aq1]
theorem gz6 (l:List TRec) (v0:Int) (v3:Bool):List.map aq1 l ++ [[.int v0,.slice [],.slice [],.bool v3]]=List.map aq1 (l ++ [(⟨v0,[],[],v3⟩:TRec)]):=by simp [aq1]
def aqa (x:List TRec):List C:=[.slice (List.map aq1 x)]
def dy8 (c:List C):List TRec:=((cg c 0).toSl.map byz)
theorem gk8 (l:List (List TRec)):List.map dy8 (List.map aqa l)=l:=by
 rw [JN];refine (jX fun x _=>?_).trans (List.map_id l);show dy8 (aqa x)=x;simp only [dy8,aqa,cg_zero,cg_succ,C.toBool_bool,C.toInt_int,C.toStr_str,C.toSl_slice,ewi]
theorem fk1 (l:List (List TRec)) (i:Nat):(cg (eg (List.map aqa l) i) 0).toSl=List.map aq1 (gt l i):=by
 rcases jv i l.length with h | h
 ·rw [aqh _ _ _ h];rfl
 ·rw [awq _ _ _ h,awu _ _ h];rfl
theorem hq4 (l:List (List TRec)) (v0:List TRec):List.map aqa l ++ [[.slice (List.map aq1 v0)]]=List.map aqa (l ++ [v0]):=by simp [aqa]
theorem fzy (l:List (List TRec))  : List.map aqa l ++ [[.slice []]]=List.map aqa (l ++ [[]]):=by simp [aqa]
def cjr (x:Bool):List C:=[.bool x]
def fww (c:List C):Bool:=(cg c 0).toBool
theorem hzp (l:List Bool):List.map fww (List.map cjr l)=l:=by
 rw [JN];refine (jX fun x _=>?_).trans (List.map_id l);show fww (cjr x)=x;simp only [fww,cjr,cg_zero,cg_succ,C.toBool_bool,C.toInt_int,C.toStr_str,C.toSl_slice]
theorem gqr (l:List Bool) (i:Nat):(cg (eg (List.map cjr l) i) 0).toBool=gt l i:=by
 rcases jv i l.length with h | h
 ·rw [aqh _ _ _ h];rfl
 ·rw [awq _ _ _ h,awu _ _ h];rfl
theorem hzg (l:List Bool) (v0:Bool):List.map cjr l ++ [[.bool v0]]=List.map cjr (l ++ [v0]):=by simp [cjr]
theorem ezu (l:List Bool) (i:Nat) (v0:Bool):(List.map cjr l).set i (aq2 (eg (List.map cjr l) i) 0 [.bool v0])=List.map cjr (l.set i v0):=by
 refine ayc _ _ _ _ fun h=>?_;rw [aqh _ _ _ h];rfl
theorem hk9 (n:Nat):awi n [.bool false]=List.map cjr (awi n false):=cys rfl
def aw4 (x:TAct):List C:=[.int x.Kind,.str x.Name,.str x.To,.int x.Dcb.Org,.int x.Dcb.Format,.bool x.Dcb.Blocked,.bool x.Dcb.Asa,.int x.Dcb.Lrecl,.int x.Dcb.Blksize,.int x.Dcb.KeyLen,.int x.Dcb.KeyPos,.int x.N]
def cqx (c:List C):TAct:=(⟨(cg c 0).toInt,(cg c 1).toStr,(cg c 2).toStr,(⟨(cg c 3).toInt,(cg c 4).toInt,(cg c 5).toBool,(cg c 6).toBool,(cg c 7).toInt,(cg c 8).toInt,(cg c 9).toInt,(cg c 10).toInt⟩:TDcb),(cg c 11).toInt⟩:TAct)
theorem hzi (l:List TAct):List.map cqx (List.map aw4 l)=l:=by
 rw [JN];refine (jX fun x _=>?_).trans (List.map_id l);show cqx (aw4 x)=x;simp only [cqx,aw4,cg_zero,cg_succ,C.toBool_bool,C.toInt_int,C.toStr_str,C.toSl_slice]
theorem fys (l:List TAct) (i:Nat):(cg (eg (List.map aw4 l) i) 0).toInt=(gt l i).Kind:=by
 rcases jv i l.length with h | h
 ·rw [aqh _ _ _ h];rfl
 ·rw [awq _ _ _ h,awu _ _ h];rfl
theorem gjh (l:List TAct) (i:Nat):(cg (eg (List.map aw4 l) i) 1).toStr=(gt l i).Name:=by
 rcases jv i l.length with h | h
 ·rw [aqh _ _ _ h];rfl
 ·rw [awq _ _ _ h,awu _ _ h];rfl
theorem gz7 (l:List TAct) (i:Nat):(cg (eg (List.map aw4 l) i) 2).toStr=(gt l i).To:=by
 rcases jv i l.length with h | h
 ·rw [aqh _ _ _ h];rfl
 ·rw [awq _ _ _ h,awu _ _ h];rfl
theorem gz9 (l:List TAct) (i:Nat):(cg (eg (List.map aw4 l) i) 3).toInt=(gt l i).Dcb.Org:=by
 rcases jv i l.length with h | h
 ·rw [aqh _ _ _ h];rfl
 ·rw [awq _ _ _ h,awu _ _ h];rfl
theorem gqu (l:List TAct) (i:Nat):(cg (eg (List.map aw4 l) i) 4).toInt=(gt l i).Dcb.Format:=by
 rcases jv i l.length with h | h
 ·rw [aqh _ _ _ h];rfl
 ·rw [awq _ _ _ h,awu _ _ h];rfl
theorem gj4 (l:List TAct) (i:Nat):(cg (eg (List.map aw4 l) i) 5).toBool=(gt l i).Dcb.Blocked:=by
 rcases jv i l.length with h | h
 ·rw [aqh _ _ _ h];rfl
 ·rw [awq _ _ _ h,awu _ _ h];rfl
theorem gqn (l:List TAct) (i:Nat):(cg (eg (List.map aw4 l) i) 6).toBool=(gt l i).Dcb.Asa:=by
 rcases jv i l.length with h | h
 ·rw [aqh _ _ _ h];rfl
 ·rw [awq _ _ _ h,awu _ _ h];rfl
theorem gwb (l:List TAct) (i:Nat):(cg (eg (List.map aw4 l) i) 7).toInt=(gt l i).Dcb.Lrecl:=by
 rcases jv i l.length with h | h
 ·rw [aqh _ _ _ h];rfl
 ·rw [awq _ _ _ h,awu _ _ h];rfl
theorem gjt (l:List TAct) (i:Nat):(cg (eg (List.map aw4 l) i) 8).toInt=(gt l i).Dcb.Blksize:=by
 rcases jv i l.length with h | h
 ·rw [aqh _ _ _ h];rfl
 ·rw [awq _ _ _ h,awu _ _ h];rfl
theorem fyz (l:List TAct) (i:Nat):(cg (eg (List.map aw4 l) i) 9).toInt=(gt l i).Dcb.KeyLen:=by
 rcases jv i l.length with h | h
 ·rw [aqh _ _ _ h];rfl
 ·rw [awq _ _ _ h,awu _ _ h];rfl
theorem fkp (l:List TAct) (i:Nat):(cg (eg (List.map aw4 l) i) 10).toInt=(gt l i).Dcb.KeyPos:=by
 rcases jv i l.length with h | h
 ·rw [aqh _ _ _ h];rfl
 ·rw [awq _ _ _ h,awu _ _ h];rfl
theorem fkb (l:List TAct) (i:Nat):(cg (eg (List.map aw4 l) i) 11).toInt=(gt l i).N:=by
 rcases jv i l.length with h | h
 ·rw [aqh _ _ _ h];rfl
 ·rw [awq _ _ _ h,awu _ _ h];rfl
theorem hzx (l:List TAct) (v0:Int) (v1:List UInt8) (v2:List UInt8) (v3:Int) (v4:Int) (v5:Bool) (v6:Bool) (v7:Int) (v8:Int) (v9:Int) (v10:Int) (v11:Int):List.map aw4 l ++ [[.int v0,.str v1,.str v2,.int v3,.int v4,.bool v5,.bool v6,.int v7,.int v8,.int v9,.int v10,.int v11]]=List.map aw4 (l ++ [(⟨v0,v1,v2,(⟨v3,v4,v5,v6,v7,v8,v9,v10⟩:TDcb),v11⟩:TAct)]):=by simp [aw4]
theorem hjx (x:TDcb):(⟨x.Org,x.Format,x.Blocked,x.Asa,x.Lrecl,x.Blksize,x.KeyLen,x.KeyPos⟩:TDcb)=x:=rfl
theorem fqd (x:aj0):(⟨x.At,x.Len⟩:aj0)=x:=rfl
theorem gqf (x:aj5):(⟨x.Name,x.Dcb,x.Extents,x.Used⟩:aj5)=x:=rfl
theorem gzo (x:aj6):(⟨x.Serial,x.Cyls,x.Heads,x.Size,x.Sets⟩:aj6)=x:=rfl
theorem gyq (x:TRec):(⟨x.R,x.Key,x.Data,x.Bad⟩:TRec)=x:=rfl
theorem fko (x:bka):(⟨x.Cyls,x.Heads,x.Size⟩:bka)=x:=rfl
theorem gkz (x:TAct):(⟨x.Kind,x.Name,x.To,x.Dcb,x.N⟩:TAct)=x:=rfl
theorem hyc (s:List UInt8):row8 s=List.map aq7 (ckw s):=gya aq7 (fun _=>rfl) s
theorem ijg (l:List Int):str8 (List.map aq7 l)=dqz l:=gki aq7 (fun _=>rfl) l
abbrev tl:=(aI (aI (aI (aI (aI (aI @eqb (aI @aj2.eq_1 @aqm.eq_1)) (aI @ey0 (aI @eyd @fyo))) (aI (aI @dkf (aI @dzd @fy6)) (aI @gyi (aI @aj4.eq_1 @akb.eq_1)))) (aI (aI (aI @fk0 (aI @fkx @fkz)) (aI @fks (aI @fzn @fzv))) (aI (aI @fkt (aI @fzx @fzq)) (aI @fkj (aI @fj0 @gkr))))) (aI (aI (aI (aI @fki (aI @ewn @dyk)) (aI @ew9 (aI @ewh @dyt))) (aI (aI @gy8 (aI @hkw @dj7.eq_1)) (aI @gkw.eq_1 (aI @hq6 @hyi)))) (aI (aI (aI @fqw (aI @aq7.eq_1 @bzg.eq_1)) (aI @gyk (aI @ij6 @fj5))) (aI (aI @hkx (aI @ewi @aq1.eq_1)) (aI (aI @byz.eq_1 @gw3) (aI @gj1 @gzw)))))) (aI (aI (aI (aI (aI @gw5 (aI @hzh @gzr)) (aI @gqe (aI @gz6 @gk8))) (aI (aI @aqa.eq_1 (aI @dy8.eq_1 @fk1)) (aI @hq4 (aI @fzy @hzp)))) (aI (aI (aI @cjr.eq_1 (aI @fww.eq_1 @gqr)) (aI @hzg (aI @ezu @hk9))) (aI (aI @hzi (aI @aw4.eq_1 @cqx.eq_1)) (aI @fys (aI @gjh @gz7))))) (aI (aI (aI (aI @gz9 (aI @gqu @gj4)) (aI @gqn (aI @gwb @gjt))) (aI (aI @fyz (aI @fkp @fkb)) (aI @hzx (aI @hjx @fqd)))) (aI (aI (aI @gqf (aI @gzo @gyq)) (aI @fko (aI @gkz @hyc))) (aI (aI @ijg (aI @ezy @fke)) (aI (aI @hz7 @hwp) (aI @gk9 @gjq)))))))
theorem sI {α:Type _} {a b:α} (h:some a=some b):a=b:=Option.some.inj h
theorem cF {A R:Type} [Inhabited R] {f:FuncId} {ps:List (Bool×List Kd)} {refs:Bool} {dec:List (List C)→A} {enc:A→List (List C)} {F:A→Option R} {res:R→List Go.AE.A} {rows:R→List Blk} {fn:Func} (c:Code) (hf:jd.funcs[f]? = some fn) (hb:fn.body=some c) (henter:∀ args w,(callFunc f args).run jd w = .ok (.enter f args) w) (h:∀ (a:A) (r:R),F a=some r→Sm jd fn.ntmps 0 c ⟨cyo ps (enc a) 0,fun _=>.dead⟩ (Ret jd fn.results.toList ⟨True,res r,rows r⟩)) (hN:ps.length≤fn.ntmps:=by decide) (hs:refs=false→∀ r,bq4 (res r)=true∧∀ b∈rows r,∃ t es E,b = .row t es∧tyI jd t=some E∧E.kinds.all awo=true:=by intro _ r;exact ⟨rfl,by simp⟩):aj1 jd (mkFn f ps refs dec enc F res rows):=ajb c h00 hf hb henter hN hs h
abbrev cD (d:aj5):List Go.AE.A:=[.c .str (.str d.Name),.c (.int .i64) (.int d.Dcb.Org),.c (.int .i64) (.int d.Dcb.Format),.c .bool (.bool d.Dcb.Blocked),.c .bool (.bool d.Dcb.Asa),.c (.int .i64) (.int d.Dcb.Lrecl),.c (.int .i64) (.int d.Dcb.Blksize),.c (.int .i64) (.int d.Dcb.KeyLen),.c (.int .i64) (.int d.Dcb.KeyPos),.c (.slice 80) (.slice (List.map aj2 d.Extents)),.c (.int .i64) (.int d.Used)]
abbrev cV (d:aj6):List Go.AE.A:=[.c .str (.str d.Serial),.c (.int .i64) (.int d.Cyls),.c (.int .i64) (.int d.Heads),.c (.int .i64) (.int d.Size),.c (.slice 41) (.slice (List.map aj4 d.Sets))]
abbrev kD:List Kd:=[.str,.int .i64,.int .i64,.bool,.bool,.int .i64,.int .i64,.int .i64,.int .i64,.slice 80,.int .i64]
abbrev z:=(aI (aI @cD.eq_1 (aI @cV.eq_1 @kD.eq_1)) (aI (aI ev ew) (aI tys tl)))
end Go.Proofs.YtijnkhcfondehaaGreatDoor
