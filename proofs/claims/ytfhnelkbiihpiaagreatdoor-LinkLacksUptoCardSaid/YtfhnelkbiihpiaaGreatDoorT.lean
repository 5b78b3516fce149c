/- Text. -/
import Derived.Test.YtfhnelkbiihpiaaGreatDoorAE19
import Derived.Test.YtfhnelkbiihpiaaGreatDoorAE41
import Derived.Test.YtfhnelkbiihpiaaGreatDoorAE64
import Derived.Test.YtfhnelkbiihpiaaGreatDoorRows
set_option maxHeartbeats 8000000
set_option linter.unusedVariables false
set_option linter.unusedSimpArgs false
set_option maxRecDepth 100000
open _root_.List renaming map_map→Jl,map_congr_left→jz
open _root_.Nat renaming lt_or_ge→js
open Go.Proofs.Tryz renaming prog→ji
namespace Go.Proofs.YtfhnelkbiihpiaaGreatDoor
open Go.AE
theorem h00:tyI ji 0=none:=by kernel_rfl
theorem mixed:ji.follows .mixedOrders=true:=by kernel_rfl
theorem ty3:tyI ji 3=some ⟨[.int .i64],false,[],0,8⟩:=by kernel_rfl
theorem ty4:tyI ji 4=some ⟨[.bool],false,[],0,1⟩:=by kernel_rfl
theorem ty5:tyI ji 5=some ⟨[.int .u8],false,[],0,1⟩:=by kernel_rfl
theorem ty9:tyI ji 9=some ⟨[.str],false,[],0,16⟩:=by kernel_rfl
theorem str9:cwc ji 9=true:=by kernel_rfl
theorem ty22:tyI ji 22=some ⟨[.slice 49],false,[],49,24⟩:=by kernel_rfl
theorem sl22:slE ji 22=some (49,⟨[.slice 51,.slice 102,.slice 109,.str],true,[(0,45),(1,46),(2,47),(3,9)],0,88⟩):=by kernel_rfl
theorem ty23:tyI ji 23=some ⟨[.slice 9],false,[],9,24⟩:=by kernel_rfl
theorem sl23:slE ji 23=some (9,⟨[.str],false,[],0,16⟩):=by kernel_rfl
theorem ty24:tyI ji 24=some ⟨[.slice 5],false,[],5,24⟩:=by kernel_rfl
theorem sl24:slE ji 24=some (5,⟨[.int .u8],false,[],0,1⟩):=by kernel_rfl
theorem ty45:tyI ji 45=some ⟨[.slice 51],false,[],51,24⟩:=by kernel_rfl
theorem sl45:slE ji 45=some (51,⟨[.str,.int .i64,.int .i64,.int .i64,.int .i64],true,[(0,9),(1,3),(2,3),(3,3),(4,3)],0,48⟩):=by kernel_rfl
theorem ty46:tyI ji 46=some ⟨[.slice 102],false,[],102,24⟩:=by kernel_rfl
theorem sl46:slE ji 46=some (102,⟨[.int .i64,.int .i64,.slice 5],true,[(0,3),(1,3),(2,24)],0,40⟩):=by kernel_rfl
theorem ty47:tyI ji 47=some ⟨[.slice 109],false,[],109,24⟩:=by kernel_rfl
theorem sl47:slE ji 47=some (109,⟨[.int .i64,.int .i64,.int .i64,.int .i64,.bool],true,[(0,3),(1,3),(2,3),(3,3),(4,4)],0,40⟩):=by kernel_rfl
theorem ty49:tyI ji 49=some ⟨[.slice 51,.slice 102,.slice 109,.str],true,[(0,45),(1,46),(2,47),(3,9)],0,88⟩:=by kernel_rfl
theorem ty51:tyI ji 51=some ⟨[.str,.int .i64,.int .i64,.int .i64,.int .i64],true,[(0,9),(1,3),(2,3),(3,3),(4,3)],0,48⟩:=by kernel_rfl
theorem eq51:eqT ji 51=true:=by kernel_rfl
theorem ty63:tyI ji 63=some ⟨[.slice 3],false,[],3,24⟩:=by kernel_rfl
theorem sl63:slE ji 63=some (3,⟨[.int .i64],false,[],0,8⟩):=by kernel_rfl
theorem eyl:tyI ji 102=some ⟨[.int .i64,.int .i64,.slice 5],true,[(0,3),(1,3),(2,24)],0,40⟩:=by kernel_rfl
theorem ey9:tyI ji 109=some ⟨[.int .i64,.int .i64,.int .i64,.int .i64,.bool],true,[(0,3),(1,3),(2,3),(3,3),(4,4)],0,40⟩:=by kernel_rfl
theorem fj6:eqT ji 109=true:=by kernel_rfl
theorem fjh:tyI ji 149=some ⟨[.slice 156],false,[],156,24⟩:=by kernel_rfl
theorem eyx:slE ji 149=some (156,⟨[.int .i64,.int .i64,.str,.int .i64,.int .i64,.int .i64,.int .i64],true,[(0,3),(1,3),(2,9),(3,3),(4,3),(5,3),(6,3)],0,64⟩):=by kernel_rfl
theorem fjd:tyI ji 150=some ⟨[.slice 158],false,[],158,24⟩:=by kernel_rfl
theorem eys:slE ji 150=some (158,⟨[.str,.int .i64,.int .i64],true,[(0,9),(1,3),(2,3)],0,32⟩):=by kernel_rfl
theorem eyz:tyI ji 151=some ⟨[.slice 63],false,[],63,24⟩:=by kernel_rfl
theorem fj9:slE ji 151=some (63,⟨[.slice 3],false,[],3,24⟩):=by kernel_rfl
theorem eyy:tyI ji 153=some ⟨[.slice 49,.slice 156,.slice 158,.slice 3,.slice 3,.slice 9,.slice 3,.slice 63,.str,.bool],true,[(0,22),(1,149),(2,150),(3,63),(4,63),(5,23),(6,63),(7,151),(8,9),(9,4)],0,216⟩:=by kernel_rfl
theorem fjc:tyI ji 156=some ⟨[.int .i64,.int .i64,.str,.int .i64,.int .i64,.int .i64,.int .i64],true,[(0,3),(1,3),(2,9),(3,3),(4,3),(5,3),(6,3)],0,64⟩:=by kernel_rfl
theorem fj7:eqT ji 156=true:=by kernel_rfl
theorem fj2:tyI ji 158=some ⟨[.str,.int .i64,.int .i64],true,[(0,9),(1,3),(2,3)],0,32⟩:=by kernel_rfl
theorem fji:eqT ji 158=true:=by kernel_rfl
abbrev tys:=(aI (aI (aI (aI (aI @ty3 @ty4) (aI @ty5 @ty9)) (aI (aI @str9 @ty22) (aI @sl22 (aI @ty23 @sl23)))) (aI (aI (aI @ty24 @sl24) (aI @ty45 @sl45)) (aI (aI @ty46 @sl46) (aI @ty47 (aI @sl47 @ty49))))) (aI (aI (aI (aI @ty51 @eq51) (aI @ty63 @sl63)) (aI (aI @eyl @ey9) (aI @fj6 (aI @fjh @eyx)))) (aI (aI (aI @fjd @eys) (aI @eyz @fj9)) (aI (aI @eyy @fjc) (aI @fj7 (aI @fj2 @fji))))))
structure TEsd where
 Name:List UInt8
 Kind:Int
 ID:Int
 Addr:Int
 Len:Int
 deriving DecidableEq,Inhabited
structure TTxt where
 ID:Int
 Addr:Int
 Data:List Int
 deriving DecidableEq,Inhabited
structure TRld where
 In:Int
 To:Int
 Addr:Int
 Len:Int
 Neg:Bool
 deriving DecidableEq,Inhabited
structure aj1 where
 Esds:List TEsd
 Txts:List TTxt
 Rlds:List TRld
 Entry:List UInt8
 deriving DecidableEq,Inhabited
structure aj5 where
 Module:Int
 ID:Int
 Name:List UInt8
 Old:Int
 Len:Int
 Addr:Int
 Segment:Int
 deriving DecidableEq,Inhabited
structure ajb where
 Name:List UInt8
 Section:Int
 Old:Int
 deriving DecidableEq,Inhabited
structure dyq where
 L:List aj1
 Sections:List aj5
 Entries:List ajb
 Inserted:List Int
 Parents:List Int
 Nodes:List (List UInt8)
 Owners:List Int
 Order:List (List Int)
 Start:List UInt8
 Started:Bool
 deriving DecidableEq,Inhabited
def aqx (x:TEsd):List C:=[.str x.Name,.int x.Kind,.int x.ID,.int x.Addr,.int x.Len]
def byw (c:List C):TEsd:=(⟨(cg c 0).toStr,(cg c 1).toInt,(cg c 2).toInt,(cg c 3).toInt,(cg c 4).toInt⟩:TEsd)
theorem dyx (l:List TEsd):List.map byw (List.map aqx l)=l:=by
 rw [Jl];refine (jz fun x _=>?_).trans (List.map_id l)
 show byw (aqx x)=x
 simp only [byw,aqx,cg_zero,cg_succ,C.toBool_bool,C.toInt_int,C.toStr_str,C.toSl_slice]
theorem dku (l:List TEsd) (i:Nat):(cg (eg (List.map aqx l) i) 0).toStr=(gt l i).Name:=by
 rcases js i l.length with h | h
 ·rw [aqm _ _ _ h];rfl
 ·rw [aw3 _ _ _ h,aw5 _ _ h];rfl
theorem dkq (l:List TEsd) (i:Nat):(cg (eg (List.map aqx l) i) 1).toInt=(gt l i).Kind:=by
 rcases js i l.length with h | h
 ·rw [aqm _ _ _ h];rfl
 ·rw [aw3 _ _ _ h,aw5 _ _ h];rfl
theorem ejz (l:List TEsd) (i:Nat):(cg (eg (List.map aqx l) i) 2).toInt=(gt l i).ID:=by
 rcases js i l.length with h | h
 ·rw [aqm _ _ _ h];rfl
 ·rw [aw3 _ _ _ h,aw5 _ _ h];rfl
theorem dyc (l:List TEsd) (i:Nat):(cg (eg (List.map aqx l) i) 3).toInt=(gt l i).Addr:=by
 rcases js i l.length with h | h
 ·rw [aqm _ _ _ h];rfl
 ·rw [aw3 _ _ _ h,aw5 _ _ h];rfl
theorem dyi (l:List TEsd) (i:Nat):(cg (eg (List.map aqx l) i) 4).toInt=(gt l i).Len:=by
 rcases js i l.length with h | h
 ·rw [aqm _ _ _ h];rfl
 ·rw [aw3 _ _ _ h,aw5 _ _ h];rfl
theorem ezt (l:List TEsd) (v0:List UInt8) (v1:Int) (v2:Int) (v3:Int) (v4:Int):List.map aqx l ++ [[.str v0,.int v1,.int v2,.int v3,.int v4]]=List.map aqx (l ++ [(⟨v0,v1,v2,v3,v4⟩:TEsd)]):=by simp [aqx]
def ajd (x:Int):List C:=[.int x]
def ck4 (c:List C):Int:=(cg c 0).toInt
theorem dyr (l:List Int):List.map ck4 (List.map ajd l)=l:=by
 rw [Jl];refine (jz fun x _=>?_).trans (List.map_id l)
 show ck4 (ajd x)=x
 simp only [ck4,ajd,cg_zero,cg_succ,C.toBool_bool,C.toInt_int,C.toStr_str,C.toSl_slice]
theorem ewd (l:List Int) (i:Nat):(cg (eg (List.map ajd l) i) 0).toInt=gt l i:=by
 rcases js i l.length with h | h
 ·rw [aqm _ _ _ h];rfl
 ·rw [aw3 _ _ _ h,aw5 _ _ h];rfl
theorem eye (l:List Int) (v0:Int):List.map ajd l ++ [[.int v0]]=List.map ajd (l ++ [v0]):=by simp [ajd]
def azf (x:TTxt):List C:=[.int x.ID,.int x.Addr,.slice (List.map ajd x.Data)]
def byt (c:List C):TTxt:=(⟨(cg c 0).toInt,(cg c 1).toInt,((cg c 2).toSl.map ck4)⟩:TTxt)
theorem dkx (l:List TTxt):List.map byt (List.map azf l)=l:=by
 rw [Jl];refine (jz fun x _=>?_).trans (List.map_id l)
 show byt (azf x)=x
 simp only [byt,azf,cg_zero,cg_succ,C.toBool_bool,C.toInt_int,C.toStr_str,C.toSl_slice,dyr]
theorem eq7 (l:List TTxt) (i:Nat):(cg (eg (List.map azf l) i) 0).toInt=(gt l i).ID:=by
 rcases js i l.length with h | h
 ·rw [aqm _ _ _ h];rfl
 ·rw [aw3 _ _ _ h,aw5 _ _ h];rfl
theorem dyo (l:List TTxt) (i:Nat):(cg (eg (List.map azf l) i) 1).toInt=(gt l i).Addr:=by
 rcases js i l.length with h | h
 ·rw [aqm _ _ _ h];rfl
 ·rw [aw3 _ _ _ h,aw5 _ _ h];rfl
theorem dkt (l:List TTxt) (i:Nat):(cg (eg (List.map azf l) i) 2).toSl=List.map ajd ((gt l i).Data):=by
 rcases js i l.length with h | h
 ·rw [aqm _ _ _ h];rfl
 ·rw [aw3 _ _ _ h,aw5 _ _ h];rfl
theorem ezq (l:List TTxt) (v0:Int) (v1:Int) (v2:List Int):List.map azf l ++ [[.int v0,.int v1,.slice (List.map ajd v2)]]=List.map azf (l ++ [(⟨v0,v1,v2⟩:TTxt)]):=by simp [azf]
theorem eqi (l:List TTxt) (v0:Int) (v1:Int):List.map azf l ++ [[.int v0,.int v1,.slice []]]=List.map azf (l ++ [(⟨v0,v1,[]⟩:TTxt)]):=by simp [azf]
def azt (x:TRld):List C:=[.int x.In,.int x.To,.int x.Addr,.int x.Len,.bool x.Neg]
def cj2 (c:List C):TRld:=(⟨(cg c 0).toInt,(cg c 1).toInt,(cg c 2).toInt,(cg c 3).toInt,(cg c 4).toBool⟩:TRld)
theorem dya (l:List TRld):List.map cj2 (List.map azt l)=l:=by
 rw [Jl];refine (jz fun x _=>?_).trans (List.map_id l)
 show cj2 (azt x)=x
 simp only [cj2,azt,cg_zero,cg_succ,C.toBool_bool,C.toInt_int,C.toStr_str,C.toSl_slice]
theorem ejp (l:List TRld) (i:Nat):(cg (eg (List.map azt l) i) 0).toInt=(gt l i).In:=by
 rcases js i l.length with h | h
 ·rw [aqm _ _ _ h];rfl
 ·rw [aw3 _ _ _ h,aw5 _ _ h];rfl
theorem eqn (l:List TRld) (i:Nat):(cg (eg (List.map azt l) i) 1).toInt=(gt l i).To:=by
 rcases js i l.length with h | h
 ·rw [aqm _ _ _ h];rfl
 ·rw [aw3 _ _ _ h,aw5 _ _ h];rfl
theorem eqc (l:List TRld) (i:Nat):(cg (eg (List.map azt l) i) 2).toInt=(gt l i).Addr:=by
 rcases js i l.length with h | h
 ·rw [aqm _ _ _ h];rfl
 ·rw [aw3 _ _ _ h,aw5 _ _ h];rfl
theorem ejs (l:List TRld) (i:Nat):(cg (eg (List.map azt l) i) 3).toInt=(gt l i).Len:=by
 rcases js i l.length with h | h
 ·rw [aqm _ _ _ h];rfl
 ·rw [aw3 _ _ _ h,aw5 _ _ h];rfl
theorem dyj (l:List TRld) (i:Nat):(cg (eg (List.map azt l) i) 4).toBool=(gt l i).Neg:=by
 rcases js i l.length with h | h
 ·rw [aqm _ _ _ h];rfl
 ·rw [aw3 _ _ _ h,aw5 _ _ h];rfl
theorem ekb (l:List TRld) (v0:Int) (v1:Int) (v2:Int) (v3:Int) (v4:Bool):List.map azt l ++ [[.int v0,.int v1,.int v2,.int v3,.bool v4]]=List.map azt (l ++ [(⟨v0,v1,v2,v3,v4⟩:TRld)]):=by simp [azt]
def aj2 (x:aj1):List C:=[.slice (List.map aqx x.Esds),.slice (List.map azf x.Txts),.slice (List.map azt x.Rlds),.str x.Entry]
def awa (c:List C):aj1:=(⟨((cg c 0).toSl.map byw),((cg c 1).toSl.map byt),((cg c 2).toSl.map cj2),(cg c 3).toStr⟩:aj1)
theorem dzi (l:List aj1):List.map awa (List.map aj2 l)=l:=by
 rw [Jl];refine (jz fun x _=>?_).trans (List.map_id l)
 show awa (aj2 x)=x
 simp only [awa,aj2,cg_zero,cg_succ,C.toBool_bool,C.toInt_int,C.toStr_str,C.toSl_slice,dyx,dkx,dya]
theorem cy1 (l:List aj1) (i:Nat):(cg (eg (List.map aj2 l) i) 0).toSl=List.map aqx ((gt l i).Esds):=by
 rcases js i l.length with h | h
 ·rw [aqm _ _ _ h];rfl
 ·rw [aw3 _ _ _ h,aw5 _ _ h];rfl
theorem cya (l:List aj1) (i:Nat):(cg (eg (List.map aj2 l) i) 1).toSl=List.map azf ((gt l i).Txts):=by
 rcases js i l.length with h | h
 ·rw [aqm _ _ _ h];rfl
 ·rw [aw3 _ _ _ h,aw5 _ _ h];rfl
theorem djm (l:List aj1) (i:Nat):(cg (eg (List.map aj2 l) i) 2).toSl=List.map azt ((gt l i).Rlds):=by
 rcases js i l.length with h | h
 ·rw [aqm _ _ _ h];rfl
 ·rw [aw3 _ _ _ h,aw5 _ _ h];rfl
theorem cyh (l:List aj1) (i:Nat):(cg (eg (List.map aj2 l) i) 3).toStr=(gt l i).Entry:=by
 rcases js i l.length with h | h
 ·rw [aqm _ _ _ h];rfl
 ·rw [aw3 _ _ _ h,aw5 _ _ h];rfl
theorem dk0 (l:List aj1) (v0:List TEsd) (v1:List TTxt) (v2:List TRld) (v3:List UInt8):List.map aj2 l ++ [[.slice (List.map aqx v0),.slice (List.map azf v1),.slice (List.map azt v2),.str v3]]=List.map aj2 (l ++ [(⟨v0,v1,v2,v3⟩:aj1)]):=by simp [aj2]
theorem dj1 (l:List aj1) (v1:List TTxt) (v2:List TRld) (v3:List UInt8):List.map aj2 l ++ [[.slice [],.slice (List.map azf v1),.slice (List.map azt v2),.str v3]]=List.map aj2 (l ++ [(⟨[],v1,v2,v3⟩:aj1)]):=by simp [aj2]
theorem djs (l:List aj1) (v0:List TEsd) (v2:List TRld) (v3:List UInt8):List.map aj2 l ++ [[.slice (List.map aqx v0),.slice [],.slice (List.map azt v2),.str v3]]=List.map aj2 (l ++ [(⟨v0,[],v2,v3⟩:aj1)]):=by simp [aj2]
theorem cyw (l:List aj1) (v2:List TRld) (v3:List UInt8):List.map aj2 l ++ [[.slice [],.slice [],.slice (List.map azt v2),.str v3]]=List.map aj2 (l ++ [(⟨[],[],v2,v3⟩:aj1)]):=by simp [aj2]
theorem dq0 (l:List aj1) (v0:List TEsd) (v1:List TTxt) (v3:List UInt8):List.map aj2 l ++ [[.slice (List.map aqx v0),.slice (List.map azf v1),.slice [],.str v3]]=List.map aj2 (l ++ [(⟨v0,v1,[],v3⟩:aj1)]):=by simp [aj2]
theorem cyp (l:List aj1) (v1:List TTxt) (v3:List UInt8):List.map aj2 l ++ [[.slice [],.slice (List.map azf v1),.slice [],.str v3]]=List.map aj2 (l ++ [(⟨[],v1,[],v3⟩:aj1)]):=by simp [aj2]
theorem cyb (l:List aj1) (v0:List TEsd) (v3:List UInt8):List.map aj2 l ++ [[.slice (List.map aqx v0),.slice [],.slice [],.str v3]]=List.map aj2 (l ++ [(⟨v0,[],[],v3⟩:aj1)]):=by simp [aj2]
theorem djq (l:List aj1) (v3:List UInt8):List.map aj2 l ++ [[.slice [],.slice [],.slice [],.str v3]]=List.map aj2 (l ++ [(⟨[],[],[],v3⟩:aj1)]):=by simp [aj2]
def aq8 (x:List UInt8):List C:=[.str x]
def dqm (c:List C):List UInt8:=(cg c 0).toStr
theorem eks (l:List (List UInt8)):List.map dqm (List.map aq8 l)=l:=by
 rw [Jl];refine (jz fun x _=>?_).trans (List.map_id l)
 show dqm (aq8 x)=x
 simp only [dqm,aq8,cg_zero,cg_succ,C.toBool_bool,C.toInt_int,C.toStr_str,C.toSl_slice]
theorem ez6 (l:List (List UInt8)) (i:Nat):(cg (eg (List.map aq8 l) i) 0).toStr=gt l i:=by
 rcases js i l.length with h | h
 ·rw [aqm _ _ _ h];rfl
 ·rw [aw3 _ _ _ h,aw5 _ _ h];rfl
theorem eyn (l:List (List UInt8)) (v0:List UInt8):List.map aq8 l ++ [[.str v0]]=List.map aq8 (l ++ [v0]):=by simp [aq8]
def aj8 (x:aj5):List C:=[.int x.Module,.int x.ID,.str x.Name,.int x.Old,.int x.Len,.int x.Addr,.int x.Segment]
def bwx (c:List C):aj5:=(⟨(cg c 0).toInt,(cg c 1).toInt,(cg c 2).toStr,(cg c 3).toInt,(cg c 4).toInt,(cg c 5).toInt,(cg c 6).toInt⟩:aj5)
theorem dqk (l:List aj5):List.map bwx (List.map aj8 l)=l:=by
 rw [Jl];refine (jz fun x _=>?_).trans (List.map_id l)
 show bwx (aj8 x)=x
 simp only [bwx,aj8,cg_zero,cg_succ,C.toBool_bool,C.toInt_int,C.toStr_str,C.toSl_slice]
theorem cku (l:List aj5) (i:Nat):(cg (eg (List.map aj8 l) i) 0).toInt=(gt l i).Module:=by
 rcases js i l.length with h | h
 ·rw [aqm _ _ _ h];rfl
 ·rw [aw3 _ _ _ h,aw5 _ _ h];rfl
theorem cks (l:List aj5) (i:Nat):(cg (eg (List.map aj8 l) i) 1).toInt=(gt l i).ID:=by
 rcases js i l.length with h | h
 ·rw [aqm _ _ _ h];rfl
 ·rw [aw3 _ _ _ h,aw5 _ _ h];rfl
theorem czv (l:List aj5) (i:Nat):(cg (eg (List.map aj8 l) i) 2).toStr=(gt l i).Name:=by
 rcases js i l.length with h | h
 ·rw [aqm _ _ _ h];rfl
 ·rw [aw3 _ _ _ h,aw5 _ _ h];rfl
theorem ckh (l:List aj5) (i:Nat):(cg (eg (List.map aj8 l) i) 3).toInt=(gt l i).Old:=by
 rcases js i l.length with h | h
 ·rw [aqm _ _ _ h];rfl
 ·rw [aw3 _ _ _ h,aw5 _ _ h];rfl
theorem ck5 (l:List aj5) (i:Nat):(cg (eg (List.map aj8 l) i) 4).toInt=(gt l i).Len:=by
 rcases js i l.length with h | h
 ·rw [aqm _ _ _ h];rfl
 ·rw [aw3 _ _ _ h,aw5 _ _ h];rfl
theorem cka (l:List aj5) (i:Nat):(cg (eg (List.map aj8 l) i) 5).toInt=(gt l i).Addr:=by
 rcases js i l.length with h | h
 ·rw [aqm _ _ _ h];rfl
 ·rw [aw3 _ _ _ h,aw5 _ _ h];rfl
theorem czs (l:List aj5) (i:Nat):(cg (eg (List.map aj8 l) i) 6).toInt=(gt l i).Segment:=by
 rcases js i l.length with h | h
 ·rw [aqm _ _ _ h];rfl
 ·rw [aw3 _ _ _ h,aw5 _ _ h];rfl
theorem dqb (l:List aj5) (v0:Int) (v1:Int) (v2:List UInt8) (v3:Int) (v4:Int) (v5:Int) (v6:Int):List.map aj8 l ++ [[.int v0,.int v1,.str v2,.int v3,.int v4,.int v5,.int v6]]=List.map aj8 (l ++ [(⟨v0,v1,v2,v3,v4,v5,v6⟩:aj5)]):=by simp [aj8]
def ajf (x:ajb):List C:=[.str x.Name,.int x.Section,.int x.Old]
def cjw (c:List C):ajb:=(⟨(cg c 0).toStr,(cg c 1).toInt,(cg c 2).toInt⟩:ajb)
theorem dyk (l:List ajb):List.map cjw (List.map ajf l)=l:=by
 rw [Jl];refine (jz fun x _=>?_).trans (List.map_id l)
 show cjw (ajf x)=x
 simp only [cjw,ajf,cg_zero,cg_succ,C.toBool_bool,C.toInt_int,C.toStr_str,C.toSl_slice]
theorem dq6 (l:List ajb) (i:Nat):(cg (eg (List.map ajf l) i) 0).toStr=(gt l i).Name:=by
 rcases js i l.length with h | h
 ·rw [aqm _ _ _ h];rfl
 ·rw [aw3 _ _ _ h,aw5 _ _ h];rfl
theorem dqy (l:List ajb) (i:Nat):(cg (eg (List.map ajf l) i) 1).toInt=(gt l i).Section:=by
 rcases js i l.length with h | h
 ·rw [aqm _ _ _ h];rfl
 ·rw [aw3 _ _ _ h,aw5 _ _ h];rfl
theorem dq2 (l:List ajb) (i:Nat):(cg (eg (List.map ajf l) i) 2).toInt=(gt l i).Old:=by
 rcases js i l.length with h | h
 ·rw [aqm _ _ _ h];rfl
 ·rw [aw3 _ _ _ h,aw5 _ _ h];rfl
theorem eqg (l:List ajb) (v0:List UInt8) (v1:Int) (v2:Int):List.map ajf l ++ [[.str v0,.int v1,.int v2]]=List.map ajf (l ++ [(⟨v0,v1,v2⟩:ajb)]):=by simp [ajf]
def aqd (x:List Int):List C:=[.slice (List.map ajd x)]
def dza (c:List C):List Int:=((cg c 0).toSl.map ck4)
theorem ekj (l:List (List Int)):List.map dza (List.map aqd l)=l:=by
 rw [Jl];refine (jz fun x _=>?_).trans (List.map_id l)
 show dza (aqd x)=x
 simp only [dza,aqd,cg_zero,cg_succ,C.toBool_bool,C.toInt_int,C.toStr_str,C.toSl_slice,dyr]
theorem eq5 (l:List (List Int)) (i:Nat):(cg (eg (List.map aqd l) i) 0).toSl=List.map ajd (gt l i):=by
 rcases js i l.length with h | h
 ·rw [aqm _ _ _ h];rfl
 ·rw [aw3 _ _ _ h,aw5 _ _ h];rfl
theorem ekd (l:List (List Int)) (v0:List Int):List.map aqd l ++ [[.slice (List.map ajd v0)]]=List.map aqd (l ++ [v0]):=by simp [aqd]
theorem dyh (l:List (List Int))  : List.map aqd l ++ [[.slice []]]=List.map aqd (l ++ [[]]):=by simp [aqd]
theorem ew3 (x:TEsd):(⟨x.Name,x.Kind,x.ID,x.Addr,x.Len⟩:TEsd)=x:=rfl
theorem ez2 (x:TTxt):(⟨x.ID,x.Addr,x.Data⟩:TTxt)=x:=rfl
theorem ewn (x:TRld):(⟨x.In,x.To,x.Addr,x.Len,x.Neg⟩:TRld)=x:=rfl
theorem dw7 (x:aj1):(⟨x.Esds,x.Txts,x.Rlds,x.Entry⟩:aj1)=x:=rfl
theorem dja (x:aj5):(⟨x.Module,x.ID,x.Name,x.Old,x.Len,x.Addr,x.Segment⟩:aj5)=x:=rfl
theorem dk8 (x:ajb):(⟨x.Name,x.Section,x.Old⟩:ajb)=x:=rfl
theorem dqt (x:dyq):(⟨x.L,x.Sections,x.Entries,x.Inserted,x.Parents,x.Nodes,x.Owners,x.Order,x.Start,x.Started⟩:dyq)=x:=rfl
abbrev tl:=(aI (aI (aI (aI (aI (aI @dyx @aqx.eq_1) (aI @byw.eq_1 (aI @dku @dkq))) (aI (aI @ejz @dyc) (aI @dyi (aI @ezt @dyr)))) (aI (aI (aI @ajd.eq_1 @ck4.eq_1) (aI @ewd (aI @eye @dkx))) (aI (aI @azf.eq_1 @byt.eq_1) (aI @eq7 (aI @dyo @dkt))))) (aI (aI (aI (aI @ezq @eqi) (aI @dya (aI @azt.eq_1 @cj2.eq_1))) (aI (aI @ejp @eqn) (aI @eqc (aI @ejs @dyj)))) (aI (aI (aI @ekb @dzi) (aI @aj2.eq_1 (aI @awa.eq_1 @cy1))) (aI (aI @cya (aI @djm @cyh)) (aI @dk0 (aI @dj1 @djs)))))) (aI (aI (aI (aI (aI @cyw @dq0) (aI @cyp (aI @cyb @djq))) (aI (aI @eks @aq8.eq_1) (aI @dqm.eq_1 (aI @ez6 @eyn)))) (aI (aI (aI @dqk @aj8.eq_1) (aI @bwx.eq_1 (aI @cku @cks))) (aI (aI @czv @ckh) (aI @ck5 (aI @cka @czs))))) (aI (aI (aI (aI @dqb @dyk) (aI @ajf.eq_1 (aI @cjw.eq_1 @dq6))) (aI (aI @dqy @dq2) (aI @eqg (aI @ekj @aqd.eq_1)))) (aI (aI (aI @dza.eq_1 @eq5) (aI @ekd (aI @dyh @ew3))) (aI (aI @ez2 (aI @ewn @dw7)) (aI @dja (aI @dk8 @dqt)))))))
abbrev z:=(aI (aI ev ew) (aI tys tl))
end Go.Proofs.YtfhnelkbiihpiaaGreatDoor
