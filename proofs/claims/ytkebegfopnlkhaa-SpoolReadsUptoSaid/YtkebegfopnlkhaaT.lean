/- Text. -/
import Derived.Test.YtkebegfopnlkhaaAE58
import Derived.Test.YtkebegfopnlkhaaAE19
import Derived.Test.YtkebegfopnlkhaaAE41
import Derived.Test.YtkebegfopnlkhaaAE28
import Derived.Test.YtkebegfopnlkhaaRows
set_option maxHeartbeats 8000000
set_option linter.unusedVariables false
set_option linter.unusedSimpArgs false
set_option maxRecDepth 100000
open _root_.List renaming map_map→JB,map_congr_left→j3
open _root_.Nat renaming lt_or_ge→jI
open Go.Proofs.Try renaming prog→jd
namespace Go.Proofs.Ytkebegfopnlkhaa
open Go.AE
theorem h00:tyI jd 0=none:=by kernel_rfl
theorem mixed:jd.follows .mixedOrders=true:=by kernel_rfl
theorem un3:jd.underlying 3=some (.int .i64):=by kernel_rfl
theorem un5:jd.underlying 5=some (.int .u8):=by kernel_rfl
theorem un9:jd.underlying 9=some .string:=by kernel_rfl
theorem un69:jd.underlying 69=some (.int .u64):=by kernel_rfl
theorem un120:jd.underlying 120=some (.int .u32):=by kernel_rfl
theorem ty3:tyI jd 3=some ⟨[.int .i64],false,[],0,8⟩:=by kernel_rfl
theorem ty4:tyI jd 4=some ⟨[.bool],false,[],0,1⟩:=by kernel_rfl
theorem ty5:tyI jd 5=some ⟨[.int .u8],false,[],0,1⟩:=by kernel_rfl
theorem ty9:tyI jd 9=some ⟨[.str],false,[],0,16⟩:=by kernel_rfl
theorem str9:isStrT jd 9=true:=by kernel_rfl
theorem ty22:tyI jd 22=some ⟨[.slice 48],false,[],48,24⟩:=by kernel_rfl
theorem sl22:slE jd 22=some (48,⟨[.int .i64,.str],true,[(0,3),(1,9)],0,24⟩):=by kernel_rfl
theorem ty26:tyI jd 26=some ⟨[.slice 57],false,[],57,24⟩:=by kernel_rfl
theorem sl26:slE jd 26=some (57,⟨[.slice 59],false,[],59,24⟩):=by kernel_rfl
theorem ty34:tyI jd 34=some ⟨[.slice 52],false,[],52,24⟩:=by kernel_rfl
theorem sl34:slE jd 34=some (52,⟨[.int .i64,.int .i64],true,[(0,3),(1,3)],0,16⟩):=by kernel_rfl
theorem ty36:tyI jd 36=some ⟨[.int .i64,.slice 52],true,[(0,3),(1,34)],0,32⟩:=by kernel_rfl
theorem ty37:tyI jd 37=some ⟨[.int .i64],false,[],0,8⟩:=by kernel_rfl
theorem ty45:tyI jd 45=some ⟨[.slice 52,.int .i64],true,[(0,34),(1,3)],0,32⟩:=by kernel_rfl
theorem ty46:tyI jd 46=some ⟨[.slice 5],false,[],5,24⟩:=by kernel_rfl
theorem sl46:slE jd 46=some (5,⟨[.int .u8],false,[],0,1⟩):=by kernel_rfl
theorem ty48:tyI jd 48=some ⟨[.int .i64,.str],true,[(0,3),(1,9)],0,24⟩:=by kernel_rfl
theorem eq48:eqT jd 48=true:=by kernel_rfl
theorem ty52:tyI jd 52=some ⟨[.int .i64,.int .i64],true,[(0,3),(1,3)],0,16⟩:=by kernel_rfl
theorem eq52:eqT jd 52=true:=by kernel_rfl
theorem ty57:tyI jd 57=some ⟨[.slice 59],false,[],59,24⟩:=by kernel_rfl
theorem sl57:slE jd 57=some (59,⟨[.int .i64,.slice 5,.slice 5,.bool],true,[(0,3),(1,46),(2,46),(3,4)],0,64⟩):=by kernel_rfl
theorem ty59:tyI jd 59=some ⟨[.int .i64,.slice 5,.slice 5,.bool],true,[(0,3),(1,46),(2,46),(3,4)],0,64⟩:=by kernel_rfl
theorem ty69:tyI jd 69=some ⟨[.int .u64],false,[],0,8⟩:=by kernel_rfl
theorem ty120:tyI jd 120=some ⟨[.int .u32],false,[],0,4⟩:=by kernel_rfl
abbrev tys:=(aI (aI (aI (aI @un3 (aI @un5 @un9)) (aI (aI @un69 @un120) (aI @ty3 @ty4))) (aI (aI (aI @ty5 @ty9) (aI @str9 @ty22)) (aI (aI @sl22 @ty26) (aI @sl26 @ty34)))) (aI (aI (aI @sl34 (aI @ty36 @ty37)) (aI (aI @ty45 @ty46) (aI @sl46 @ty48))) (aI (aI (aI @eq48 @ty52) (aI @eq52 @ty57)) (aI (aI @sl57 @ty59) (aI @ty69 @ty120)))))
structure TLine where
  Ctl:Int
  Text:List UInt8
  deriving DecidableEq,Inhabited
structure TRec where
  R:Int
  Key:List Int
  Data:List Int
  Bad:Bool
  deriving DecidableEq,Inhabited
structure TExtent where
  At:Int
  Len:Int
  deriving DecidableEq,Inhabited
structure TSpace where
  Tracks:Int
  Free:List TExtent
  deriving DecidableEq,Inhabited
structure TFile where
  Extents:List TExtent
  Lines:Int
  deriving DecidableEq,Inhabited
def e_TLine (x:TLine):List C:=[.int x.Ctl,.str x.Text]
def d_TLine (c:List C):TLine:=(⟨(cg c 0).toInt,(cg c 1).toStr⟩:TLine)
theorem de_TLine (l:List TLine):List.map d_TLine (List.map e_TLine l)=l:=by
  rw [JB];refine (j3 fun x _=>?_).trans (List.map_id l)
  show d_TLine (e_TLine x)=x
  simp only [d_TLine,e_TLine,cg_zero,cg_succ,C.toBool_bool,C.toInt_int,C.toStr_str,C.toSl_slice]
theorem cg_TLine_0 (l:List TLine) (i:Nat):(cg (eg (List.map e_TLine l) i) 0).toInt=(gt l i).Ctl:=by
  rcases jI i l.length with h | h
  · rw [eg_map _ _ _ h];rfl
  · rw [eg_out _ _ _ h,gt_out _ _ h];rfl
theorem cg_TLine_1 (l:List TLine) (i:Nat):(cg (eg (List.map e_TLine l) i) 1).toStr=(gt l i).Text:=by
  rcases jI i l.length with h | h
  · rw [eg_map _ _ _ h];rfl
  · rw [eg_out _ _ _ h,gt_out _ _ h];rfl
theorem ap_TLine (l:List TLine) (v0:Int) (v1:List UInt8):List.map e_TLine l ++ [[.int v0,.str v1]]=List.map e_TLine (l ++ [(⟨v0,v1⟩:TLine)]):=by simp [e_TLine]
theorem set_TLine_0_1 (l:List TLine) (i:Nat) (v0:Int):(List.map e_TLine l).set i (spliceR (eg (List.map e_TLine l) i) 0 [.int v0])=List.map e_TLine (l.set i (⟨v0,(gt l i).Text⟩:TLine)):=by
  refine set_map_of _ _ _ _ fun h=>?_
  rw [eg_map _ _ _ h];rfl
theorem set_TLine_1_1 (l:List TLine) (i:Nat) (v1:List UInt8):(List.map e_TLine l).set i (spliceR (eg (List.map e_TLine l) i) 1 [.str v1])=List.map e_TLine (l.set i (⟨(gt l i).Ctl,v1⟩:TLine)):=by
  refine set_map_of _ _ _ _ fun h=>?_
  rw [eg_map _ _ _ h];rfl
def e_Int (x:Int):List C:=[.int x]
def d_Int (c:List C):Int:=(cg c 0).toInt
theorem de_Int (l:List Int):List.map d_Int (List.map e_Int l)=l:=by
  rw [JB];refine (j3 fun x _=>?_).trans (List.map_id l)
  show d_Int (e_Int x)=x
  simp only [d_Int,e_Int,cg_zero,cg_succ,C.toBool_bool,C.toInt_int,C.toStr_str,C.toSl_slice]
theorem cg_Int_0 (l:List Int) (i:Nat):(cg (eg (List.map e_Int l) i) 0).toInt=gt l i:=by
  rcases jI i l.length with h | h
  · rw [eg_map _ _ _ h];rfl
  · rw [eg_out _ _ _ h,gt_out _ _ h];rfl
theorem ap_Int (l:List Int) (v0:Int):List.map e_Int l ++ [[.int v0]]=List.map e_Int (l ++ [v0]):=by simp [e_Int]
theorem ap2_Int (l:List Int) (v0_0:Int) (v1_0:Int):List.map e_Int l ++ [[.int v0_0],[.int v1_0]]=List.map e_Int (l ++ [v0_0,v1_0]):=by simp [e_Int]
theorem set_Int_0_1 (l:List Int) (i:Nat) (v0:Int):(List.map e_Int l).set i (spliceR (eg (List.map e_Int l) i) 0 [.int v0])=List.map e_Int (l.set i v0):=by
  refine set_map_of _ _ _ _ fun h=>?_
  rw [eg_map _ _ _ h];rfl
theorem zr_Int (n:Nat):zreps n [.int 0]=List.map e_Int (zreps n 0):=zreps_map rfl
def e_TRec (x:TRec):List C:=[.int x.R,.slice (List.map e_Int x.Key),.slice (List.map e_Int x.Data),.bool x.Bad]
def d_TRec (c:List C):TRec:=(⟨(cg c 0).toInt,((cg c 1).toSl.map d_Int),((cg c 2).toSl.map d_Int),(cg c 3).toBool⟩:TRec)
theorem de_TRec (l:List TRec):List.map d_TRec (List.map e_TRec l)=l:=by
  rw [JB];refine (j3 fun x _=>?_).trans (List.map_id l)
  show d_TRec (e_TRec x)=x
  simp only [d_TRec,e_TRec,cg_zero,cg_succ,C.toBool_bool,C.toInt_int,C.toStr_str,C.toSl_slice,de_Int,de_Int]
theorem cg_TRec_0 (l:List TRec) (i:Nat):(cg (eg (List.map e_TRec l) i) 0).toInt=(gt l i).R:=by
  rcases jI i l.length with h | h
  · rw [eg_map _ _ _ h];rfl
  · rw [eg_out _ _ _ h,gt_out _ _ h];rfl
theorem cg_TRec_1 (l:List TRec) (i:Nat):(cg (eg (List.map e_TRec l) i) 1).toSl=List.map e_Int ((gt l i).Key):=by
  rcases jI i l.length with h | h
  · rw [eg_map _ _ _ h];rfl
  · rw [eg_out _ _ _ h,gt_out _ _ h];rfl
theorem cg_TRec_2 (l:List TRec) (i:Nat):(cg (eg (List.map e_TRec l) i) 2).toSl=List.map e_Int ((gt l i).Data):=by
  rcases jI i l.length with h | h
  · rw [eg_map _ _ _ h];rfl
  · rw [eg_out _ _ _ h,gt_out _ _ h];rfl
theorem cg_TRec_3 (l:List TRec) (i:Nat):(cg (eg (List.map e_TRec l) i) 3).toBool=(gt l i).Bad:=by
  rcases jI i l.length with h | h
  · rw [eg_map _ _ _ h];rfl
  · rw [eg_out _ _ _ h,gt_out _ _ h];rfl
theorem ap_TRec (l:List TRec) (v0:Int) (v1:List Int) (v2:List Int) (v3:Bool):List.map e_TRec l ++ [[.int v0,.slice (List.map e_Int v1),.slice (List.map e_Int v2),.bool v3]]=List.map e_TRec (l ++ [(⟨v0,v1,v2,v3⟩:TRec)]):=by simp [e_TRec]
theorem ap_TRec_1 (l:List TRec) (v0:Int) (v2:List Int) (v3:Bool):List.map e_TRec l ++ [[.int v0,.slice [],.slice (List.map e_Int v2),.bool v3]]=List.map e_TRec (l ++ [(⟨v0,[],v2,v3⟩:TRec)]):=by simp [e_TRec]
theorem ap_TRec_2 (l:List TRec) (v0:Int) (v1:List Int) (v3:Bool):List.map e_TRec l ++ [[.int v0,.slice (List.map e_Int v1),.slice [],.bool v3]]=List.map e_TRec (l ++ [(⟨v0,v1,[],v3⟩:TRec)]):=by simp [e_TRec]
theorem ap_TRec_3 (l:List TRec) (v0:Int) (v3:Bool):List.map e_TRec l ++ [[.int v0,.slice [],.slice [],.bool v3]]=List.map e_TRec (l ++ [(⟨v0,[],[],v3⟩:TRec)]):=by simp [e_TRec]
theorem set_TRec_0_1 (l:List TRec) (i:Nat) (v0:Int):(List.map e_TRec l).set i (spliceR (eg (List.map e_TRec l) i) 0 [.int v0])=List.map e_TRec (l.set i (⟨v0,(gt l i).Key,(gt l i).Data,(gt l i).Bad⟩:TRec)):=by
  refine set_map_of _ _ _ _ fun h=>?_
  rw [eg_map _ _ _ h];rfl
def e_LTRec (x:List TRec):List C:=[.slice (List.map e_TRec x)]
def d_LTRec (c:List C):List TRec:=((cg c 0).toSl.map d_TRec)
theorem de_LTRec (l:List (List TRec)):List.map d_LTRec (List.map e_LTRec l)=l:=by
  rw [JB];refine (j3 fun x _=>?_).trans (List.map_id l)
  show d_LTRec (e_LTRec x)=x
  simp only [d_LTRec,e_LTRec,cg_zero,cg_succ,C.toBool_bool,C.toInt_int,C.toStr_str,C.toSl_slice,de_TRec]
theorem cg_LTRec_0 (l:List (List TRec)) (i:Nat):(cg (eg (List.map e_LTRec l) i) 0).toSl=List.map e_TRec (gt l i):=by
  rcases jI i l.length with h | h
  · rw [eg_map _ _ _ h];rfl
  · rw [eg_out _ _ _ h,gt_out _ _ h];rfl
theorem ap_LTRec (l:List (List TRec)) (v0:List TRec):List.map e_LTRec l ++ [[.slice (List.map e_TRec v0)]]=List.map e_LTRec (l ++ [v0]):=by simp [e_LTRec]
theorem ap_LTRec_1 (l:List (List TRec))  : List.map e_LTRec l ++ [[.slice []]]=List.map e_LTRec (l ++ [[]]):=by simp [e_LTRec]
def e_TExtent (x:TExtent):List C:=[.int x.At,.int x.Len]
def d_TExtent (c:List C):TExtent:=(⟨(cg c 0).toInt,(cg c 1).toInt⟩:TExtent)
theorem de_TExtent (l:List TExtent):List.map d_TExtent (List.map e_TExtent l)=l:=by
  rw [JB];refine (j3 fun x _=>?_).trans (List.map_id l)
  show d_TExtent (e_TExtent x)=x
  simp only [d_TExtent,e_TExtent,cg_zero,cg_succ,C.toBool_bool,C.toInt_int,C.toStr_str,C.toSl_slice]
theorem cg_TExtent_0 (l:List TExtent) (i:Nat):(cg (eg (List.map e_TExtent l) i) 0).toInt=(gt l i).At:=by
  rcases jI i l.length with h | h
  · rw [eg_map _ _ _ h];rfl
  · rw [eg_out _ _ _ h,gt_out _ _ h];rfl
theorem cg_TExtent_1 (l:List TExtent) (i:Nat):(cg (eg (List.map e_TExtent l) i) 1).toInt=(gt l i).Len:=by
  rcases jI i l.length with h | h
  · rw [eg_map _ _ _ h];rfl
  · rw [eg_out _ _ _ h,gt_out _ _ h];rfl
theorem ap_TExtent (l:List TExtent) (v0:Int) (v1:Int):List.map e_TExtent l ++ [[.int v0,.int v1]]=List.map e_TExtent (l ++ [(⟨v0,v1⟩:TExtent)]):=by simp [e_TExtent]
theorem set_TExtent_0_2 (l:List TExtent) (i:Nat) (v0:Int) (v1:Int):(List.map e_TExtent l).set i (spliceR (eg (List.map e_TExtent l) i) 0 [.int v0,.int v1])=List.map e_TExtent (l.set i (⟨v0,v1⟩:TExtent)):=by
  refine set_map_of _ _ _ _ fun h=>?_
  rw [eg_map _ _ _ h];rfl
theorem set_TExtent_1_1 (l:List TExtent) (i:Nat) (v1:Int):(List.map e_TExtent l).set i (spliceR (eg (List.map e_TExtent l) i) 1 [.int v1])=List.map e_TExtent (l.set i (⟨(gt l i).At,v1⟩:TExtent)):=by
  refine set_map_of _ _ _ _ fun h=>?_
  rw [eg_map _ _ _ h];rfl
theorem zr_TExtent (n:Nat):zreps n [.int 0,.int 0]=List.map e_TExtent (zreps n (⟨0,0⟩:TExtent)):=zreps_map rfl
theorem eta_TLine (x:TLine):(⟨x.Ctl,x.Text⟩:TLine)=x:=rfl
theorem eta_TRec (x:TRec):(⟨x.R,x.Key,x.Data,x.Bad⟩:TRec)=x:=rfl
theorem eta_TExtent (x:TExtent):(⟨x.At,x.Len⟩:TExtent)=x:=rfl
theorem eta_TSpace (x:TSpace):(⟨x.Tracks,x.Free⟩:TSpace)=x:=rfl
theorem eta_TFile (x:TFile):(⟨x.Extents,x.Lines⟩:TFile)=x:=rfl
theorem row8_e (s:List UInt8):row8 s=List.map e_Int (fromStr8 s):=row8_map e_Int (fun _=>rfl) s
theorem str8_e (l:List Int):str8 (List.map e_Int l)=toStr8 l:=str8_map e_Int (fun _=>rfl) l
abbrev tl:=(aI (aI (aI (aI (aI @de_TLine (aI @e_TLine.eq_1 @d_TLine.eq_1)) (aI @cg_TLine_0 (aI @cg_TLine_1 @ap_TLine))) (aI (aI @set_TLine_0_1 (aI @set_TLine_1_1 @de_Int)) (aI (aI @e_Int.eq_1 @d_Int.eq_1) (aI @cg_Int_0 @ap_Int)))) (aI (aI (aI @ap2_Int (aI @set_Int_0_1 @zr_Int)) (aI @de_TRec (aI @e_TRec.eq_1 @d_TRec.eq_1))) (aI (aI @cg_TRec_0 (aI @cg_TRec_1 @cg_TRec_2)) (aI (aI @cg_TRec_3 @ap_TRec) (aI @ap_TRec_1 @ap_TRec_2))))) (aI (aI (aI (aI @ap_TRec_3 (aI @set_TRec_0_1 @de_LTRec)) (aI @e_LTRec.eq_1 (aI @d_LTRec.eq_1 @cg_LTRec_0))) (aI (aI @ap_LTRec (aI @ap_LTRec_1 @de_TExtent)) (aI (aI @e_TExtent.eq_1 @d_TExtent.eq_1) (aI @cg_TExtent_0 @cg_TExtent_1)))) (aI (aI (aI @ap_TExtent (aI @set_TExtent_0_2 @set_TExtent_1_1)) (aI @zr_TExtent (aI @eta_TLine @eta_TRec))) (aI (aI @eta_TExtent (aI @eta_TSpace @eta_TFile)) (aI (aI @row8_e @str8_e) (aI @fromStr8_len @toStr8_len))))))
abbrev z:=(aI (aI ev ew) (aI tys tl))
end Go.Proofs.Ytkebegfopnlkhaa
