/- Text. -/
import Derived.Test.YtkebegfopnlkhaaAE58
import Derived.Test.YtkebegfopnlkhaaAE19
import Derived.Test.YtkebegfopnlkhaaAE41
import Derived.Test.YtkebegfopnlkhaaAE28
import Derived.Test.YtkebegfopnlkhaaRows
set_option maxHeartbeats 8000000
set_option linter.unusedVariables false
set_option linter.unusedSimpArgs false
set_option maxRecDepth 100000
namespace Go.Proofs.Ytkebegfopnlkhaa
open Go.AE
theorem h00:tyI Try.prog 0=none:=by kernel_rfl
theorem mixed:Try.prog.follows .mixedOrders=true:=by kernel_rfl
theorem un3:Try.prog.underlying 3=some (.int .i64):=by kernel_rfl
theorem un5:Try.prog.underlying 5=some (.int .u8):=by kernel_rfl
theorem un9:Try.prog.underlying 9=some .string:=by kernel_rfl
theorem un69:Try.prog.underlying 69=some (.int .u64):=by kernel_rfl
theorem un120:Try.prog.underlying 120=some (.int .u32):=by kernel_rfl
theorem ty3:tyI Try.prog 3=some ⟨[.int .i64],false,[],0,8⟩:=by kernel_rfl
theorem ty4:tyI Try.prog 4=some ⟨[.bool],false,[],0,1⟩:=by kernel_rfl
theorem ty5:tyI Try.prog 5=some ⟨[.int .u8],false,[],0,1⟩:=by kernel_rfl
theorem ty9:tyI Try.prog 9=some ⟨[.str],false,[],0,16⟩:=by kernel_rfl
theorem str9:isStrT Try.prog 9=true:=by kernel_rfl
theorem ty22:tyI Try.prog 22=some ⟨[.slice 48],false,[],48,24⟩:=by kernel_rfl
theorem sl22:slE Try.prog 22=some (48,⟨[.int .i64,.str],true,[(0,3),(1,9)],0,24⟩):=by kernel_rfl
theorem ty26:tyI Try.prog 26=some ⟨[.slice 57],false,[],57,24⟩:=by kernel_rfl
theorem sl26:slE Try.prog 26=some (57,⟨[.slice 59],false,[],59,24⟩):=by kernel_rfl
theorem ty34:tyI Try.prog 34=some ⟨[.slice 52],false,[],52,24⟩:=by kernel_rfl
theorem sl34:slE Try.prog 34=some (52,⟨[.int .i64,.int .i64],true,[(0,3),(1,3)],0,16⟩):=by kernel_rfl
theorem ty36:tyI Try.prog 36=some ⟨[.int .i64,.slice 52],true,[(0,3),(1,34)],0,32⟩:=by kernel_rfl
theorem ty37:tyI Try.prog 37=some ⟨[.int .i64],false,[],0,8⟩:=by kernel_rfl
theorem ty45:tyI Try.prog 45=some ⟨[.slice 52,.int .i64],true,[(0,34),(1,3)],0,32⟩:=by kernel_rfl
theorem ty46:tyI Try.prog 46=some ⟨[.slice 5],false,[],5,24⟩:=by kernel_rfl
theorem sl46:slE Try.prog 46=some (5,⟨[.int .u8],false,[],0,1⟩):=by kernel_rfl
theorem ty48:tyI Try.prog 48=some ⟨[.int .i64,.str],true,[(0,3),(1,9)],0,24⟩:=by kernel_rfl
theorem eq48:eqT Try.prog 48=true:=by kernel_rfl
theorem ty52:tyI Try.prog 52=some ⟨[.int .i64,.int .i64],true,[(0,3),(1,3)],0,16⟩:=by kernel_rfl
theorem eq52:eqT Try.prog 52=true:=by kernel_rfl
theorem ty57:tyI Try.prog 57=some ⟨[.slice 59],false,[],59,24⟩:=by kernel_rfl
theorem sl57:slE Try.prog 57=some (59,⟨[.int .i64,.slice 5,.slice 5,.bool],true,[(0,3),(1,46),(2,46),(3,4)],0,64⟩):=by kernel_rfl
theorem ty59:tyI Try.prog 59=some ⟨[.int .i64,.slice 5,.slice 5,.bool],true,[(0,3),(1,46),(2,46),(3,4)],0,64⟩:=by kernel_rfl
theorem ty69:tyI Try.prog 69=some ⟨[.int .u64],false,[],0,8⟩:=by kernel_rfl
theorem ty120:tyI Try.prog 120=some ⟨[.int .u32],false,[],0,4⟩:=by kernel_rfl
theorem tys:type_of% (And.intro (And.intro (And.intro (And.intro @un3 (And.intro @un5 @un9)) (And.intro (And.intro @un69 @un120) (And.intro @ty3 @ty4))) (And.intro (And.intro (And.intro @ty5 @ty9) (And.intro @str9 @ty22)) (And.intro (And.intro @sl22 @ty26) (And.intro @sl26 @ty34)))) (And.intro (And.intro (And.intro @sl34 (And.intro @ty36 @ty37)) (And.intro (And.intro @ty45 @ty46) (And.intro @sl46 @ty48))) (And.intro (And.intro (And.intro @eq48 @ty52) (And.intro @eq52 @ty57)) (And.intro (And.intro @sl57 @ty59) (And.intro @ty69 @ty120))))):=(And.intro (And.intro (And.intro (And.intro @un3 (And.intro @un5 @un9)) (And.intro (And.intro @un69 @un120) (And.intro @ty3 @ty4))) (And.intro (And.intro (And.intro @ty5 @ty9) (And.intro @str9 @ty22)) (And.intro (And.intro @sl22 @ty26) (And.intro @sl26 @ty34)))) (And.intro (And.intro (And.intro @sl34 (And.intro @ty36 @ty37)) (And.intro (And.intro @ty45 @ty46) (And.intro @sl46 @ty48))) (And.intro (And.intro (And.intro @eq48 @ty52) (And.intro @eq52 @ty57)) (And.intro (And.intro @sl57 @ty59) (And.intro @ty69 @ty120)))))
structure TLine where
  Ctl:Int
  Text:List UInt8
  deriving DecidableEq,Inhabited
structure TRec where
  R:Int
  Key:List Int
  Data:List Int
  Bad:Bool
  deriving DecidableEq,Inhabited
structure TExtent where
  At:Int
  Len:Int
  deriving DecidableEq,Inhabited
structure TSpace where
  Tracks:Int
  Free:List TExtent
  deriving DecidableEq,Inhabited
structure TFile where
  Extents:List TExtent
  Lines:Int
  deriving DecidableEq,Inhabited
def e_TLine (x:TLine):List C:=[.int x.Ctl,.str x.Text]
def d_TLine (c:List C):TLine:=(⟨(cg c 0).toInt,(cg c 1).toStr⟩:TLine)
theorem de_TLine (l:List TLine):List.map d_TLine (List.map e_TLine l)=l:=by
  rw [List.map_map];refine (List.map_congr_left fun x _=>?_).trans (List.map_id l)
  show d_TLine (e_TLine x)=x
  simp only [d_TLine,e_TLine,cg_zero,cg_succ,C.toBool_bool,C.toInt_int,C.toStr_str,C.toSl_slice]
theorem cg_TLine_0 (l:List TLine) (i:Nat):(cg (eg (List.map e_TLine l) i) 0).toInt=(gt l i).Ctl:=by
  rcases Nat.lt_or_ge i l.length with h | h
  · rw [eg_map _ _ _ h];rfl
  · rw [eg_out _ _ _ h,gt_out _ _ h];rfl
theorem cg_TLine_1 (l:List TLine) (i:Nat):(cg (eg (List.map e_TLine l) i) 1).toStr=(gt l i).Text:=by
  rcases Nat.lt_or_ge i l.length with h | h
  · rw [eg_map _ _ _ h];rfl
  · rw [eg_out _ _ _ h,gt_out _ _ h];rfl
theorem ap_TLine (l:List TLine) (v0:Int) (v1:List UInt8):List.map e_TLine l ++ [[.int v0,.str v1]]=List.map e_TLine (l ++ [(⟨v0,v1⟩:TLine)]):=by simp [e_TLine]
theorem set_TLine_0_1 (l:List TLine) (i:Nat) (v0:Int):(List.map e_TLine l).set i (spliceR (eg (List.map e_TLine l) i) 0 [.int v0])=List.map e_TLine (l.set i (⟨v0,(gt l i).Text⟩:TLine)):=by
  refine set_map_of _ _ _ _ fun h=>?_
  rw [eg_map _ _ _ h];rfl
theorem set_TLine_1_1 (l:List TLine) (i:Nat) (v1:List UInt8):(List.map e_TLine l).set i (spliceR (eg (List.map e_TLine l) i) 1 [.str v1])=List.map e_TLine (l.set i (⟨(gt l i).Ctl,v1⟩:TLine)):=by
  refine set_map_of _ _ _ _ fun h=>?_
  rw [eg_map _ _ _ h];rfl
def e_Int (x:Int):List C:=[.int x]
def d_Int (c:List C):Int:=(cg c 0).toInt
theorem de_Int (l:List Int):List.map d_Int (List.map e_Int l)=l:=by
  rw [List.map_map];refine (List.map_congr_left fun x _=>?_).trans (List.map_id l)
  show d_Int (e_Int x)=x
  simp only [d_Int,e_Int,cg_zero,cg_succ,C.toBool_bool,C.toInt_int,C.toStr_str,C.toSl_slice]
theorem cg_Int_0 (l:List Int) (i:Nat):(cg (eg (List.map e_Int l) i) 0).toInt=gt l i:=by
  rcases Nat.lt_or_ge i l.length with h | h
  · rw [eg_map _ _ _ h];rfl
  · rw [eg_out _ _ _ h,gt_out _ _ h];rfl
theorem ap_Int (l:List Int) (v0:Int):List.map e_Int l ++ [[.int v0]]=List.map e_Int (l ++ [v0]):=by simp [e_Int]
theorem ap2_Int (l:List Int) (v0_0:Int) (v1_0:Int):List.map e_Int l ++ [[.int v0_0],[.int v1_0]]=List.map e_Int (l ++ [v0_0,v1_0]):=by simp [e_Int]
theorem set_Int_0_1 (l:List Int) (i:Nat) (v0:Int):(List.map e_Int l).set i (spliceR (eg (List.map e_Int l) i) 0 [.int v0])=List.map e_Int (l.set i v0):=by
  refine set_map_of _ _ _ _ fun h=>?_
  rw [eg_map _ _ _ h];rfl
theorem zr_Int (n:Nat):zreps n [.int 0]=List.map e_Int (zreps n 0):=zreps_map rfl
def e_TRec (x:TRec):List C:=[.int x.R,.slice (List.map e_Int x.Key),.slice (List.map e_Int x.Data),.bool x.Bad]
def d_TRec (c:List C):TRec:=(⟨(cg c 0).toInt,((cg c 1).toSl.map d_Int),((cg c 2).toSl.map d_Int),(cg c 3).toBool⟩:TRec)
theorem de_TRec (l:List TRec):List.map d_TRec (List.map e_TRec l)=l:=by
  rw [List.map_map];refine (List.map_congr_left fun x _=>?_).trans (List.map_id l)
  show d_TRec (e_TRec x)=x
  simp only [d_TRec,e_TRec,cg_zero,cg_succ,C.toBool_bool,C.toInt_int,C.toStr_str,C.toSl_slice,de_Int,de_Int]
theorem cg_TRec_0 (l:List TRec) (i:Nat):(cg (eg (List.map e_TRec l) i) 0).toInt=(gt l i).R:=by
  rcases Nat.lt_or_ge i l.length with h | h
  · rw [eg_map _ _ _ h];rfl
  · rw [eg_out _ _ _ h,gt_out _ _ h];rfl
theorem cg_TRec_1 (l:List TRec) (i:Nat):(cg (eg (List.map e_TRec l) i) 1).toSl=List.map e_Int ((gt l i).Key):=by
  rcases Nat.lt_or_ge i l.length with h | h
  · rw [eg_map _ _ _ h];rfl
  · rw [eg_out _ _ _ h,gt_out _ _ h];rfl
theorem cg_TRec_2 (l:List TRec) (i:Nat):(cg (eg (List.map e_TRec l) i) 2).toSl=List.map e_Int ((gt l i).Data):=by
  rcases Nat.lt_or_ge i l.length with h | h
  · rw [eg_map _ _ _ h];rfl
  · rw [eg_out _ _ _ h,gt_out _ _ h];rfl
theorem cg_TRec_3 (l:List TRec) (i:Nat):(cg (eg (List.map e_TRec l) i) 3).toBool=(gt l i).Bad:=by
  rcases Nat.lt_or_ge i l.length with h | h
  · rw [eg_map _ _ _ h];rfl
  · rw [eg_out _ _ _ h,gt_out _ _ h];rfl
theorem ap_TRec (l:List TRec) (v0:Int) (v1:List Int) (v2:List Int) (v3:Bool):List.map e_TRec l ++ [[.int v0,.slice (List.map e_Int v1),.slice (List.map e_Int v2),.bool v3]]=List.map e_TRec (l ++ [(⟨v0,v1,v2,v3⟩:TRec)]):=by simp [e_TRec]
theorem ap_TRec_1 (l:List TRec) (v0:Int) (v2:List Int) (v3:Bool):List.map e_TRec l ++ [[.int v0,.slice [],.slice (List.map e_Int v2),.bool v3]]=List.map e_TRec (l ++ [(⟨v0,[],v2,v3⟩:TRec)]):=by simp [e_TRec]
theorem ap_TRec_2 (l:List TRec) (v0:Int) (v1:List Int) (v3:Bool):List.map e_TRec l ++ [[.int v0,.slice (List.map e_Int v1),.slice [],.bool v3]]=List.map e_TRec (l ++ [(⟨v0,v1,[],v3⟩:TRec)]):=by simp [e_TRec]
theorem ap_TRec_3 (l:List TRec) (v0:Int) (v3:Bool):List.map e_TRec l ++ [[.int v0,.slice [],.slice [],.bool v3]]=List.map e_TRec (l ++ [(⟨v0,[],[],v3⟩:TRec)]):=by simp [e_TRec]
theorem set_TRec_0_1 (l:List TRec) (i:Nat) (v0:Int):(List.map e_TRec l).set i (spliceR (eg (List.map e_TRec l) i) 0 [.int v0])=List.map e_TRec (l.set i (⟨v0,(gt l i).Key,(gt l i).Data,(gt l i).Bad⟩:TRec)):=by
  refine set_map_of _ _ _ _ fun h=>?_
  rw [eg_map _ _ _ h];rfl
def e_LTRec (x:List TRec):List C:=[.slice (List.map e_TRec x)]
def d_LTRec (c:List C):List TRec:=((cg c 0).toSl.map d_TRec)
theorem de_LTRec (l:List (List TRec)):List.map d_LTRec (List.map e_LTRec l)=l:=by
  rw [List.map_map];refine (List.map_congr_left fun x _=>?_).trans (List.map_id l)
  show d_LTRec (e_LTRec x)=x
  simp only [d_LTRec,e_LTRec,cg_zero,cg_succ,C.toBool_bool,C.toInt_int,C.toStr_str,C.toSl_slice,de_TRec]
theorem cg_LTRec_0 (l:List (List TRec)) (i:Nat):(cg (eg (List.map e_LTRec l) i) 0).toSl=List.map e_TRec (gt l i):=by
  rcases Nat.lt_or_ge i l.length with h | h
  · rw [eg_map _ _ _ h];rfl
  · rw [eg_out _ _ _ h,gt_out _ _ h];rfl
theorem ap_LTRec (l:List (List TRec)) (v0:List TRec):List.map e_LTRec l ++ [[.slice (List.map e_TRec v0)]]=List.map e_LTRec (l ++ [v0]):=by simp [e_LTRec]
theorem ap_LTRec_1 (l:List (List TRec))  : List.map e_LTRec l ++ [[.slice []]]=List.map e_LTRec (l ++ [[]]):=by simp [e_LTRec]
theorem set_LTRec_0_1 (l:List (List TRec)) (i:Nat) (v0:List TRec):(List.map e_LTRec l).set i (spliceR (eg (List.map e_LTRec l) i) 0 [.slice (List.map e_TRec v0)])=List.map e_LTRec (l.set i v0):=by
  refine set_map_of _ _ _ _ fun h=>?_
  rw [eg_map _ _ _ h];rfl
def e_TExtent (x:TExtent):List C:=[.int x.At,.int x.Len]
def d_TExtent (c:List C):TExtent:=(⟨(cg c 0).toInt,(cg c 1).toInt⟩:TExtent)
theorem de_TExtent (l:List TExtent):List.map d_TExtent (List.map e_TExtent l)=l:=by
  rw [List.map_map];refine (List.map_congr_left fun x _=>?_).trans (List.map_id l)
  show d_TExtent (e_TExtent x)=x
  simp only [d_TExtent,e_TExtent,cg_zero,cg_succ,C.toBool_bool,C.toInt_int,C.toStr_str,C.toSl_slice]
theorem cg_TExtent_0 (l:List TExtent) (i:Nat):(cg (eg (List.map e_TExtent l) i) 0).toInt=(gt l i).At:=by
  rcases Nat.lt_or_ge i l.length with h | h
  · rw [eg_map _ _ _ h];rfl
  · rw [eg_out _ _ _ h,gt_out _ _ h];rfl
theorem cg_TExtent_1 (l:List TExtent) (i:Nat):(cg (eg (List.map e_TExtent l) i) 1).toInt=(gt l i).Len:=by
  rcases Nat.lt_or_ge i l.length with h | h
  · rw [eg_map _ _ _ h];rfl
  · rw [eg_out _ _ _ h,gt_out _ _ h];rfl
theorem ap_TExtent (l:List TExtent) (v0:Int) (v1:Int):List.map e_TExtent l ++ [[.int v0,.int v1]]=List.map e_TExtent (l ++ [(⟨v0,v1⟩:TExtent)]):=by simp [e_TExtent]
theorem set_TExtent_0_2 (l:List TExtent) (i:Nat) (v0:Int) (v1:Int):(List.map e_TExtent l).set i (spliceR (eg (List.map e_TExtent l) i) 0 [.int v0,.int v1])=List.map e_TExtent (l.set i (⟨v0,v1⟩:TExtent)):=by
  refine set_map_of _ _ _ _ fun h=>?_
  rw [eg_map _ _ _ h];rfl
theorem set_TExtent_1_1 (l:List TExtent) (i:Nat) (v1:Int):(List.map e_TExtent l).set i (spliceR (eg (List.map e_TExtent l) i) 1 [.int v1])=List.map e_TExtent (l.set i (⟨(gt l i).At,v1⟩:TExtent)):=by
  refine set_map_of _ _ _ _ fun h=>?_
  rw [eg_map _ _ _ h];rfl
theorem zr_TExtent (n:Nat):zreps n [.int 0,.int 0]=List.map e_TExtent (zreps n (⟨0,0⟩:TExtent)):=zreps_map rfl
theorem eta_TLine (x:TLine):(⟨x.Ctl,x.Text⟩:TLine)=x:=rfl
theorem eta_TRec (x:TRec):(⟨x.R,x.Key,x.Data,x.Bad⟩:TRec)=x:=rfl
theorem eta_TExtent (x:TExtent):(⟨x.At,x.Len⟩:TExtent)=x:=rfl
theorem eta_TSpace (x:TSpace):(⟨x.Tracks,x.Free⟩:TSpace)=x:=rfl
theorem eta_TFile (x:TFile):(⟨x.Extents,x.Lines⟩:TFile)=x:=rfl
theorem row8_e (s:List UInt8):row8 s=List.map e_Int (fromStr8 s):=row8_map e_Int (fun _=>rfl) s
theorem str8_e (l:List Int):str8 (List.map e_Int l)=toStr8 l:=str8_map e_Int (fun _=>rfl) l
theorem tl:type_of% (And.intro (And.intro (And.intro (And.intro (And.intro @de_TLine (And.intro @e_TLine.eq_1 @d_TLine.eq_1)) (And.intro @cg_TLine_0 (And.intro @cg_TLine_1 @ap_TLine))) (And.intro (And.intro @set_TLine_0_1 (And.intro @set_TLine_1_1 @de_Int)) (And.intro (And.intro @e_Int.eq_1 @d_Int.eq_1) (And.intro @cg_Int_0 @ap_Int)))) (And.intro (And.intro (And.intro @ap2_Int (And.intro @set_Int_0_1 @zr_Int)) (And.intro @de_TRec (And.intro @e_TRec.eq_1 @d_TRec.eq_1))) (And.intro (And.intro @cg_TRec_0 (And.intro @cg_TRec_1 @cg_TRec_2)) (And.intro (And.intro @cg_TRec_3 @ap_TRec) (And.intro @ap_TRec_1 @ap_TRec_2))))) (And.intro (And.intro (And.intro (And.intro @ap_TRec_3 (And.intro @set_TRec_0_1 @de_LTRec)) (And.intro @e_LTRec.eq_1 (And.intro @d_LTRec.eq_1 @cg_LTRec_0))) (And.intro (And.intro @ap_LTRec (And.intro @ap_LTRec_1 @set_LTRec_0_1)) (And.intro (And.intro @de_TExtent @e_TExtent.eq_1) (And.intro @d_TExtent.eq_1 @cg_TExtent_0)))) (And.intro (And.intro (And.intro @cg_TExtent_1 (And.intro @ap_TExtent @set_TExtent_0_2)) (And.intro (And.intro @set_TExtent_1_1 @zr_TExtent) (And.intro @eta_TLine @eta_TRec))) (And.intro (And.intro @eta_TExtent (And.intro @eta_TSpace @eta_TFile)) (And.intro (And.intro @row8_e @str8_e) (And.intro @fromStr8_len @toStr8_len)))))):=(And.intro (And.intro (And.intro (And.intro (And.intro @de_TLine (And.intro @e_TLine.eq_1 @d_TLine.eq_1)) (And.intro @cg_TLine_0 (And.intro @cg_TLine_1 @ap_TLine))) (And.intro (And.intro @set_TLine_0_1 (And.intro @set_TLine_1_1 @de_Int)) (And.intro (And.intro @e_Int.eq_1 @d_Int.eq_1) (And.intro @cg_Int_0 @ap_Int)))) (And.intro (And.intro (And.intro @ap2_Int (And.intro @set_Int_0_1 @zr_Int)) (And.intro @de_TRec (And.intro @e_TRec.eq_1 @d_TRec.eq_1))) (And.intro (And.intro @cg_TRec_0 (And.intro @cg_TRec_1 @cg_TRec_2)) (And.intro (And.intro @cg_TRec_3 @ap_TRec) (And.intro @ap_TRec_1 @ap_TRec_2))))) (And.intro (And.intro (And.intro (And.intro @ap_TRec_3 (And.intro @set_TRec_0_1 @de_LTRec)) (And.intro @e_LTRec.eq_1 (And.intro @d_LTRec.eq_1 @cg_LTRec_0))) (And.intro (And.intro @ap_LTRec (And.intro @ap_LTRec_1 @set_LTRec_0_1)) (And.intro (And.intro @de_TExtent @e_TExtent.eq_1) (And.intro @d_TExtent.eq_1 @cg_TExtent_0)))) (And.intro (And.intro (And.intro @cg_TExtent_1 (And.intro @ap_TExtent @set_TExtent_0_2)) (And.intro (And.intro @set_TExtent_1_1 @zr_TExtent) (And.intro @eta_TLine @eta_TRec))) (And.intro (And.intro @eta_TExtent (And.intro @eta_TSpace @eta_TFile)) (And.intro (And.intro @row8_e @str8_e) (And.intro @fromStr8_len @toStr8_len))))))
theorem z:type_of% (And.intro (And.intro ev ew) (And.intro tys tl)):=(And.intro (And.intro ev ew) (And.intro tys tl))
end Go.Proofs.Ytkebegfopnlkhaa
