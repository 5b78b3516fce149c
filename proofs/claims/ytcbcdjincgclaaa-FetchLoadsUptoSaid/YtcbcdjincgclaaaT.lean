/- Text. -/
import Derived.Test.YtcbcdjincgclaaaAE19
import Derived.Test.YtcbcdjincgclaaaAE41
import Derived.Test.YtcbcdjincgclaaaAE62
import Derived.Test.YtcbcdjincgclaaaRows
set_option maxHeartbeats 8000000
set_option linter.unusedVariables false
set_option linter.unusedSimpArgs false
set_option maxRecDepth 100000
namespace Go.Proofs.Ytcbcdjincgclaaa
open Go.AE
theorem h00:tyI Try.prog 0=none:=by kernel_rfl
theorem mixed:Try.prog.follows .mixedOrders=true:=by kernel_rfl
theorem un3:Try.prog.underlying 3=some (.int .i64):=by kernel_rfl
theorem un5:Try.prog.underlying 5=some (.int .u8):=by kernel_rfl
theorem ty3:tyI Try.prog 3=some ⟨[.int .i64],false,[],0,8⟩:=by kernel_rfl
theorem ty4:tyI Try.prog 4=some ⟨[.bool],false,[],0,1⟩:=by kernel_rfl
theorem ty5:tyI Try.prog 5=some ⟨[.int .u8],false,[],0,1⟩:=by kernel_rfl
theorem ty22:tyI Try.prog 22=some ⟨[.slice 5],false,[],5,24⟩:=by kernel_rfl
theorem sl22:slE Try.prog 22=some (5,⟨[.int .u8],false,[],0,1⟩):=by kernel_rfl
theorem ty23:tyI Try.prog 23=some ⟨[.slice 58],false,[],58,24⟩:=by kernel_rfl
theorem sl23:slE Try.prog 23=some (58,⟨[.int .i64,.int .i64,.bool],true,[(0,3),(1,3),(2,4)],0,24⟩):=by kernel_rfl
theorem ty24:tyI Try.prog 24=some ⟨[.slice 52],false,[],52,24⟩:=by kernel_rfl
theorem sl24:slE Try.prog 24=some (52,⟨[.int .i64,.int .i64,.int .i64,.int .i64],true,[(0,3),(1,3),(2,3),(3,3)],0,32⟩):=by kernel_rfl
theorem ty26:tyI Try.prog 26=some ⟨[.slice 5,.slice 58,.slice 52,.int .i64],true,[(0,22),(1,23),(2,24),(3,3)],0,80⟩:=by kernel_rfl
theorem ty28:tyI Try.prog 28=some ⟨[.int .i64],false,[],0,8⟩:=by kernel_rfl
theorem ty32:tyI Try.prog 32=some ⟨[.slice 3],false,[],3,24⟩:=by kernel_rfl
theorem sl32:slE Try.prog 32=some (3,⟨[.int .i64],false,[],0,8⟩):=by kernel_rfl
theorem ty34:tyI Try.prog 34=some ⟨[.slice 5,.slice 58,.slice 52,.int .i64,.int .i64,.int .i64,.int .i64,.int .i64,.slice 3,.slice 3],true,[(0,26),(4,3),(5,3),(6,3),(7,3),(8,32),(9,32)],0,160⟩:=by kernel_rfl
theorem ty35:tyI Try.prog 35=some ⟨[.ptr 87],false,[],87,8⟩:=by kernel_rfl
theorem ty52:tyI Try.prog 52=some ⟨[.int .i64,.int .i64,.int .i64,.int .i64],true,[(0,3),(1,3),(2,3),(3,3)],0,32⟩:=by kernel_rfl
theorem eq52:eqT Try.prog 52=true:=by kernel_rfl
theorem ty58:tyI Try.prog 58=some ⟨[.int .i64,.int .i64,.bool],true,[(0,3),(1,3),(2,4)],0,24⟩:=by kernel_rfl
theorem eq58:eqT Try.prog 58=true:=by kernel_rfl
theorem ty74:tyI Try.prog 74=some ⟨[.other],false,[],0,8⟩:=by kernel_rfl
theorem mp74:mapE Try.prog 74=some ((.int .i64),4,⟨[.bool],false,[],0,1⟩):=by kernel_rfl
theorem ty87:tyI Try.prog 87=some ⟨[.slice 5,.slice 3],true,[(0,22),(1,32)],0,48⟩:=by kernel_rfl
theorem ty91:tyI Try.prog 91=some ⟨[.slice 5,.slice 3],true,[(0,22),(1,32)],0,48⟩:=by kernel_rfl
theorem tys:type_of% (And.intro (And.intro (And.intro (And.intro @un3 (And.intro @un5 @ty3)) (And.intro @ty4 (And.intro @ty5 @ty22))) (And.intro (And.intro @sl22 (And.intro @ty23 @sl23)) (And.intro @ty24 (And.intro @sl24 @ty26)))) (And.intro (And.intro (And.intro @ty28 (And.intro @ty32 @sl32)) (And.intro @ty34 (And.intro @ty35 @ty52))) (And.intro (And.intro @eq52 (And.intro @ty58 @eq58)) (And.intro (And.intro @ty74 @mp74) (And.intro @ty87 @ty91))))):=(And.intro (And.intro (And.intro (And.intro @un3 (And.intro @un5 @ty3)) (And.intro @ty4 (And.intro @ty5 @ty22))) (And.intro (And.intro @sl22 (And.intro @ty23 @sl23)) (And.intro @ty24 (And.intro @sl24 @ty26)))) (And.intro (And.intro (And.intro @ty28 (And.intro @ty32 @sl32)) (And.intro @ty34 (And.intro @ty35 @ty52))) (And.intro (And.intro @eq52 (And.intro @ty58 @eq58)) (And.intro (And.intro @ty74 @mp74) (And.intro @ty87 @ty91)))))
structure TReloc where
  At:Int
  Len:Int
  Neg:Bool
  deriving DecidableEq,Inhabited
structure TSegment where
  Parent:Int
  Origin:Int
  From:Int
  Len:Int
  deriving DecidableEq,Inhabited
structure TLoad where
  Text:List Int
  Relocs:List TReloc
  Segments:List TSegment
  Entry:Int
  deriving DecidableEq,Inhabited
structure TCase where
  M:TLoad
  Blocks:Int
  At:Int
  Size:Int
  Key:Int
  L:List Int
  Odd:List Int
  deriving DecidableEq,Inhabited
structure TStore where
  b_:List Int
  keys_:List Int
  deriving DecidableEq,Inhabited
structure TStore2 where
  B:List Int
  Keys:List Int
  deriving DecidableEq,Inhabited
def e_Int (x:Int):List C:=[.int x]
def d_Int (c:List C):Int:=(cg c 0).toInt
theorem de_Int (l:List Int):List.map d_Int (List.map e_Int l)=l:=by
  rw [List.map_map];refine (List.map_congr_left fun x _=>?_).trans (List.map_id l)
  show d_Int (e_Int x)=x
  simp only [d_Int,e_Int,cg_zero,cg_succ,C.toBool_bool,C.toInt_int,C.toStr_str,C.toSl_slice]
theorem cg_Int_0 (l:List Int) (i:Nat):(cg (eg (List.map e_Int l) i) 0).toInt=gt l i:=by
  rcases Nat.lt_or_ge i l.length with h | h
  · rw [eg_map _ _ _ h];rfl
  · rw [eg_out _ _ _ h,gt_out _ _ h];rfl
theorem ap_Int (l:List Int) (v0:Int):List.map e_Int l ++ [[.int v0]]=List.map e_Int (l ++ [v0]):=by simp [e_Int]
theorem set_Int_0_1 (l:List Int) (i:Nat) (v0:Int):(List.map e_Int l).set i (spliceR (eg (List.map e_Int l) i) 0 [.int v0])=List.map e_Int (l.set i v0):=by
  refine set_map_of _ _ _ _ fun h=>?_
  rw [eg_map _ _ _ h];rfl
theorem zr_Int (n:Nat):zreps n [.int 0]=List.map e_Int (zreps n 0):=zreps_map rfl
def e_TReloc (x:TReloc):List C:=[.int x.At,.int x.Len,.bool x.Neg]
def d_TReloc (c:List C):TReloc:=(⟨(cg c 0).toInt,(cg c 1).toInt,(cg c 2).toBool⟩:TReloc)
theorem de_TReloc (l:List TReloc):List.map d_TReloc (List.map e_TReloc l)=l:=by
  rw [List.map_map];refine (List.map_congr_left fun x _=>?_).trans (List.map_id l)
  show d_TReloc (e_TReloc x)=x
  simp only [d_TReloc,e_TReloc,cg_zero,cg_succ,C.toBool_bool,C.toInt_int,C.toStr_str,C.toSl_slice]
theorem cg_TReloc_0 (l:List TReloc) (i:Nat):(cg (eg (List.map e_TReloc l) i) 0).toInt=(gt l i).At:=by
  rcases Nat.lt_or_ge i l.length with h | h
  · rw [eg_map _ _ _ h];rfl
  · rw [eg_out _ _ _ h,gt_out _ _ h];rfl
theorem cg_TReloc_1 (l:List TReloc) (i:Nat):(cg (eg (List.map e_TReloc l) i) 1).toInt=(gt l i).Len:=by
  rcases Nat.lt_or_ge i l.length with h | h
  · rw [eg_map _ _ _ h];rfl
  · rw [eg_out _ _ _ h,gt_out _ _ h];rfl
theorem cg_TReloc_2 (l:List TReloc) (i:Nat):(cg (eg (List.map e_TReloc l) i) 2).toBool=(gt l i).Neg:=by
  rcases Nat.lt_or_ge i l.length with h | h
  · rw [eg_map _ _ _ h];rfl
  · rw [eg_out _ _ _ h,gt_out _ _ h];rfl
theorem ap_TReloc (l:List TReloc) (v0:Int) (v1:Int) (v2:Bool):List.map e_TReloc l ++ [[.int v0,.int v1,.bool v2]]=List.map e_TReloc (l ++ [(⟨v0,v1,v2⟩:TReloc)]):=by simp [e_TReloc]
def e_TSegment (x:TSegment):List C:=[.int x.Parent,.int x.Origin,.int x.From,.int x.Len]
def d_TSegment (c:List C):TSegment:=(⟨(cg c 0).toInt,(cg c 1).toInt,(cg c 2).toInt,(cg c 3).toInt⟩:TSegment)
theorem de_TSegment (l:List TSegment):List.map d_TSegment (List.map e_TSegment l)=l:=by
  rw [List.map_map];refine (List.map_congr_left fun x _=>?_).trans (List.map_id l)
  show d_TSegment (e_TSegment x)=x
  simp only [d_TSegment,e_TSegment,cg_zero,cg_succ,C.toBool_bool,C.toInt_int,C.toStr_str,C.toSl_slice]
theorem cg_TSegment_0 (l:List TSegment) (i:Nat):(cg (eg (List.map e_TSegment l) i) 0).toInt=(gt l i).Parent:=by
  rcases Nat.lt_or_ge i l.length with h | h
  · rw [eg_map _ _ _ h];rfl
  · rw [eg_out _ _ _ h,gt_out _ _ h];rfl
theorem cg_TSegment_1 (l:List TSegment) (i:Nat):(cg (eg (List.map e_TSegment l) i) 1).toInt=(gt l i).Origin:=by
  rcases Nat.lt_or_ge i l.length with h | h
  · rw [eg_map _ _ _ h];rfl
  · rw [eg_out _ _ _ h,gt_out _ _ h];rfl
theorem cg_TSegment_2 (l:List TSegment) (i:Nat):(cg (eg (List.map e_TSegment l) i) 2).toInt=(gt l i).From:=by
  rcases Nat.lt_or_ge i l.length with h | h
  · rw [eg_map _ _ _ h];rfl
  · rw [eg_out _ _ _ h,gt_out _ _ h];rfl
theorem cg_TSegment_3 (l:List TSegment) (i:Nat):(cg (eg (List.map e_TSegment l) i) 3).toInt=(gt l i).Len:=by
  rcases Nat.lt_or_ge i l.length with h | h
  · rw [eg_map _ _ _ h];rfl
  · rw [eg_out _ _ _ h,gt_out _ _ h];rfl
theorem ap_TSegment (l:List TSegment) (v0:Int) (v1:Int) (v2:Int) (v3:Int):List.map e_TSegment l ++ [[.int v0,.int v1,.int v2,.int v3]]=List.map e_TSegment (l ++ [(⟨v0,v1,v2,v3⟩:TSegment)]):=by simp [e_TSegment]
def e_Bool (x:Bool):List C:=[.bool x]
def d_Bool (c:List C):Bool:=(cg c 0).toBool
theorem de_Bool (l:List Bool):List.map d_Bool (List.map e_Bool l)=l:=by
  rw [List.map_map];refine (List.map_congr_left fun x _=>?_).trans (List.map_id l)
  show d_Bool (e_Bool x)=x
  simp only [d_Bool,e_Bool,cg_zero,cg_succ,C.toBool_bool,C.toInt_int,C.toStr_str,C.toSl_slice]
theorem cg_Bool_0 (l:List Bool) (i:Nat):(cg (eg (List.map e_Bool l) i) 0).toBool=gt l i:=by
  rcases Nat.lt_or_ge i l.length with h | h
  · rw [eg_map _ _ _ h];rfl
  · rw [eg_out _ _ _ h,gt_out _ _ h];rfl
theorem ap_Bool (l:List Bool) (v0:Bool):List.map e_Bool l ++ [[.bool v0]]=List.map e_Bool (l ++ [v0]):=by simp [e_Bool]
theorem eta_TReloc (x:TReloc):(⟨x.At,x.Len,x.Neg⟩:TReloc)=x:=rfl
theorem eta_TSegment (x:TSegment):(⟨x.Parent,x.Origin,x.From,x.Len⟩:TSegment)=x:=rfl
theorem eta_TLoad (x:TLoad):(⟨x.Text,x.Relocs,x.Segments,x.Entry⟩:TLoad)=x:=rfl
theorem eta_TCase (x:TCase):(⟨x.M,x.Blocks,x.At,x.Size,x.Key,x.L,x.Odd⟩:TCase)=x:=rfl
theorem eta_TStore (x:TStore):(⟨x.b_,x.keys_⟩:TStore)=x:=rfl
theorem eta_TStore2 (x:TStore2):(⟨x.B,x.Keys⟩:TStore2)=x:=rfl
def em_Int_Bool (p:Int×Bool):C×List C:=(.int p.1,e_Bool p.2)
theorem mg_Int_Bool (k:Int) (m:List (Int×Bool)):mget (.int .i64) (.int k) (List.map em_Int_Bool m)=(tget k m).map e_Bool:=by
  induction m with
  | nil=>rfl
  | cons p m ih =>
    simp only [List.map_cons,mget,mset,mdel,tget,tset,tdel,em_Int_Bool,keyEq,C.toStr_str,C.toInt_int] at ih ⊢
    split <;> simp_all
theorem ms_Int_Bool (k:Int) (m:List (Int×Bool)) (v:Bool):mset (.int .i64) (.int k) (e_Bool v) (List.map em_Int_Bool m)=List.map em_Int_Bool (tset k v m):=by
  induction m with
  | nil=>rfl
  | cons p m ih =>
    simp only [List.map_cons,mget,mset,mdel,tget,tset,tdel,em_Int_Bool,keyEq,C.toStr_str,C.toInt_int] at ih ⊢
    split <;> simp_all [em_Int_Bool]
theorem md_Int_Bool (k:Int) (m:List (Int×Bool)):mdel (.int .i64) (.int k) (List.map em_Int_Bool m)=List.map em_Int_Bool (tdel k m):=by
  induction m with
  | nil=>rfl
  | cons p m ih =>
    simp only [List.map_cons,mget,mset,mdel,tget,tset,tdel,em_Int_Bool,keyEq,C.toStr_str,C.toInt_int] at ih ⊢
    split <;> simp_all [em_Int_Bool]
theorem mk_Int_Bool (p:Int×Bool):(em_Int_Bool p).1 = .int p.1:=rfl
theorem mv_Int_Bool_0 (p:Int×Bool):(cg (em_Int_Bool p).2 0).toBool=p.2:=rfl
theorem ms1_Int_Bool (k:Int) (m:List (Int×Bool)) (v0:Bool):mset (.int .i64) (.int k) [.bool v0] (List.map em_Int_Bool m)=List.map em_Int_Bool (tset k v0 m):=ms_Int_Bool k m v0
theorem mc_Int_Bool_0 (o:Option Bool):(cg ((o.map e_Bool).getD [.bool false]) 0).toBool=(o.getD default):=by cases o <;> rfl
theorem mi_Int_Bool (o:Option Bool):(o.map e_Bool).isSome=o.isSome:=by cases o <;> rfl
theorem tl:type_of% (And.intro (And.intro (And.intro (And.intro (And.intro @de_Int @e_Int.eq_1) (And.intro @d_Int.eq_1 (And.intro @cg_Int_0 @ap_Int))) (And.intro (And.intro @set_Int_0_1 @zr_Int) (And.intro @de_TReloc (And.intro @e_TReloc.eq_1 @d_TReloc.eq_1)))) (And.intro (And.intro (And.intro @cg_TReloc_0 @cg_TReloc_1) (And.intro @cg_TReloc_2 (And.intro @ap_TReloc @de_TSegment))) (And.intro (And.intro @e_TSegment.eq_1 @d_TSegment.eq_1) (And.intro @cg_TSegment_0 (And.intro @cg_TSegment_1 @cg_TSegment_2))))) (And.intro (And.intro (And.intro (And.intro @cg_TSegment_3 @ap_TSegment) (And.intro @de_Bool (And.intro @e_Bool.eq_1 @d_Bool.eq_1))) (And.intro (And.intro @cg_Bool_0 @ap_Bool) (And.intro @eta_TReloc (And.intro @eta_TSegment @eta_TLoad)))) (And.intro (And.intro (And.intro @eta_TCase @eta_TStore) (And.intro @eta_TStore2 (And.intro @mg_Int_Bool @md_Int_Bool))) (And.intro (And.intro @mk_Int_Bool @mv_Int_Bool_0) (And.intro @ms1_Int_Bool (And.intro @mc_Int_Bool_0 @mi_Int_Bool)))))):=(And.intro (And.intro (And.intro (And.intro (And.intro @de_Int @e_Int.eq_1) (And.intro @d_Int.eq_1 (And.intro @cg_Int_0 @ap_Int))) (And.intro (And.intro @set_Int_0_1 @zr_Int) (And.intro @de_TReloc (And.intro @e_TReloc.eq_1 @d_TReloc.eq_1)))) (And.intro (And.intro (And.intro @cg_TReloc_0 @cg_TReloc_1) (And.intro @cg_TReloc_2 (And.intro @ap_TReloc @de_TSegment))) (And.intro (And.intro @e_TSegment.eq_1 @d_TSegment.eq_1) (And.intro @cg_TSegment_0 (And.intro @cg_TSegment_1 @cg_TSegment_2))))) (And.intro (And.intro (And.intro (And.intro @cg_TSegment_3 @ap_TSegment) (And.intro @de_Bool (And.intro @e_Bool.eq_1 @d_Bool.eq_1))) (And.intro (And.intro @cg_Bool_0 @ap_Bool) (And.intro @eta_TReloc (And.intro @eta_TSegment @eta_TLoad)))) (And.intro (And.intro (And.intro @eta_TCase @eta_TStore) (And.intro @eta_TStore2 (And.intro @mg_Int_Bool @md_Int_Bool))) (And.intro (And.intro @mk_Int_Bool @mv_Int_Bool_0) (And.intro @ms1_Int_Bool (And.intro @mc_Int_Bool_0 @mi_Int_Bool))))))
theorem z:type_of% (And.intro (And.intro ev ew) (And.intro tys tl)):=(And.intro (And.intro ev ew) (And.intro tys tl))
end Go.Proofs.Ytcbcdjincgclaaa
