/- Text. -/
import Derived.Test.YtijnkhcfondehaaGreatDoorT
import Derived.Test.YtijnkhcfondehaaGreatDoorL92
import Derived.Test.YtijnkhcfondehaaGreatDoorN2
import Derived.Test.YtijnkhcfondehaaGreatDoorJ
set_option maxHeartbeats 8000000
set_option linter.unusedVariables false
set_option linter.unusedSimpArgs false
set_option maxRecDepth 100000
open _root_.Bool renaming not_false→Jh,not_true→jT,false_eq_true→jn
open _root_.Int renaming tmod→JC
open Go.IntKind renaming wrap→jc,bits→JG
open _root_.Nat renaming le_of_ble_eq_true→jp
open _root_.Option renaming getD→jJ
open Go.AE.Sm renaming ret→jF,seqK→jA,skip→jD,cut→Jz,block→jR,loopB→Jq,exit→JE
open Go.Proofs.Tryz renaming prog→jd
namespace Go.Proofs.YtijnkhcfondehaaGreatDoor
open Go.AE
def vtoc_in (n:Nat) (n_:Int) (lo:Int) (hi:Int):Option Bool :=
  some (if (decide (lo≤n_))=true then (decide (n_≤hi)) else false)
def xvtoc_in (n:Nat):Go.AE.Fn:=mkFn (A:=Int×Int×Int) (R:=Bool) 67 [(false,[.int .i64]),(false,[.int .i64]),(false,[.int .i64])] false (fun xs=>((cg (xs.getD 0 []) 0).toInt,(cg (xs.getD 1 []) 0).toInt,(cg (xs.getD 2 []) 0).toInt)) (fun a=>[[.int a.1],[.int a.2.1],[.int a.2.2]]) (fun a=>vtoc_in n a.1 a.2.1 a.2.2) (fun r=>[.c .bool (.bool r)]) (fun r=>[])
theorem cvtoc_in (n:Nat):Contract jd (xvtoc_in n):=by
  have hΓ:=@g0 (Contract jd)
  refine contract_f (Tryz.f67.body.getD .skip) h00 Tryz.func67 rfl Tryz.call67 (by decide) (by intro _ r;exact ⟨rfl,by simp⟩) ?_
  rintro ⟨n_,lo,hi⟩ r H
  try dsimp only at H
  unfold vtoc_in at H
  simp only [Tryz.f67,jJ]
  refine rA ?_
  refine rA ?_
  refine jF ?_
  refine lf ?_
  obtain rfl:=Option.some.inj H
  exact rt []
abbrev vtoc_Name_s1:S:=stB [] []
def vtoc_Name_k1 (n:Nat):Option Bool :=
  some true
abbrev vtoc_Name_t2 (v9:List (List UInt8)) (v10:Int) (v11:Int):S:=stB [(9,.own 9001 [.str] 0 v9.length),(10,.c (.int .i64) (.int v10)),(11,.c (.int .i64) (.int v11))] [(9001,.row 9 (List.map e_Str v9))]
def vtoc_Name_b2 (n:Nat) (v9:List (List UInt8)) (v10:Int) (v11:Int):Option ((Int) ⊕ (((Bool) ⊕ (Unit)))) :=
  bif (decide (v11 < v10)) then
    gd ((0≤v11∧v11 < (v9.length:Int))∧(Int.toNat v11) < v9.length) <|
    gd (((!(if (decide (((gt v9 (Int.toNat v11)).length:Int) < 1))=true then true else (decide (((gt v9 (Int.toNat v11)).length:Int) > 8))))=true→0 < ((gt v9 (Int.toNat v11)).length:Int))∧(((!(if (decide (((gt v9 (Int.toNat v11)).length:Int) < 1))=true then true else (decide (((gt v9 (Int.toNat v11)).length:Int) > 8)))) && (decide (((((gt v9 (Int.toNat v11)).getD 0 0).toNat:Nat):Int) ≥ 48)))=true→0 < ((gt v9 (Int.toNat v11)).length:Int))) <|
    bif (if (if (decide (((gt v9 (Int.toNat v11)).length:Int) < 1))=true then true else (decide (((gt v9 (Int.toNat v11)).length:Int) > 8)))=true then true else (if (decide (((((gt v9 (Int.toNat v11)).getD 0 0).toNat:Nat):Int) ≥ 48))=true then (decide (((((gt v9 (Int.toNat v11)).getD 0 0).toNat:Nat):Int)≤57)) else false)) then
      some (.inr (.inl false))
    else
      (strings_Trim n (gt v9 (Int.toNat v11)) [65,66,67,68,69,70,71,72,73,74,75,76,77,78,79,80,81,82,83,84,85,86,87,88,89,90,48,49,50,51,52,53,54,55,56,57,64,35,36]).bind fun r2 =>
      bif (r2 != []) then
        some (.inr (.inl false))
      else
        some (.inl (jc .i64 (v11+1)))
  else
    some (.inr (.inr ()))
def vtoc_Name (n:Nat) (s:List UInt8):Option Bool :=
  bif (decide ((s.length:Int) > 44)) then
    some false
  else
    (strings_Split n s [46]).bind fun r1 =>
    (loopF (fun (x:Int)=>vtoc_Name_b2 n r1 ((r1.length:Nat):Int) x) n 0).bind fun y8 =>
    match y8 with
    | .inl vv =>
      some vv
    | .inr vv =>
      vtoc_Name_k1 n
def xvtoc_Name (n:Nat):Go.AE.Fn:=mkFn (A:=(List UInt8)) (R:=Bool) 17 [(false,[.str])] false (fun xs=>(cg (xs.getD 0 []) 0).toStr) (fun a=>[[.str a]]) (fun a=>vtoc_Name n a) (fun r=>[.c .bool (.bool r)]) (fun r=>[])
theorem cvtoc_Name (n:Nat):Contract jd (xvtoc_Name n):=by
  have hΓ:=g1 (cstrings_Split n) (g1 (cstrings_Trim n) (@g0 (Contract jd)))
  have qe:=aI @xstrings_Split.eq_1 @xstrings_Trim.eq_1
  refine contract_f (Tryz.f17.body.getD .skip) h00 Tryz.func17 rfl Tryz.call17 (by decide) (by intro _ r;exact ⟨rfl,by simp⟩) ?_
  rintro s r H
  try dsimp only at H
  unfold vtoc_Name at H
  simp only [Tryz.f17,jJ]
  refine rA ?_
  refine jA fun K2 hK2=>?_
  refine rA ?_
  refine cnd H (fun h4 H=>?_) (fun h4 H=>?_)
  · refine rA ?_
    refine jF ?_
    refine lf ?_
    obtain rfl:=Option.some.inj H
    exact rt []
  refine jD ?_
  refine hK2 _ ?_
  refine Jz (fun (x:Unit)=>vtoc_Name_s1) (fun x=>vtoc_Name_k1 n=some r) ?_ ?_
  · obtain ⟨r1,hr1,H⟩:=bind_some H
    have q:=aI qe hr1
    refine rAq ?_
    refine jR ?_
    obtain ⟨y8,hy8,Ho8⟩:=bind_some H
    refine Jq _ (fun x=>vtoc_Name_t2 r1 ((r1.length:Nat):Int) x) hy8 (wb [some 144]) ?_
    rintro v11 z8 H
    try dsimp only at H
    unfold vtoc_Name_b2 at H
    refine Sm.st (vtoc_Name_t2.eq_1 ..) ?_
    refine rA ?_
    refine jA fun K10 hK10=>?_
    refine cnd H (fun h11 H=>?_) (fun h11 H=>?_)
    · refine jD ?_
      refine hK10 _ ?_
      refine jA fun K12 hK12=>?_
      refine jR ?_
      obtain ⟨⟨hg23,hg24⟩,H⟩:=gd_some H
      refine rA ?_
      refine jA fun K14 hK14=>?_
      obtain ⟨⟨hg21,hg22⟩,H⟩:=gd_some H
      refine rA ?_
      refine cnd H (fun h16 H=>?_) (fun h16 H=>?_)
      · refine rA ?_
        refine jF ?_
        refine lf ?_
        refine lx H fun hyy=>?_
        subst hyy
        have H:=Ho8
        try dsimp only at H
        refine lf ?_
        obtain rfl:=Option.some.inj H
        exact rt []
      refine jD ?_
      refine hK14 _ ?_
      obtain ⟨r2,hr2,H⟩:=bind_some H
      have q:=aI qe hr2
      refine rAq ?_
      refine cnd H (fun h19 H=>?_) (fun h19 H=>?_)
      · refine rA ?_
        refine jF ?_
        refine lf ?_
        refine lx H fun hyy=>?_
        subst hyy
        have H:=Ho8
        try dsimp only at H
        refine lf ?_
        obtain rfl:=Option.some.inj H
        exact rt []
      refine jD ?_
      refine hK12 _ ?_
      refine eA ?_
      refine lf ?_
      exact nx H (wb [some 9001])
    refine JE ?_
    refine lf ?_
    refine lx H fun hyy=>?_
    subst hyy
    have H:=Ho8
    try dsimp only at H
    refine lf ?_
    exact ⟨(),H,wb []⟩
  rintro ⟨⟩ H
  try dsimp only at H
  unfold vtoc_Name_k1 at H
  refine Sm.st (vtoc_Name_s1.eq_1 ..) ?_
  refine rA ?_
  refine jF ?_
  refine lf ?_
  obtain rfl:=Option.some.inj H
  exact rt []
def vtoc_described (n:Nat) (d:TDcb):Option Bool :=
  (vtoc_in n d.Org 1 3).bind fun r1 =>
  gd ((r1=true→(vtoc_in n d.Format 1 3).isSome=true)∧((if r1=true then ((vtoc_in n d.Format 1 3).getD default) else false)=true→(vtoc_in n d.Lrecl 0 1024).isSome=true)∧((if (if r1=true then ((vtoc_in n d.Format 1 3).getD default) else false)=true then ((vtoc_in n d.Lrecl 0 1024).getD default) else false)=true→(vtoc_in n d.Blksize 0 1024).isSome=true)∧((if (if (if r1=true then ((vtoc_in n d.Format 1 3).getD default) else false)=true then ((vtoc_in n d.Lrecl 0 1024).getD default) else false)=true then ((vtoc_in n d.Blksize 0 1024).getD default) else false)=true→(vtoc_in n d.KeyPos 0 1024).isSome=true)∧((if (if (if (if r1=true then ((vtoc_in n d.Format 1 3).getD default) else false)=true then ((vtoc_in n d.Lrecl 0 1024).getD default) else false)=true then ((vtoc_in n d.Blksize 0 1024).getD default) else false)=true then ((vtoc_in n d.KeyPos 0 1024).getD default) else false)=true→(vtoc_in n d.KeyLen 0 64).isSome=true)) <|
  some (if (if (if (if (if r1=true then ((vtoc_in n d.Format 1 3).getD default) else false)=true then ((vtoc_in n d.Lrecl 0 1024).getD default) else false)=true then ((vtoc_in n d.Blksize 0 1024).getD default) else false)=true then ((vtoc_in n d.KeyPos 0 1024).getD default) else false)=true then ((vtoc_in n d.KeyLen 0 64).getD default) else false)
def xvtoc_described (n:Nat):Go.AE.Fn:=mkFn (A:=TDcb) (R:=Bool) 84 [(true,[.int .i64,.int .i64,.bool,.bool,.int .i64,.int .i64,.int .i64,.int .i64])] false (fun xs=>(⟨(cg (xs.getD 0 []) 0).toInt,(cg (xs.getD 0 []) 1).toInt,(cg (xs.getD 0 []) 2).toBool,(cg (xs.getD 0 []) 3).toBool,(cg (xs.getD 0 []) 4).toInt,(cg (xs.getD 0 []) 5).toInt,(cg (xs.getD 0 []) 6).toInt,(cg (xs.getD 0 []) 7).toInt⟩:TDcb)) (fun a=>[[.int a.Org,.int a.Format,.bool a.Blocked,.bool a.Asa,.int a.Lrecl,.int a.Blksize,.int a.KeyLen,.int a.KeyPos]]) (fun a=>vtoc_described n a) (fun r=>[.c .bool (.bool r)]) (fun r=>[])
theorem cvtoc_described (n:Nat):Contract jd (xvtoc_described n):=by
  have hΓ:=g1 (cvtoc_in n) (@g0 (Contract jd))
  refine contract_f (Tryz.f84.body.getD .skip) h00 Tryz.func84 rfl Tryz.call84 (by decide) (by intro _ r;exact ⟨rfl,by simp⟩) ?_
  rintro d r H
  try dsimp only at H
  unfold vtoc_described at H
  simp only [Tryz.f84,jJ]
  refine rA ?_
  obtain ⟨r1,hr1,H⟩:=bind_some H
  obtain ⟨⟨hg3,hg4,hg5,hg6,hg7⟩,H⟩:=gd_some H
  have q:=aI @xvtoc_in.eq_1 hr1
  refine rAq ?_
  refine jF ?_
  refine lf ?_
  obtain rfl:=Option.some.inj H
  exact rt []
def extent_valid (n:Nat) (x_:TExtent):Option Bool :=
  some (if (if (if (decide (x_.At ≥ 0))=true then (decide (x_.Len ≥ 1)) else false)=true then (decide (x_.At < 512)) else false)=true then (decide (x_.Len≤(jc .i64 (512 - x_.At)))) else false)
def xextent_valid (n:Nat):Go.AE.Fn:=mkFn (A:=TExtent) (R:=Bool) 125 [(true,[.int .i64,.int .i64])] false (fun xs=>(⟨(cg (xs.getD 0 []) 0).toInt,(cg (xs.getD 0 []) 1).toInt⟩:TExtent)) (fun a=>[[.int a.At,.int a.Len]]) (fun a=>extent_valid n a) (fun r=>[.c .bool (.bool r)]) (fun r=>[])
theorem cextent_valid (n:Nat):Contract jd (xextent_valid n):=by
  have hΓ:=@g0 (Contract jd)
  refine contract_f (Tryz.f125.body.getD .skip) h00 Tryz.func125 rfl Tryz.call125 (by decide) (by intro _ r;exact ⟨rfl,by simp⟩) ?_
  rintro x_ r H
  try dsimp only at H
  unfold extent_valid at H
  simp only [Tryz.f125,jJ]
  refine rA ?_
  refine rA ?_
  refine jF ?_
  refine lf ?_
  obtain rfl:=Option.some.inj H
  exact rt []
def slices_Clone_f118 (n:Nat) (s:List TExtent):Option (List TExtent) :=
  uniB s fun nb1 =>
  bif nb1 then
    some []
  else
    gd (s.length≤2147483648) <|
    some s
def xslices_Clone_f118 (n:Nat):Go.AE.Fn:=mkFn (A:=(List TExtent)) (R:=(List TExtent)) 118 [(false,[.slice 80])] false (fun xs=>((cg (xs.getD 0 []) 0).toSl.map d_TExtent)) (fun a=>[[.slice (List.map e_TExtent a)]]) (fun a=>slices_Clone_f118 n a) (fun r=>[.own 0 [.int .i64,.int .i64] 0 r.length]) (fun r=>[.row 80 (List.map e_TExtent r)])
theorem cslices_Clone_f118 (n:Nat):Contract jd (xslices_Clone_f118 n):=by
  have hΓ:=@g0 (Contract jd)
  refine contract_f (Tryz.f118.body.getD .skip) h00 Tryz.func118 rfl Tryz.call118 (by decide) (fun _ r=>⟨rfl,m1 ⟨80,_,_,rfl,ty80,rfl⟩ m0⟩) ?_
  rintro s r H
  try dsimp only at H
  unfold slices_Clone_f118 at H
  simp only [Tryz.f118,jJ]
  refine rA ?_
  refine jA fun K2 hK2=>?_
  refine sX fun K3 hK3=>?_
  refine oX ?_
  refine opsN fun K hK=>?_;simp only [z,seval];(repeat (first | refine gcI ?_ | refine fun (_:_≤_)=>?_));intro nb1 hnb1;refine hK _ ?_;clear hK K
  replace H:=uniB_some H nb1 (fun hb=>by simpa using hnb1 hb)
  refine hK3 _ ?_
  refine cnd H (fun h4 H=>?_) (fun h4 H=>?_)
  · refine rA ?_
    refine jF ?_
    refine lf ?_
    obtain rfl:=Option.some.inj H
    exact rto [none]
  refine jD ?_
  refine hK2 _ ?_
  obtain ⟨hg7,H⟩:=gd_some H
  refine rA ?_
  refine jF ?_
  refine lf ?_
  obtain rfl:=Option.some.inj H
  exact rto [some 112]
def cmp_isNaN_f197 (n:Nat) (x_:Int):Option Bool :=
  some (x_ != x_)
def cmp_Compare_f166 (n:Nat) (x_:Int) (y:Int):Option Int :=
  (cmp_isNaN_f197 n x_).bind fun r1 =>
  (cmp_isNaN_f197 n y).bind fun r2 =>
  bif r1 then
    bif r2 then
      some 0
    else
      some (-1)
  else
    bif r2 then
      some 1
    else
      bif (decide (x_ < y)) then
        some (-1)
      else
        bif (decide (x_ > y)) then
          some 1
        else
          some 0
def extent_sorted_1 (n:Nat) (a:TExtent) (b:TExtent):Option Int :=
  (cmp_Compare_f166 n a.At b.At).bind fun r1 =>
  some r1
def slices_SortFunc_f164_c165 (n:Nat) (s:List TExtent):Option (List TExtent):=sortG (fun x y=>extent_sorted_1 n x y) s
theorem cslices_SortFunc_f164_c165 (n:Nat) (s:List TExtent) (r:List TExtent) (H:slices_SortFunc_f164_c165 n s=some r):CallsM jd 164 [.ref (.own 0 [.int .i64,.int .i64] 0 s.length),.ref (.fnv 165 [])] [.row 80 (List.map e_TExtent s)] [] [.row 80 (List.map e_TExtent r)] :=
  callsM_sortG lay164 ty80 Tryz.isAgg80 Tryz.sizeOf80 (by decide) (by decide) (by intro args w;exact Tryz.call165 args w) e_TExtent (fun _=>rfl) (fun x y=>extent_sorted_1 n x y) (fun x y c h=>raw165 _ _ _ _ _ (by
    simp only [extent_sorted_1,cmp_Compare_f166,cmp_isNaN_f197,Option.bind_some,bne_self_eq_false,cond_false,gt_iff_lt] at h
    by_cases h1:x.At < y.At <;> by_cases h2:y.At < x.At <;> simp [h1,h2] at h ⊢ <;> first | exact h.symm | omega)) s r H
def extent_sorted (n:Nat) (l:List TExtent):Option (List TExtent) :=
  (slices_Clone_f118 n l).bind fun r1 =>
  (slices_SortFunc_f164_c165 n r1).bind fun r2 =>
  some (List.take r1.length r2)
def xextent_sorted (n:Nat):Go.AE.Fn:=mkFn (A:=(List TExtent)) (R:=(List TExtent)) 126 [(false,[.slice 80])] true (fun xs=>((cg (xs.getD 0 []) 0).toSl.map d_TExtent)) (fun a=>[[.slice (List.map e_TExtent a)]]) (fun a=>extent_sorted n a) (fun r=>[.c (.slice 80) (.slice (List.map e_TExtent r))]) (fun r=>[])
theorem cextent_sorted (n:Nat):Contract jd (xextent_sorted n):=by
  have hΓ:=g1 (cslices_Clone_f118 n) (@g0 (Contract jd))
  refine contract_f (Tryz.f126.body.getD .skip) h00 Tryz.func126 rfl Tryz.call126 (by decide) (by intro h;cases h) ?_
  rintro l r H
  try dsimp only at H
  unfold extent_sorted at H
  simp only [Tryz.f126,jJ]
  refine rA ?_
  obtain ⟨r1,hr1,H⟩:=bind_some H
  have q:=aI @xslices_Clone_f118.eq_1 hr1
  refine rAq ?_
  refine sX fun K3 hK3=>?_
  obtain ⟨r2,hr2,H⟩:=bind_some H
  have q:=hr2
  refine oX ?_
  refine oMq (cslices_SortFunc_f164_c165 n _ r2 hr2) [80] [] ?_
  refine hK3 _ ?_
  refine rA ?_
  refine jF ?_
  refine lf ?_
  obtain rfl:=Option.some.inj H
  exact rt []
abbrev extent_Valid_s2:S:=stB [] []
def extent_Valid_k2 (n:Nat):Option Bool :=
  some true
abbrev extent_Valid_t3 (s:List TExtent) (i:Int):S:=stB [(5,.c (.slice 80) (.slice (List.map e_TExtent s))),(6,.c (.int .i64) (.int i))] []
def extent_Valid_b3 (n:Nat) (s:List TExtent) (i:Int):Option ((Int) ⊕ (((Bool) ⊕ (Unit)))) :=
  bif (decide (i < (s.length:Int))) then
    gd ((0≤i∧i < (s.length:Int))∧(0≤(jc .i64 (i - 1))∧(jc .i64 (i - 1)) < (s.length:Int))∧(0≤(jc .i64 (i - 1))∧(jc .i64 (i - 1)) < (s.length:Int))) <|
    bif (decide (((gt s (Int.toNat i)).At) < (jc .i64 (((gt s (Int.toNat (jc .i64 (i - 1)))).At)+((gt s (Int.toNat (jc .i64 (i - 1)))).Len))))) then
      some (.inr (.inl false))
    else
      some (.inl (jc .i64 (i+1)))
  else
    some (.inr (.inr ()))
abbrev extent_Valid_s1 (l:List TExtent):S:=stB [(0,.c (.slice 80) (.slice (List.map e_TExtent l)))] []
def extent_Valid_k1 (n:Nat) (l:List TExtent):Option Bool :=
  (extent_sorted n l).bind fun r1 =>
  (loopF (fun (x:Int)=>extent_Valid_b3 n r1 x) n 1).bind fun y9 =>
  match y9 with
  | .inl vv =>
    some vv
  | .inr vv =>
    extent_Valid_k2 n
abbrev extent_Valid_t4 (l:List TExtent) (v11:Int) (v12:Int):S:=stB [(0,.c (.slice 80) (.slice (List.map e_TExtent l))),(10,.c (.slice 80) (.slice (List.map e_TExtent l))),(11,.c (.int .i64) (.int v11)),(12,.c (.int .i64) (.int v12))] []
def extent_Valid_b4 (n:Nat) (l:List TExtent) (v11:Int) (v12:Int):Option ((Int) ⊕ (((Bool) ⊕ (Unit)))) :=
  bif (decide (v12 < v11)) then
    gd ((0≤v12∧v12 < (l.length:Int))) <|
    (extent_valid n (gt l (Int.toNat v12))).bind fun r2 =>
    bif (!r2) then
      some (.inr (.inl false))
    else
      some (.inl (jc .i64 (v12+1)))
  else
    some (.inr (.inr ()))
def extent_Valid (n:Nat) (l:List TExtent):Option Bool :=
  bif (decide ((l.length:Int) > 512)) then
    some false
  else
    (loopF (fun (x:Int)=>extent_Valid_b4 n l (l.length:Int) x) n 0).bind fun y21 =>
    match y21 with
    | .inl vv =>
      some vv
    | .inr vv =>
      extent_Valid_k1 n l
def xextent_Valid (n:Nat):Go.AE.Fn:=mkFn (A:=(List TExtent)) (R:=Bool) 69 [(false,[.slice 80])] false (fun xs=>((cg (xs.getD 0 []) 0).toSl.map d_TExtent)) (fun a=>[[.slice (List.map e_TExtent a)]]) (fun a=>extent_Valid n a) (fun r=>[.c .bool (.bool r)]) (fun r=>[])
theorem cextent_Valid (n:Nat):Contract jd (xextent_Valid n):=by
  have hΓ:=g1 (cextent_valid n) (g1 (cextent_sorted n) (@g0 (Contract jd)))
  have qe:=aI @xextent_valid.eq_1 @xextent_sorted.eq_1
  refine contract_f (Tryz.f69.body.getD .skip) h00 Tryz.func69 rfl Tryz.call69 (by decide) (by intro _ r;exact ⟨rfl,by simp⟩) ?_
  rintro l r H
  try dsimp only at H
  unfold extent_Valid at H
  simp only [Tryz.f69,jJ]
  refine rA ?_
  refine jA fun K2 hK2=>?_
  refine rA ?_
  refine cnd H (fun h4 H=>?_) (fun h4 H=>?_)
  · refine rA ?_
    refine jF ?_
    refine lf ?_
    obtain rfl:=Option.some.inj H
    exact rt []
  refine jD ?_
  refine hK2 _ ?_
  refine Jz (fun (x:Unit)=>extent_Valid_s1 l) (fun x=>extent_Valid_k1 n l=some r) ?_ ?_
  · refine rA ?_
    refine jR ?_
    obtain ⟨y21,hy21,Ho21⟩:=bind_some H
    refine Jq _ (fun x=>extent_Valid_t4 l (l.length:Int) x) hy21 (wb []) ?_
    rintro v12 z21 H
    try dsimp only at H
    unfold extent_Valid_b4 at H
    refine Sm.st (extent_Valid_t4.eq_1 ..) ?_
    refine rA ?_
    refine jA fun K23 hK23=>?_
    refine cnd H (fun h24 H=>?_) (fun h24 H=>?_)
    · refine jD ?_
      refine hK23 _ ?_
      refine jA fun K25 hK25=>?_
      refine jR ?_
      obtain ⟨hg30,H⟩:=gd_some H
      refine rA ?_
      obtain ⟨r2,hr2,H⟩:=bind_some H
      have q:=aI qe hr2
      refine rAq ?_
      refine cnd H (fun h28 H=>?_) (fun h28 H=>?_)
      · refine rA ?_
        refine jF ?_
        refine lf ?_
        refine lx H fun hyy=>?_
        subst hyy
        have H:=Ho21
        try dsimp only at H
        refine lf ?_
        obtain rfl:=Option.some.inj H
        exact rt []
      refine jD ?_
      refine hK25 _ ?_
      refine eA ?_
      refine lf ?_
      exact nx H (wb [])
    refine JE ?_
    refine lf ?_
    refine lx H fun hyy=>?_
    subst hyy
    have H:=Ho21
    try dsimp only at H
    refine lf ?_
    exact ⟨(),H,wb []⟩
  rintro ⟨⟩ H
  try dsimp only at H
  unfold extent_Valid_k1 at H
  refine Sm.st (extent_Valid_s1.eq_1 ..) ?_
  obtain ⟨r1,hr1,H⟩:=bind_some H
  have q:=aI qe hr1
  refine rAq ?_
  refine Jz (fun (x:Unit)=>extent_Valid_s2) (fun x=>extent_Valid_k2 n=some r) ?_ ?_
  · refine rA ?_
    refine jR ?_
    obtain ⟨y9,hy9,Ho9⟩:=bind_some H
    refine Jq _ (fun x=>extent_Valid_t3 r1 x) hy9 (wb []) ?_
    rintro i z9 H
    try dsimp only at H
    unfold extent_Valid_b3 at H
    refine Sm.st (extent_Valid_t3.eq_1 ..) ?_
    refine jA fun K10 hK10=>?_
    refine rA ?_
    refine cnd H (fun h12 H=>?_) (fun h12 H=>?_)
    · refine jD ?_
      refine hK10 _ ?_
      refine jA fun K13 hK13=>?_
      refine jR ?_
      obtain ⟨⟨hg17,hg18,hg19⟩,H⟩:=gd_some H
      refine rD ?_
      refine cnd H (fun h15 H=>?_) (fun h15 H=>?_)
      · refine rA ?_
        refine jF ?_
        refine lf ?_
        refine lx H fun hyy=>?_
        subst hyy
        have H:=Ho9
        try dsimp only at H
        refine lf ?_
        obtain rfl:=Option.some.inj H
        exact rt []
      refine jD ?_
      refine hK13 _ ?_
      refine eA ?_
      refine lf ?_
      exact nx H (wb [])
    refine JE ?_
    refine lf ?_
    refine lx H fun hyy=>?_
    subst hyy
    have H:=Ho9
    try dsimp only at H
    refine lf ?_
    exact ⟨(),H,wb []⟩
  rintro ⟨⟩ H
  try dsimp only at H
  unfold extent_Valid_k2 at H
  refine Sm.st (extent_Valid_s2.eq_1 ..) ?_
  refine rA ?_
  refine jF ?_
  refine lf ?_
  obtain rfl:=Option.some.inj H
  exact rt []
abbrev extent_Total_s1 (n_:Int):S:=stB [(3,.c (.int .i64) (.int n_))] []
def extent_Total_k1 (n:Nat) (n_:Int):Option Int :=
  some n_
abbrev extent_Total_t2 (l:List TExtent) (v10:Int) (n__1:Int) (v11:Int):S:=stB [(3,.c (.int .i64) (.int n__1)),(9,.c (.slice 80) (.slice (List.map e_TExtent l))),(10,.c (.int .i64) (.int v10)),(11,.c (.int .i64) (.int v11))] []
def extent_Total_b2 (n:Nat) (l:List TExtent) (v10:Int) (n__1:Int) (v11:Int):Option ((Int×Int) ⊕ ((Int))) :=
  bif (decide (v11 < v10)) then
    gd ((0≤v11∧v11 < (l.length:Int))) <|
    some (.inl ((jc .i64 (n__1+((gt l (Int.toNat v11)).Len))),(jc .i64 (v11+1))))
  else
    some (.inr n__1)
def extent_Total (n:Nat) (l:List TExtent):Option Int :=
  (extent_Valid n l).bind fun r1 =>
  bif (!r1) then
    some 0
  else
    (loopF (fun (x:Int×Int)=>extent_Total_b2 n l (l.length:Int) x.1 x.2) n (0,0)).bind fun y9 =>
    extent_Total_k1 n y9
def xextent_Total (n:Nat):Go.AE.Fn:=mkFn (A:=(List TExtent)) (R:=Int) 99 [(false,[.slice 80])] false (fun xs=>((cg (xs.getD 0 []) 0).toSl.map d_TExtent)) (fun a=>[[.slice (List.map e_TExtent a)]]) (fun a=>extent_Total n a) (fun r=>[.c (.int .i64) (.int r)]) (fun r=>[])
theorem cextent_Total (n:Nat):Contract jd (xextent_Total n):=by
  have hΓ:=g1 (cextent_Valid n) (@g0 (Contract jd))
  refine contract_f (Tryz.f99.body.getD .skip) h00 Tryz.func99 rfl Tryz.call99 (by decide) (by intro _ r;exact ⟨rfl,by simp⟩) ?_
  rintro l r H
  try dsimp only at H
  unfold extent_Total at H
  simp only [Tryz.f99,jJ]
  refine rA ?_
  refine jA fun K2 hK2=>?_
  obtain ⟨r1,hr1,H⟩:=bind_some H
  have q:=aI @xextent_Valid.eq_1 hr1
  refine rAq ?_
  refine cnd H (fun h4 H=>?_) (fun h4 H=>?_)
  · refine rA ?_
    refine jF ?_
    refine lf ?_
    obtain rfl:=Option.some.inj H
    exact rt []
  refine jD ?_
  refine hK2 _ ?_
  refine rA ?_
  refine Jz (fun (x:Int)=>extent_Total_s1 x) (fun x=>extent_Total_k1 n x=some r) ?_ ?_
  · refine rA ?_
    refine jR ?_
    obtain ⟨y9,hy9,Ho9⟩:=bind_some H
    refine Jq _ (fun x=>extent_Total_t2 l (l.length:Int) x.1 x.2) hy9 (wb []) ?_
    rintro ⟨n__1,v11⟩ z9 H
    try dsimp only at H
    unfold extent_Total_b2 at H
    refine Sm.st (extent_Total_t2.eq_1 ..) ?_
    refine rA ?_
    refine jA fun K11 hK11=>?_
    refine cnd H (fun h12 H=>?_) (fun h12 H=>?_)
    · refine jD ?_
      refine hK11 _ ?_
      refine jA fun K13 hK13=>?_
      refine jR ?_
      obtain ⟨hg15,H⟩:=gd_some H
      refine rA ?_
      refine eA ?_
      refine hK13 _ ?_
      refine eA ?_
      refine lf ?_
      exact nx H (wb [])
    refine JE ?_
    refine lf ?_
    refine lx H fun hyy=>?_
    subst hyy
    have H:=Ho9
    try dsimp only at H
    refine lf ?_
    exact ⟨_,H,wb []⟩
  rintro n_ H
  try dsimp only at H
  unfold extent_Total_k1 at H
  refine Sm.st (extent_Total_s1.eq_1 ..) ?_
  refine rA ?_
  refine jF ?_
  refine lf ?_
  obtain rfl:=Option.some.inj H
  exact rt []
abbrev vtoc_Vtoc__fits_s1 (d:TDscb):S:=stB [(3,.box 9000 0)] [(9000,.box [.c .str (.str d.Name),.c (.int .i64) (.int d.Dcb.Org),.c (.int .i64) (.int d.Dcb.Format),.c .bool (.bool d.Dcb.Blocked),.c .bool (.bool d.Dcb.Asa),.c (.int .i64) (.int d.Dcb.Lrecl),.c (.int .i64) (.int d.Dcb.Blksize),.c (.int .i64) (.int d.Dcb.KeyLen),.c (.int .i64) (.int d.Dcb.KeyPos),.c (.slice 80) (.slice (List.map e_TExtent d.Extents)),.c (.int .i64) (.int d.Used)])]
def vtoc_Vtoc__fits_k1 (n:Nat) (d:TDscb):Option Bool :=
  (extent_Total n d.Extents).bind fun r2 =>
  (vtoc_in n d.Used 0 r2).bind fun r3 =>
  some r3
abbrev vtoc_Vtoc__fits_t2 (v:TVtoc) (d:TDscb) (v32:Int) (v33:Int):S:=stB [(2,.box 9003 0),(3,.box 9004 0),(31,.c (.slice 80) (.slice (List.map e_TExtent d.Extents))),(32,.c (.int .i64) (.int v32)),(33,.c (.int .i64) (.int v33))] [(9003,.box [.c .str (.str v.Serial),.c (.int .i64) (.int v.Cyls),.c (.int .i64) (.int v.Heads),.c (.int .i64) (.int v.Size),.c (.slice 41) (.slice (List.map e_TDscb v.Sets))]),(9004,.box [.c .str (.str d.Name),.c (.int .i64) (.int d.Dcb.Org),.c (.int .i64) (.int d.Dcb.Format),.c .bool (.bool d.Dcb.Blocked),.c .bool (.bool d.Dcb.Asa),.c (.int .i64) (.int d.Dcb.Lrecl),.c (.int .i64) (.int d.Dcb.Blksize),.c (.int .i64) (.int d.Dcb.KeyLen),.c (.int .i64) (.int d.Dcb.KeyPos),.c (.slice 80) (.slice (List.map e_TExtent d.Extents)),.c (.int .i64) (.int d.Used)])]
def vtoc_Vtoc__fits_b2 (n:Nat) (v:TVtoc) (d:TDscb) (v32:Int) (v33:Int):Option ((Int) ⊕ (((Bool) ⊕ (Unit)))) :=
  bif (decide (v33 < v32)) then
    gd ((0≤v33∧v33 < (d.Extents.length:Int))) <|
    bif (decide ((jc .i64 (((gt d.Extents (Int.toNat v33)).At)+((gt d.Extents (Int.toNat v33)).Len))) > (jc .i64 (v.Cyls * v.Heads)))) then
      some (.inr (.inl false))
    else
      some (.inl (jc .i64 (v33+1)))
  else
    some (.inr (.inr ()))
def vtoc_Vtoc__fits (n:Nat) (v:TVtoc) (d:TDscb):Option Bool :=
  (vtoc_Name n d.Name).bind fun r1 =>
  gd (((!(!r1))=true→(vtoc_described n d.Dcb).isSome=true)∧((!(if (!r1)=true then true else (!((vtoc_described n d.Dcb).getD default))))=true→(vtoc_in n (d.Extents.length:Int) 1 8).isSome=true)∧((!(if (if (!r1)=true then true else (!((vtoc_described n d.Dcb).getD default)))=true then true else (!((vtoc_in n (d.Extents.length:Int) 1 8).getD default))))=true→(extent_Valid n d.Extents).isSome=true)) <|
  bif (if (if (if (!r1)=true then true else (!((vtoc_described n d.Dcb).getD default)))=true then true else (!((vtoc_in n (d.Extents.length:Int) 1 8).getD default)))=true then true else (!((extent_Valid n d.Extents).getD default))) then
    some false
  else
    (loopF (fun (x:Int)=>vtoc_Vtoc__fits_b2 n v d (d.Extents.length:Int) x) n 0).bind fun y8 =>
    match y8 with
    | .inl vv =>
      some vv
    | .inr vv =>
      vtoc_Vtoc__fits_k1 n d
def xvtoc_Vtoc__fits (n:Nat):Go.AE.Fn:=mkFn (A:=TVtoc×TDscb) (R:=Bool) 68 [(true,[.str,.int .i64,.int .i64,.int .i64,.slice 41]),(true,[.str,.int .i64,.int .i64,.bool,.bool,.int .i64,.int .i64,.int .i64,.int .i64,.slice 80,.int .i64])] false (fun xs=>((⟨(cg (xs.getD 0 []) 0).toStr,(cg (xs.getD 0 []) 1).toInt,(cg (xs.getD 0 []) 2).toInt,(cg (xs.getD 0 []) 3).toInt,((cg (xs.getD 0 []) 4).toSl.map d_TDscb)⟩:TVtoc),(⟨(cg (xs.getD 1 []) 0).toStr,(⟨(cg (xs.getD 1 []) 1).toInt,(cg (xs.getD 1 []) 2).toInt,(cg (xs.getD 1 []) 3).toBool,(cg (xs.getD 1 []) 4).toBool,(cg (xs.getD 1 []) 5).toInt,(cg (xs.getD 1 []) 6).toInt,(cg (xs.getD 1 []) 7).toInt,(cg (xs.getD 1 []) 8).toInt⟩:TDcb),((cg (xs.getD 1 []) 9).toSl.map d_TExtent),(cg (xs.getD 1 []) 10).toInt⟩:TDscb))) (fun a=>[[.str a.1.Serial,.int a.1.Cyls,.int a.1.Heads,.int a.1.Size,.slice (List.map e_TDscb a.1.Sets)],[.str a.2.Name,.int a.2.Dcb.Org,.int a.2.Dcb.Format,.bool a.2.Dcb.Blocked,.bool a.2.Dcb.Asa,.int a.2.Dcb.Lrecl,.int a.2.Dcb.Blksize,.int a.2.Dcb.KeyLen,.int a.2.Dcb.KeyPos,.slice (List.map e_TExtent a.2.Extents),.int a.2.Used]]) (fun a=>vtoc_Vtoc__fits n a.1 a.2) (fun r=>[.c .bool (.bool r)]) (fun r=>[])
theorem cvtoc_Vtoc__fits (n:Nat):Contract jd (xvtoc_Vtoc__fits n):=by
  have hΓ:=g1 (cvtoc_Name n) (g1 (cvtoc_described n) (g1 (cvtoc_in n) (g1 (cextent_Valid n) (g1 (cextent_Total n) (@g0 (Contract jd))))))
  have qe:=aI @xvtoc_Name.eq_1 (aI @xvtoc_described.eq_1 (aI @xvtoc_in.eq_1 (aI @xextent_Valid.eq_1 @xextent_Total.eq_1)))
  refine contract_f (Tryz.f68.body.getD .skip) h00 Tryz.func68 rfl Tryz.call68 (by decide) (by intro _ r;exact ⟨rfl,by simp⟩) ?_
  rintro ⟨v,d⟩ r H
  try dsimp only at H
  unfold vtoc_Vtoc__fits at H
  simp only [Tryz.f68,jJ]
  refine rA ?_
  refine jA fun K2 hK2=>?_
  obtain ⟨r1,hr1,H⟩:=bind_some H
  obtain ⟨⟨hg18,hg19,hg20⟩,H⟩:=gd_some H
  have q:=aI qe hr1
  refine rAq ?_
  refine cnd H (fun h4 H=>?_) (fun h4 H=>?_)
  · refine rA ?_
    refine jF ?_
    refine lf ?_
    obtain rfl:=Option.some.inj H
    exact rt []
  refine jD ?_
  refine hK2 _ ?_
  refine Jz (fun (x:Unit)=>vtoc_Vtoc__fits_s1 d) (fun x=>vtoc_Vtoc__fits_k1 n d=some r) ?_ ?_
  · refine rA ?_
    refine jR ?_
    obtain ⟨y8,hy8,Ho8⟩:=bind_some H
    refine Jq _ (fun x=>vtoc_Vtoc__fits_t2 v d (d.Extents.length:Int) x) hy8 (wb [some 32,some 48]) ?_
    rintro v33 z8 H
    try dsimp only at H
    unfold vtoc_Vtoc__fits_b2 at H
    refine Sm.st (vtoc_Vtoc__fits_t2.eq_1 ..) ?_
    refine rA ?_
    refine jA fun K10 hK10=>?_
    refine cnd H (fun h11 H=>?_) (fun h11 H=>?_)
    · refine jD ?_
      refine hK10 _ ?_
      refine jA fun K12 hK12=>?_
      refine jR ?_
      obtain ⟨hg17,H⟩:=gd_some H
      refine rA ?_
      refine rA ?_
      refine cnd H (fun h15 H=>?_) (fun h15 H=>?_)
      · refine rA ?_
        refine jF ?_
        refine lf ?_
        refine lx H fun hyy=>?_
        subst hyy
        have H:=Ho8
        try dsimp only at H
        refine lf ?_
        obtain rfl:=Option.some.inj H
        exact rt []
      refine jD ?_
      refine hK12 _ ?_
      refine eA ?_
      refine lf ?_
      exact nx H (wb [some 9003,some 9004])
    refine JE ?_
    refine lf ?_
    refine lx H fun hyy=>?_
    subst hyy
    have H:=Ho8
    try dsimp only at H
    refine lf ?_
    exact ⟨(),H,wb [some 9004]⟩
  rintro ⟨⟩ H
  try dsimp only at H
  unfold vtoc_Vtoc__fits_k1 at H
  refine Sm.st (vtoc_Vtoc__fits_s1.eq_1 ..) ?_
  obtain ⟨r2,hr2,H⟩:=bind_some H
  obtain ⟨r3,hr3,H⟩:=bind_some H
  have q:=aI qe (aI hr2 hr3)
  refine rDq ?_
  refine jF ?_
  refine lf ?_
  obtain rfl:=Option.some.inj H
  exact rt []
abbrev vtoc_Check_s1 (used:List TExtent):S:=stB [(3,.own 9000 [.int .i64,.int .i64] 0 used.length)] [(9000,.row 80 (List.map e_TExtent used))]
def vtoc_Check_k1 (n:Nat) (used:List TExtent):Option Int :=
  (extent_Valid n used).bind fun r3 =>
  bif (!r3) then
    some 5
  else
    some 0
abbrev vtoc_Check_t2 (v:TVtoc) (v54:Int) (used_1:List TExtent) (v55:Int):S:=stB [(1,.box 9003 0),(3,.own 9004 [.int .i64,.int .i64] 0 used_1.length),(53,.c (.slice 41) (.slice (List.map e_TDscb v.Sets))),(54,.c (.int .i64) (.int v54)),(55,.c (.int .i64) (.int v55))] [(9003,.box [.c .str (.str v.Serial),.c (.int .i64) (.int v.Cyls),.c (.int .i64) (.int v.Heads),.c (.int .i64) (.int v.Size),.c (.slice 41) (.slice (List.map e_TDscb v.Sets))]),(9004,.row 80 (List.map e_TExtent used_1))]
def vtoc_Check_b2 (n:Nat) (v:TVtoc) (v54:Int) (used_1:List TExtent) (v55:Int):Option (((List TExtent)×Int) ⊕ (((Int) ⊕ ((List TExtent))))) :=
  bif (decide (v55 < v54)) then
    gd ((0≤v55∧v55 < (v.Sets.length:Int))) <|
    (vtoc_Vtoc__fits n v (gt v.Sets (Int.toNat v55))).bind fun r4 =>
    gd ((((!(!r4)) && (decide (v55 > 0)))=true→(0≤(jc .i64 (v55 - 1))∧(jc .i64 (v55 - 1)) < (v.Sets.length:Int)))) <|
    bif (if (!r4)=true then true else (if (decide (v55 > 0))=true then (!Op.bytesLess ((gt v.Sets (Int.toNat (jc .i64 (v55 - 1)))).Name) ((gt v.Sets (Int.toNat v55)).Name)) else false)) then
      some (.inr (.inl 5))
    else
      gd ((used_1.length+((gt v.Sets (Int.toNat v55)).Extents).length)≤2147483648) <|
      some (.inl ((used_1 ++ (gt v.Sets (Int.toNat v55)).Extents),(jc .i64 (v55+1))))
  else
    some (.inr (.inr used_1))
def vtoc_Check (n:Nat) (v:TVtoc):Option Int :=
  (vtoc_in n (v.Serial.length:Int) 1 6).bind fun r1 =>
  gd (((!(!r1))=true→(strings_Trim n v.Serial [65,66,67,68,69,70,71,72,73,74,75,76,77,78,79,80,81,82,83,84,85,86,87,88,89,90,48,49,50,51,52,53,54,55,56,57]).isSome=true)) <|
  bif (if (!r1)=true then true else (((strings_Trim n v.Serial [65,66,67,68,69,70,71,72,73,74,75,76,77,78,79,80,81,82,83,84,85,86,87,88,89,90,48,49,50,51,52,53,54,55,56,57]).getD default) != [])) then
    some 5
  else
    (vtoc_in n v.Cyls 1 64).bind fun r2 =>
    gd (((!(!r2))=true→(vtoc_in n v.Heads 1 8).isSome=true)∧((!(if (!r2)=true then true else (!((vtoc_in n v.Heads 1 8).getD default))))=true→(vtoc_in n v.Size 1 (jc .i64 ((jc .i64 (v.Cyls * v.Heads)) - 1))).isSome=true)) <|
    bif (if (if (!r2)=true then true else (!((vtoc_in n v.Heads 1 8).getD default)))=true then true else (!((vtoc_in n v.Size 1 (jc .i64 ((jc .i64 (v.Cyls * v.Heads)) - 1))).getD default))) then
      some 5
    else
      bif (decide ((v.Sets.length:Int) > (if (jc .i64 (14 * v.Size)) < 64 then (jc .i64 (14 * v.Size)) else 64))) then
        some 5
      else
        (loopF (fun (x:(List TExtent)×Int)=>vtoc_Check_b2 n v (v.Sets.length:Int) x.1 x.2) n ([(⟨0,(jc .i64 (v.Size+1))⟩:TExtent)],0)).bind fun y21 =>
        match y21 with
        | .inl vv =>
          some vv
        | .inr vv =>
          vtoc_Check_k1 n vv
def xvtoc_Check (n:Nat):Go.AE.Fn:=mkFn (A:=TVtoc) (R:=Int) 30 [(true,[.str,.int .i64,.int .i64,.int .i64,.slice 41])] false (fun xs=>(⟨(cg (xs.getD 0 []) 0).toStr,(cg (xs.getD 0 []) 1).toInt,(cg (xs.getD 0 []) 2).toInt,(cg (xs.getD 0 []) 3).toInt,((cg (xs.getD 0 []) 4).toSl.map d_TDscb)⟩:TVtoc)) (fun a=>[[.str a.Serial,.int a.Cyls,.int a.Heads,.int a.Size,.slice (List.map e_TDscb a.Sets)]]) (fun a=>vtoc_Check n a) (fun r=>[.c (.int .i64) (.int r)]) (fun r=>[])
theorem cvtoc_Check (n:Nat):Contract jd (xvtoc_Check n):=by
  have hΓ:=g1 (cvtoc_in n) (g1 (cstrings_Trim n) (g1 (cvtoc_Vtoc__fits n) (g1 (cextent_Valid n) (@g0 (Contract jd)))))
  have qe:=aI @xvtoc_in.eq_1 (aI @xstrings_Trim.eq_1 (aI @xvtoc_Vtoc__fits.eq_1 @xextent_Valid.eq_1))
  refine contract_f (Tryz.f30.body.getD .skip) h00 Tryz.func30 rfl Tryz.call30 (by decide) (by intro _ r;exact ⟨rfl,by simp⟩) ?_
  rintro v r H
  try dsimp only at H
  unfold vtoc_Check at H
  simp only [Tryz.f30,jJ]
  refine rA ?_
  refine jA fun K2 hK2=>?_
  obtain ⟨r1,hr1,H⟩:=bind_some H
  obtain ⟨hg36,H⟩:=gd_some H
  have q:=aI qe hr1
  refine rAq ?_
  refine cnd H (fun h4 H=>?_) (fun h4 H=>?_)
  · refine rA ?_
    refine jF ?_
    refine lf ?_
    obtain rfl:=Option.some.inj H
    exact rt []
  refine jD ?_
  refine hK2 _ ?_
  refine jA fun K6 hK6=>?_
  obtain ⟨r2,hr2,H⟩:=bind_some H
  obtain ⟨⟨hg34,hg35⟩,H⟩:=gd_some H
  have q:=aI qe hr2
  refine rAq ?_
  refine cnd H (fun h8 H=>?_) (fun h8 H=>?_)
  · refine rA ?_
    refine jF ?_
    refine lf ?_
    obtain rfl:=Option.some.inj H
    exact rt []
  refine jD ?_
  refine hK6 _ ?_
  refine jA fun K10 hK10=>?_
  refine rA ?_
  refine cnd H (fun h12 H=>?_) (fun h12 H=>?_)
  · refine rA ?_
    refine jF ?_
    refine lf ?_
    obtain rfl:=Option.some.inj H
    exact rt []
  refine jD ?_
  refine hK10 _ ?_
  refine rA ?_
  refine Jz (fun (x:(List TExtent))=>vtoc_Check_s1 x) (fun x=>vtoc_Check_k1 n x=some r) ?_ ?_
  · refine rA ?_
    refine jR ?_
    obtain ⟨y21,hy21,Ho21⟩:=bind_some H
    refine Jq _ (fun x=>vtoc_Check_t2 v (v.Sets.length:Int) x.1 x.2) hy21 (wb [some 16,some 816]) ?_
    rintro ⟨used_1,v55⟩ z21 H
    try dsimp only at H
    unfold vtoc_Check_b2 at H
    refine Sm.st (vtoc_Check_t2.eq_1 ..) ?_
    refine rA ?_
    refine jA fun K23 hK23=>?_
    refine cnd H (fun h24 H=>?_) (fun h24 H=>?_)
    · refine jD ?_
      refine hK23 _ ?_
      refine jA fun K25 hK25=>?_
      refine jR ?_
      obtain ⟨hg33,H⟩:=gd_some H
      refine rA ?_
      refine jA fun K27 hK27=>?_
      obtain ⟨r4,hr4,H⟩:=bind_some H
      obtain ⟨hg32,H⟩:=gd_some H
      have q:=aI qe hr4
      refine rDq ?_
      refine cnd H (fun h29 H=>?_) (fun h29 H=>?_)
      · refine rA ?_
        refine jF ?_
        refine lf ?_
        refine lx H fun hyy=>?_
        subst hyy
        have H:=Ho21
        try dsimp only at H
        refine lf ?_
        obtain rfl:=Option.some.inj H
        exact rt []
      refine jD ?_
      refine hK27 _ ?_
      obtain ⟨hg31,H⟩:=gd_some H
      refine eA ?_
      refine hK25 _ ?_
      refine eA ?_
      refine lf ?_
      exact nx H (wb [some 9003,some 1328])
    refine JE ?_
    refine lf ?_
    refine lx H fun hyy=>?_
    subst hyy
    have H:=Ho21
    try dsimp only at H
    refine lf ?_
    exact ⟨_,H,wb [some 9004]⟩
  rintro used H
  try dsimp only at H
  unfold vtoc_Check_k1 at H
  refine Sm.st (vtoc_Check_s1.eq_1 ..) ?_
  refine jA fun K15 hK15=>?_
  obtain ⟨r3,hr3,H⟩:=bind_some H
  have q:=aI qe hr3
  refine rAq ?_
  refine cnd H (fun h17 H=>?_) (fun h17 H=>?_)
  · refine rA ?_
    refine jF ?_
    refine lf ?_
    obtain rfl:=Option.some.inj H
    exact rt []
  refine jD ?_
  refine hK15 _ ?_
  refine rA ?_
  refine jF ?_
  refine lf ?_
  obtain rfl:=Option.some.inj H
  exact rt []
def vtoc_New (n:Nat) (serial:List UInt8) (cyls:Int) (heads:Int) (size:Int):Option (TVtoc×Int) :=
  (vtoc_Check n (⟨serial,cyls,heads,size,[]⟩:TVtoc)).bind fun r1 =>
  bif (r1 != 0) then
    some ((⟨[],0,0,0,[]⟩:TVtoc),1)
  else
    some ((⟨serial,cyls,heads,size,[]⟩:TVtoc),0)
def xvtoc_New (n:Nat):Go.AE.Fn:=mkFn (A:=(List UInt8)×Int×Int×Int) (R:=TVtoc×Int) 15 [(false,[.str]),(false,[.int .i64]),(false,[.int .i64]),(false,[.int .i64])] false (fun xs=>((cg (xs.getD 0 []) 0).toStr,(cg (xs.getD 1 []) 0).toInt,(cg (xs.getD 2 []) 0).toInt,(cg (xs.getD 3 []) 0).toInt)) (fun a=>[[.str a.1],[.int a.2.1],[.int a.2.2.1],[.int a.2.2.2]]) (fun a=>vtoc_New n a.1 a.2.1 a.2.2.1 a.2.2.2) (fun r=>[.agg [.c .str (.str r.1.Serial),.c (.int .i64) (.int r.1.Cyls),.c (.int .i64) (.int r.1.Heads),.c (.int .i64) (.int r.1.Size),.nilsl],.c (.int .i64) (.int r.2)]) (fun r=>[])
theorem cvtoc_New (n:Nat):Contract jd (xvtoc_New n):=by
  have hΓ:=g1 (cvtoc_Check n) (@g0 (Contract jd))
  refine contract_f (Tryz.f15.body.getD .skip) h00 Tryz.func15 rfl Tryz.call15 (by decide) (by intro _ r;exact ⟨rfl,by simp⟩) ?_
  rintro ⟨serial,cyls,heads,size⟩ r H
  try dsimp only at H
  unfold vtoc_New at H
  simp only [Tryz.f15,jJ]
  refine rA ?_
  refine rA ?_
  refine jA fun K3 hK3=>?_
  obtain ⟨r1,hr1,H⟩:=bind_some H
  have q:=aI @xvtoc_Check.eq_1 hr1
  refine rAq ?_
  refine cnd H (fun h5 H=>?_) (fun h5 H=>?_)
  · refine rA ?_
    refine jF ?_
    refine lf ?_
    obtain rfl:=Option.some.inj H
    exact rt []
  refine jD ?_
  refine hK3 _ ?_
  refine rA ?_
  refine jF ?_
  refine lf ?_
  obtain rfl:=Option.some.inj H
  exact rt []
def law21_empty (n:Nat) (s:TStart):Option (TVtoc×Int) :=
  gd ((jc .i64 ((jc .i64 ((jc .i64 ((jc .i64 ((JC s.Cyls 4)))+1)) * (jc .i64 ((jc .i64 ((JC s.Heads 3)))+2)))) - 1))≠0) <|
  (vtoc_New n [86,49] (jc .i64 ((jc .i64 ((JC s.Cyls 4)))+1)) (jc .i64 ((jc .i64 ((JC s.Heads 3)))+2)) (jc .i64 ((JC (jc .i64 ((JC s.Size 2))) (jc .i64 ((jc .i64 ((jc .i64 ((jc .i64 ((JC s.Cyls 4)))+1)) * (jc .i64 ((jc .i64 ((JC s.Heads 3)))+2)))) - 1)))+1))).bind fun r1 =>
  some ((⟨r1.1.Serial,r1.1.Cyls,r1.1.Heads,r1.1.Size,[]⟩:TVtoc),r1.2)
def xlaw21_empty (n:Nat):Go.AE.Fn:=mkFn (A:=TStart) (R:=TVtoc×Int) 38 [(true,[.int .u8,.int .u8,.int .u8])] false (fun xs=>(⟨(cg (xs.getD 0 []) 0).toInt,(cg (xs.getD 0 []) 1).toInt,(cg (xs.getD 0 []) 2).toInt⟩:TStart)) (fun a=>[[.int a.Cyls,.int a.Heads,.int a.Size]]) (fun a=>law21_empty n a) (fun r=>[.agg [.c .str (.str r.1.Serial),.c (.int .i64) (.int r.1.Cyls),.c (.int .i64) (.int r.1.Heads),.c (.int .i64) (.int r.1.Size),.nilsl],.c (.int .i64) (.int r.2)]) (fun r=>[])
theorem claw21_empty (n:Nat):Contract jd (xlaw21_empty n):=by
  have hΓ:=g1 (cvtoc_New n) (@g0 (Contract jd))
  refine contract_f (Tryz.f38.body.getD .skip) h00 Tryz.func38 rfl Tryz.call38 (by decide) (by intro _ r;exact ⟨rfl,by simp⟩) ?_
  rintro s r H
  try dsimp only at H
  unfold law21_empty at H
  simp only [Tryz.f38,jJ]
  refine rA ?_
  refine rA ?_
  refine rA ?_
  obtain ⟨hg5,H⟩:=gd_some H
  obtain ⟨r1,hr1,H⟩:=bind_some H
  have q:=aI @xvtoc_New.eq_1 hr1
  refine rAq ?_
  refine jF ?_
  refine lf ?_
  obtain rfl:=Option.some.inj H
  exact rt []
def vtoc_Vtoc__index_1 (n:Nat) (d:TDscb) (s:List UInt8):Option Int :=
  (strings_Compare n d.Name s).bind fun r1 =>
  some r1
def xvtoc_Vtoc__index_1 (n:Nat):Go.AE.Fn:=mkFn (A:=TDscb×(List UInt8)) (R:=Int) 117 [(true,[.str,.int .i64,.int .i64,.bool,.bool,.int .i64,.int .i64,.int .i64,.int .i64,.slice 80,.int .i64]),(false,[.str])] false (fun xs=>((⟨(cg (xs.getD 0 []) 0).toStr,(⟨(cg (xs.getD 0 []) 1).toInt,(cg (xs.getD 0 []) 2).toInt,(cg (xs.getD 0 []) 3).toBool,(cg (xs.getD 0 []) 4).toBool,(cg (xs.getD 0 []) 5).toInt,(cg (xs.getD 0 []) 6).toInt,(cg (xs.getD 0 []) 7).toInt,(cg (xs.getD 0 []) 8).toInt⟩:TDcb),((cg (xs.getD 0 []) 9).toSl.map d_TExtent),(cg (xs.getD 0 []) 10).toInt⟩:TDscb),(cg (xs.getD 1 []) 0).toStr)) (fun a=>[[.str a.1.Name,.int a.1.Dcb.Org,.int a.1.Dcb.Format,.bool a.1.Dcb.Blocked,.bool a.1.Dcb.Asa,.int a.1.Dcb.Lrecl,.int a.1.Dcb.Blksize,.int a.1.Dcb.KeyLen,.int a.1.Dcb.KeyPos,.slice (List.map e_TExtent a.1.Extents),.int a.1.Used],[.str a.2]]) (fun a=>vtoc_Vtoc__index_1 n a.1 a.2) (fun r=>[.c (.int .i64) (.int r)]) (fun r=>[])
theorem cvtoc_Vtoc__index_1 (n:Nat):Contract jd (xvtoc_Vtoc__index_1 n):=by
  have hΓ:=g1 (cstrings_Compare n) (@g0 (Contract jd))
  refine contract_f (Tryz.f117.body.getD .skip) h00 Tryz.func117 rfl Tryz.call117 (by decide) (by intro _ r;exact ⟨rfl,by simp⟩) ?_
  rintro ⟨d,s⟩ r H
  try dsimp only at H
  unfold vtoc_Vtoc__index_1 at H
  simp only [Tryz.f117,jJ]
  refine rA ?_
  obtain ⟨r1,hr1,H⟩:=bind_some H
  have q:=aI @xstrings_Compare.eq_1 hr1
  refine rAq ?_
  refine jF ?_
  refine lf ?_
  obtain rfl:=Option.some.inj H
  exact rt []
abbrev slices_BinarySearchFunc_f116_M1_s1 (x_:List TDscb) (target:List UInt8) (n_:Int) (i:Int):S:=stB [(0,.c (.slice 41) (.slice (List.map e_TDscb x_))),(1,.c .str (.str target)),(2,.fnv 117 []),(8,.c (.int .i64) (.int n_)),(9,.c (.int .i64) (.int i))] []
def slices_BinarySearchFunc_f116_M1_k1 (n:Nat) (x_:List TDscb) (target:List UInt8) (n_:Int) (i:Int):Option (Int×Bool) :=
  gd (((decide (i < n_))=true→(0≤i∧i < (x_.length:Int)))∧((decide (i < n_))=true→(vtoc_Vtoc__index_1 n (gt x_ (Int.toNat i)) target).isSome=true)) <|
  some (i,(if (decide (i < n_))=true then (((vtoc_Vtoc__index_1 n (gt x_ (Int.toNat i)) target).getD default) == 0) else false))
abbrev slices_BinarySearchFunc_f116_M1_t2 (x_:List TDscb) (target:List UInt8) (n__1:Int) (i_1:Int) (j:Int):S:=stB [(0,.c (.slice 41) (.slice (List.map e_TDscb x_))),(1,.c .str (.str target)),(2,.fnv 117 []),(8,.c (.int .i64) (.int n__1)),(9,.c (.int .i64) (.int i_1)),(10,.c (.int .i64) (.int j))] []
def slices_BinarySearchFunc_f116_M1_b2 (n:Nat) (x_:List TDscb) (target:List UInt8) (n__1:Int) (i_1:Int) (j:Int):Option ((Int×Int) ⊕ ((Int))) :=
  bif (decide (i_1 < j)) then
    gd ((0≤(jc .i64 ((Int.fdiv (jc .u64 ((jc .i64 (i_1+j)))) (2 ^ min 1 (JG .u64)))))∧(jc .i64 ((Int.fdiv (jc .u64 ((jc .i64 (i_1+j)))) (2 ^ min 1 (JG .u64))))) < (x_.length:Int))) <|
    (vtoc_Vtoc__index_1 n (gt x_ (Int.toNat (jc .i64 ((Int.fdiv (jc .u64 ((jc .i64 (i_1+j)))) (2 ^ min 1 (JG .u64))))))) target).bind fun r1 =>
    bif (decide (r1 < 0)) then
      some (.inl ((jc .i64 ((jc .i64 ((Int.fdiv (jc .u64 ((jc .i64 (i_1+j)))) (2 ^ min 1 (JG .u64)))))+1)),j))
    else
      some (.inl (i_1,(jc .i64 ((Int.fdiv (jc .u64 ((jc .i64 (i_1+j)))) (2 ^ min 1 (JG .u64)))))))
  else
    some (.inr i_1)
def slices_BinarySearchFunc_f116_M1 (n:Nat) (x_:List TDscb) (target:List UInt8):Option (Int×Bool) :=
  (loopF (fun (x:Int×Int)=>slices_BinarySearchFunc_f116_M1_b2 n x_ target (x_.length:Int) x.1 x.2) n (0,(x_.length:Int))).bind fun y7 =>
  slices_BinarySearchFunc_f116_M1_k1 n x_ target (x_.length:Int) y7
theorem cslices_BinarySearchFunc_f116_M1 (n:Nat) (x_:List TDscb) (target:List UInt8) (r:Int×Bool) (H:slices_BinarySearchFunc_f116_M1 n x_ target=some r):CallsM jd 116 [.dat (false,[.slice 41]) [.slice (List.map e_TDscb x_)],.dat (false,[.str]) [.str target],.ref (.fnv 117 [])] [] [.c (.int .i64) (.int r.1),.c .bool (.bool r.2)] []:=by
  have hΓ:=g1 (cvtoc_Vtoc__index_1 n) (@g0 (Contract jd))
  refine callsM_of (Tryz.f116.body.getD .skip) h00 Tryz.func116 rfl Tryz.call116 (jp rfl) (jp rfl) ?_
  unfold slices_BinarySearchFunc_f116_M1 at H
  simp only [Tryz.f116,jJ]
  refine rA ?_
  refine rA ?_
  refine rA ?_
  refine Jz (fun (x:Int×Int)=>slices_BinarySearchFunc_f116_M1_s1 x_ target x.1 x.2) (fun x=>slices_BinarySearchFunc_f116_M1_k1 n x_ target x.1 x.2=some r) ?_ ?_
  · refine jR ?_
    obtain ⟨y7,hy7,Ho7⟩:=bind_some H
    refine Jq _ (fun x=>slices_BinarySearchFunc_f116_M1_t2 x_ target (x_.length:Int) x.1 x.2) hy7 (wb []) ?_
    rintro ⟨i_1,j⟩ z7 H
    try dsimp only at H
    unfold slices_BinarySearchFunc_f116_M1_b2 at H
    refine Sm.st (slices_BinarySearchFunc_f116_M1_t2.eq_1 ..) ?_
    refine jA fun K8 hK8=>?_
    refine rA ?_
    refine cnd H (fun h10 H=>?_) (fun h10 H=>?_)
    · refine jD ?_
      refine hK8 _ ?_
      refine jR ?_
      refine sX fun K11 hK11=>?_
      iterate 4 refine oX ?_
      refine oE stepV_ok ?_
      iterate 2 refine oX ?_
      refine hK11 _ ?_
      obtain ⟨hg14,H⟩:=gd_some H
      obtain ⟨r1,hr1,H⟩:=bind_some H
      have q:=aI @xvtoc_Vtoc__index_1.eq_1 hr1
      refine rAq ?_
      refine cnd H (fun h13 H=>?_) (fun h13 H=>?_)
      · refine eA ?_
        refine lf ?_
        exact nx H (wb [])
      refine eA ?_
      refine lf ?_
      exact nx H (wb [])
    refine JE ?_
    refine lf ?_
    refine lx H fun hyy=>?_
    subst hyy
    have H:=Ho7
    try dsimp only at H
    refine lf ?_
    exact ⟨((x_.length:Int),i_1),H,wb []⟩
  rintro ⟨n_,i⟩ H
  try dsimp only at H
  unfold slices_BinarySearchFunc_f116_M1_k1 at H
  refine Sm.st (slices_BinarySearchFunc_f116_M1_s1.eq_1 ..) ?_
  obtain ⟨⟨hg5,hg6⟩,H⟩:=gd_some H
  have q:=@xvtoc_Vtoc__index_1.eq_1
  refine rAq ?_
  refine jF ?_
  refine lf ?_
  obtain rfl:=Option.some.inj H
  exact rtM []
def vtoc_Vtoc__index (n:Nat) (v:TVtoc) (name:List UInt8):Option (Int×Bool) :=
  (slices_BinarySearchFunc_f116_M1 n v.Sets name).bind fun r1 =>
  some (r1.1,r1.2)
def xvtoc_Vtoc__index (n:Nat):Go.AE.Fn:=mkFn (A:=TVtoc×(List UInt8)) (R:=Int×Bool) 56 [(true,[.str,.int .i64,.int .i64,.int .i64,.slice 41]),(false,[.str])] false (fun xs=>((⟨(cg (xs.getD 0 []) 0).toStr,(cg (xs.getD 0 []) 1).toInt,(cg (xs.getD 0 []) 2).toInt,(cg (xs.getD 0 []) 3).toInt,((cg (xs.getD 0 []) 4).toSl.map d_TDscb)⟩:TVtoc),(cg (xs.getD 1 []) 0).toStr)) (fun a=>[[.str a.1.Serial,.int a.1.Cyls,.int a.1.Heads,.int a.1.Size,.slice (List.map e_TDscb a.1.Sets)],[.str a.2]]) (fun a=>vtoc_Vtoc__index n a.1 a.2) (fun r=>[.c (.int .i64) (.int r.1),.c .bool (.bool r.2)]) (fun r=>[])
theorem cvtoc_Vtoc__index (n:Nat):Contract jd (xvtoc_Vtoc__index n):=by
  have hΓ:=@g0 (Contract jd)
  refine contract_f (Tryz.f56.body.getD .skip) h00 Tryz.func56 rfl Tryz.call56 (by decide) (by intro _ r;exact ⟨rfl,by simp⟩) ?_
  rintro ⟨v,name⟩ r H
  try dsimp only at H
  unfold vtoc_Vtoc__index at H
  simp only [Tryz.f56,jJ]
  refine rA ?_
  refine sX fun K2 hK2=>?_
  obtain ⟨r1,hr1,H⟩:=bind_some H
  have q:=hr1
  iterate 3 refine oX ?_
  refine oMq (cslices_BinarySearchFunc_f116_M1 n _ _ r1 hr1) [] [] ?_
  iterate 4 refine oXq ?_
  refine hK2 _ ?_
  refine jF ?_
  refine lf ?_
  obtain rfl:=Option.some.inj H
  exact rt []
abbrev extent_Free_s2 (out_1:List TExtent):S:=stB [(5,.own 9001 [.int .i64,.int .i64] 0 out_1.length)] [(9001,.row 80 (List.map e_TExtent out_1))]
def extent_Free_k2 (n:Nat) (out_1:List TExtent):Option (List TExtent) :=
  some out_1
abbrev extent_Free_s1 (n_:Int) (out:List TExtent) (at_:Int):S:=stB [(1,.c (.int .i64) (.int n_)),(5,.own 9000 [.int .i64,.int .i64] 0 out.length),(6,.c (.int .i64) (.int at_))] [(9000,.row 80 (List.map e_TExtent out))]
def extent_Free_k1 (n:Nat) (n_:Int) (out:List TExtent) (at_:Int):Option (List TExtent) :=
  bif (decide (n_ > at_)) then
    gd ((out.length+1)≤2147483648) <|
    extent_Free_k2 n (out ++ [(⟨at_,(jc .i64 (n_ - at_))⟩:TExtent)])
  else
    extent_Free_k2 n out
abbrev extent_Free_s4 (n_:Int) (out_3:List TExtent) (at__2:Int) (v22:List TExtent) (v23:Int) (v24:Int):S:=stB [(1,.c (.int .i64) (.int n_)),(5,.own 9004 [.int .i64,.int .i64] 0 out_3.length),(6,.c (.int .i64) (.int at__2)),(22,.c (.slice 80) (.slice (List.map e_TExtent v22))),(23,.c (.int .i64) (.int v23)),(24,.c (.int .i64) (.int v24))] [(9004,.row 80 (List.map e_TExtent out_3))]
def extent_Free_k4 (n:Nat) (n_:Int) (out_3:List TExtent) (at__2:Int) (v22:List TExtent) (v23:Int) (v24:Int):Option (((List TExtent)×Int×Int) ⊕ (((List TExtent)×Int))) :=
  some (.inl (out_3,at__2,(jc .i64 (v24+1))))
abbrev extent_Free_s5 (n_:Int) (out_4:List TExtent) (x_:Int) (x__1:Int) (v22:List TExtent) (v23:Int) (v24:Int):S:=stB [(1,.c (.int .i64) (.int n_)),(5,.own 9005 [.int .i64,.int .i64] 0 out_4.length),(8,.box 9006 0),(22,.c (.slice 80) (.slice (List.map e_TExtent v22))),(23,.c (.int .i64) (.int v23)),(24,.c (.int .i64) (.int v24))] [(9005,.row 80 (List.map e_TExtent out_4)),(9006,.box [.c (.int .i64) (.int x_),.c (.int .i64) (.int x__1)])]
def extent_Free_k5 (n:Nat) (n_:Int) (out_4:List TExtent) (x_:Int) (x__1:Int) (v22:List TExtent) (v23:Int) (v24:Int):Option (((List TExtent)×Int×Int) ⊕ (((List TExtent)×Int))) :=
  extent_Free_k4 n n_ out_4 (jc .i64 (x_+x__1)) v22 v23 v24
abbrev extent_Free_t3 (n_:Int) (v22:List TExtent) (v23:Int) (out_2:List TExtent) (at__1:Int) (v24:Int):S:=stB [(1,.c (.int .i64) (.int n_)),(5,.own 9003 [.int .i64,.int .i64] 0 out_2.length),(6,.c (.int .i64) (.int at__1)),(22,.c (.slice 80) (.slice (List.map e_TExtent v22))),(23,.c (.int .i64) (.int v23)),(24,.c (.int .i64) (.int v24))] [(9003,.row 80 (List.map e_TExtent out_2))]
def extent_Free_b3 (n:Nat) (n_:Int) (v22:List TExtent) (v23:Int) (out_2:List TExtent) (at__1:Int) (v24:Int):Option (((List TExtent)×Int×Int) ⊕ (((List TExtent)×Int))) :=
  bif (decide (v24 < v23)) then
    gd ((0≤v24∧v24 < (v22.length:Int))) <|
    bif (decide ((if n_ < ((gt v22 (Int.toNat v24)).At) then n_ else ((gt v22 (Int.toNat v24)).At)) > at__1)) then
      gd ((out_2.length+1)≤2147483648) <|
      extent_Free_k5 n n_ (out_2 ++ [(⟨at__1,(jc .i64 ((if n_ < ((gt v22 (Int.toNat v24)).At) then n_ else ((gt v22 (Int.toNat v24)).At)) - at__1))⟩:TExtent)]) ((gt v22 (Int.toNat v24)).At) ((gt v22 (Int.toNat v24)).Len) v22 v23 v24
    else
      extent_Free_k5 n n_ out_2 ((gt v22 (Int.toNat v24)).At) ((gt v22 (Int.toNat v24)).Len) v22 v23 v24
  else
    some (.inr (out_2,at__1))
def extent_Free (n:Nat) (used:List TExtent) (n_:Int):Option (List TExtent) :=
  (extent_Valid n used).bind fun r1 =>
  bif (if (if (!r1)=true then true else (decide (n_ < 0)))=true then true else (decide (n_ > 512))) then
    some []
  else
    (extent_sorted n used).bind fun r2 =>
    (loopF (fun (x:(List TExtent)×Int×Int)=>extent_Free_b3 n n_ r2 (r2.length:Int) x.1 x.2.1 x.2.2) n ([],0,0)).bind fun y13 =>
    extent_Free_k1 n n_ y13.1 y13.2
def xextent_Free (n:Nat):Go.AE.Fn:=mkFn (A:=(List TExtent)×Int) (R:=(List TExtent)) 76 [(false,[.slice 80]),(false,[.int .i64])] false (fun xs=>(((cg (xs.getD 0 []) 0).toSl.map d_TExtent),(cg (xs.getD 1 []) 0).toInt)) (fun a=>[[.slice (List.map e_TExtent a.1)],[.int a.2]]) (fun a=>extent_Free n a.1 a.2) (fun r=>[.own 0 [.int .i64,.int .i64] 0 r.length]) (fun r=>[.row 80 (List.map e_TExtent r)])
theorem cextent_Free (n:Nat):Contract jd (xextent_Free n):=by
  have hΓ:=g1 (cextent_Valid n) (g1 (cextent_sorted n) (@g0 (Contract jd)))
  have qe:=aI @xextent_Valid.eq_1 @xextent_sorted.eq_1
  refine contract_f (Tryz.f76.body.getD .skip) h00 Tryz.func76 rfl Tryz.call76 (by decide) (fun _ r=>⟨rfl,m1 ⟨80,_,_,rfl,ty80,rfl⟩ m0⟩) ?_
  rintro ⟨used,n_⟩ r H
  try dsimp only at H
  unfold extent_Free at H
  simp only [Tryz.f76,jJ]
  refine rA ?_
  refine jA fun K2 hK2=>?_
  obtain ⟨r1,hr1,H⟩:=bind_some H
  have q:=aI qe hr1
  refine rAq ?_
  refine cnd H (fun h4 H=>?_) (fun h4 H=>?_)
  · refine rA ?_
    refine jF ?_
    refine lf ?_
    obtain rfl:=Option.some.inj H
    exact rto [none]
  refine jD ?_
  refine hK2 _ ?_
  refine rA ?_
  refine rA ?_
  refine Jz (fun (x:(List TExtent)×Int)=>extent_Free_s1 n_ x.1 x.2) (fun x=>extent_Free_k1 n n_ x.1 x.2=some r) ?_ ?_
  · obtain ⟨r2,hr2,H⟩:=bind_some H
    have q:=aI qe hr2
    refine rAq ?_
    refine jR ?_
    obtain ⟨y13,hy13,Ho13⟩:=bind_some H
    refine Jq _ (fun x=>extent_Free_t3 n_ r2 (r2.length:Int) x.1 x.2.1 x.2.2) hy13 (wb [none]) ?_
    rintro ⟨out_2,at__1,v24⟩ z13 H
    try dsimp only at H
    unfold extent_Free_b3 at H
    refine Sm.st (extent_Free_t3.eq_1 ..) ?_
    refine rA ?_
    refine jA fun K15 hK15=>?_
    refine cnd H (fun h16 H=>?_) (fun h16 H=>?_)
    · refine jD ?_
      refine hK15 _ ?_
      refine Jz (fun (x:(List TExtent)×Int)=>extent_Free_s4 n_ x.1 x.2 r2 (r2.length:Int) v24) (fun x=>extent_Free_k4 n n_ x.1 x.2 r2 (r2.length:Int) v24=some z13) ?_ ?_
      · refine jR ?_
        obtain ⟨hg22,H⟩:=gd_some H
        refine rA ?_
        refine Jz (fun (x:(List TExtent))=>extent_Free_s5 n_ x ((gt r2 (Int.toNat v24)).At) ((gt r2 (Int.toNat v24)).Len) r2 (r2.length:Int) v24) (fun x=>extent_Free_k5 n n_ x ((gt r2 (Int.toNat v24)).At) ((gt r2 (Int.toNat v24)).Len) r2 (r2.length:Int) v24=some z13) ?_ ?_
        · refine rA ?_
          refine rA ?_
          refine cnd H (fun h20 H=>?_) (fun h20 H=>?_)
          · obtain ⟨hg21,H⟩:=gd_some H
            refine eA ?_
            refine lf ?_
            exact ⟨_,H,wb [some 672,some 128]⟩
          refine jD ?_
          refine lf ?_
          exact ⟨_,H,wb [some 9003,some 128]⟩
        rintro out_4 H
        try dsimp only at H
        unfold extent_Free_k5 at H
        refine Sm.st (extent_Free_s5.eq_1 ..) ?_
        refine eA ?_
        refine lf ?_
        exact ⟨(out_4,(jc .i64 ((gt r2 (Int.toNat v24)).At+(gt r2 (Int.toNat v24)).Len))),H,wb [some 9005]⟩
      rintro ⟨out_3,at__2⟩ H
      try dsimp only at H
      unfold extent_Free_k4 at H
      refine Sm.st (extent_Free_s4.eq_1 ..) ?_
      refine eA ?_
      refine lf ?_
      exact nx H (wb [some 9004])
    refine JE ?_
    refine lf ?_
    refine lx H fun hyy=>?_
    subst hyy
    have H:=Ho13
    try dsimp only at H
    refine lf ?_
    exact ⟨(out_2,at__1),H,wb [some 9003]⟩
  rintro ⟨out,at_⟩ H
  try dsimp only at H
  unfold extent_Free_k1 at H
  refine Sm.st (extent_Free_s1.eq_1 ..) ?_
  refine Jz (fun (x:(List TExtent))=>extent_Free_s2 x) (fun x=>extent_Free_k2 n x=some r) ?_ ?_
  · refine rA ?_
    refine cnd H (fun h10 H=>?_) (fun h10 H=>?_)
    · obtain ⟨hg11,H⟩:=gd_some H
      refine eA ?_
      refine lf ?_
      exact ⟨_,H,wb [some 944]⟩
    refine jD ?_
    refine lf ?_
    exact ⟨_,H,wb [some 9000]⟩
  rintro out_1 H
  try dsimp only at H
  unfold extent_Free_k2 at H
  refine Sm.st (extent_Free_s2.eq_1 ..) ?_
  refine rA ?_
  refine jF ?_
  refine lf ?_
  obtain rfl:=Option.some.inj H
  exact rto [some 9001]
abbrev vtoc_Free_s1 (v:TVtoc) (used:List TExtent):S:=stB [(1,.box 9000 0),(3,.own 9001 [.int .i64,.int .i64] 0 used.length)] [(9000,.box [.c .str (.str v.Serial),.c (.int .i64) (.int v.Cyls),.c (.int .i64) (.int v.Heads),.c (.int .i64) (.int v.Size),.c (.slice 41) (.slice (List.map e_TDscb v.Sets))]),(9001,.row 80 (List.map e_TExtent used))]
def vtoc_Free_k1 (n:Nat) (v:TVtoc) (used:List TExtent):Option (List TExtent) :=
  (extent_Free n used (jc .i64 (v.Cyls * v.Heads))).bind fun r2 =>
  some r2
abbrev vtoc_Free_t2 (v:TVtoc) (v16:Int) (used_1:List TExtent) (v17:Int):S:=stB [(1,.box 9004 0),(3,.own 9005 [.int .i64,.int .i64] 0 used_1.length),(15,.c (.slice 41) (.slice (List.map e_TDscb v.Sets))),(16,.c (.int .i64) (.int v16)),(17,.c (.int .i64) (.int v17))] [(9004,.box [.c .str (.str v.Serial),.c (.int .i64) (.int v.Cyls),.c (.int .i64) (.int v.Heads),.c (.int .i64) (.int v.Size),.c (.slice 41) (.slice (List.map e_TDscb v.Sets))]),(9005,.row 80 (List.map e_TExtent used_1))]
def vtoc_Free_b2 (n:Nat) (v:TVtoc) (v16:Int) (used_1:List TExtent) (v17:Int):Option (((List TExtent)×Int) ⊕ (((List TExtent)))) :=
  bif (decide (v17 < v16)) then
    gd ((0≤v17∧v17 < (v.Sets.length:Int))) <|
    gd ((used_1.length+((gt v.Sets (Int.toNat v17)).Extents).length)≤2147483648) <|
    some (.inl ((used_1 ++ (gt v.Sets (Int.toNat v17)).Extents),(jc .i64 (v17+1))))
  else
    some (.inr used_1)
def vtoc_Free (n:Nat) (v:TVtoc):Option (List TExtent) :=
  (vtoc_Check n v).bind fun r1 =>
  bif (r1 != 0) then
    some []
  else
    (loopF (fun (x:(List TExtent)×Int)=>vtoc_Free_b2 n v (v.Sets.length:Int) x.1 x.2) n ([(⟨0,(jc .i64 (v.Size+1))⟩:TExtent)],0)).bind fun y9 =>
    vtoc_Free_k1 n v y9
def xvtoc_Free (n:Nat):Go.AE.Fn:=mkFn (A:=TVtoc) (R:=(List TExtent)) 34 [(true,[.str,.int .i64,.int .i64,.int .i64,.slice 41])] false (fun xs=>(⟨(cg (xs.getD 0 []) 0).toStr,(cg (xs.getD 0 []) 1).toInt,(cg (xs.getD 0 []) 2).toInt,(cg (xs.getD 0 []) 3).toInt,((cg (xs.getD 0 []) 4).toSl.map d_TDscb)⟩:TVtoc)) (fun a=>[[.str a.Serial,.int a.Cyls,.int a.Heads,.int a.Size,.slice (List.map e_TDscb a.Sets)]]) (fun a=>vtoc_Free n a) (fun r=>[.own 0 [.int .i64,.int .i64] 0 r.length]) (fun r=>[.row 80 (List.map e_TExtent r)])
theorem cvtoc_Free (n:Nat):Contract jd (xvtoc_Free n):=by
  have hΓ:=g1 (cvtoc_Check n) (g1 (cextent_Free n) (@g0 (Contract jd)))
  have qe:=aI @xvtoc_Check.eq_1 @xextent_Free.eq_1
  refine contract_f (Tryz.f34.body.getD .skip) h00 Tryz.func34 rfl Tryz.call34 (by decide) (fun _ r=>⟨rfl,m1 ⟨80,_,_,rfl,ty80,rfl⟩ m0⟩) ?_
  rintro v r H
  try dsimp only at H
  unfold vtoc_Free at H
  simp only [Tryz.f34,jJ]
  refine rA ?_
  refine jA fun K2 hK2=>?_
  obtain ⟨r1,hr1,H⟩:=bind_some H
  have q:=aI qe hr1
  refine rAq ?_
  refine cnd H (fun h4 H=>?_) (fun h4 H=>?_)
  · refine rA ?_
    refine jF ?_
    refine lf ?_
    obtain rfl:=Option.some.inj H
    exact rto [none]
  refine jD ?_
  refine hK2 _ ?_
  refine rA ?_
  refine Jz (fun (x:(List TExtent))=>vtoc_Free_s1 v x) (fun x=>vtoc_Free_k1 n v x=some r) ?_ ?_
  · refine rA ?_
    refine jR ?_
    obtain ⟨y9,hy9,Ho9⟩:=bind_some H
    refine Jq _ (fun x=>vtoc_Free_t2 v (v.Sets.length:Int) x.1 x.2) hy9 (wb [some 16,some 208]) ?_
    rintro ⟨used_1,v17⟩ z9 H
    try dsimp only at H
    unfold vtoc_Free_b2 at H
    refine Sm.st (vtoc_Free_t2.eq_1 ..) ?_
    refine rA ?_
    refine jA fun K11 hK11=>?_
    refine cnd H (fun h12 H=>?_) (fun h12 H=>?_)
    · refine jD ?_
      refine hK11 _ ?_
      refine jA fun K13 hK13=>?_
      refine jR ?_
      obtain ⟨hg16,H⟩:=gd_some H
      refine rA ?_
      obtain ⟨hg15,H⟩:=gd_some H
      refine eA ?_
      refine hK13 _ ?_
      refine eA ?_
      refine lf ?_
      exact nx H (wb [some 9004,some 384])
    refine JE ?_
    refine lf ?_
    refine lx H fun hyy=>?_
    subst hyy
    have H:=Ho9
    try dsimp only at H
    refine lf ?_
    exact ⟨_,H,wb [some 9004,some 9005]⟩
  rintro used H
  try dsimp only at H
  unfold vtoc_Free_k1 at H
  refine Sm.st (vtoc_Free_s1.eq_1 ..) ?_
  obtain ⟨r2,hr2,H⟩:=bind_some H
  have q:=aI qe hr2
  refine rAq ?_
  refine jF ?_
  refine lf ?_
  obtain rfl:=Option.some.inj H
  exact rto [some 512]
abbrev extent_Check_s1:S:=stB [] []
def extent_Check_k1 (n:Nat):Option Bool :=
  some true
abbrev extent_Check_t2 (n_:Int) (l:List TExtent) (v9:Int) (end_:Int) (v10:Int):S:=stB [(1,.c (.int .i64) (.int n_)),(5,.c (.int .i64) (.int end_)),(8,.c (.slice 80) (.slice (List.map e_TExtent l))),(9,.c (.int .i64) (.int v9)),(10,.c (.int .i64) (.int v10))] []
def extent_Check_b2 (n:Nat) (n_:Int) (l:List TExtent) (v9:Int) (end_:Int) (v10:Int):Option ((Int×Int) ⊕ (((Bool) ⊕ (Unit)))) :=
  bif (decide (v10 < v9)) then
    gd ((0≤v10∧v10 < (l.length:Int))) <|
    (extent_valid n (gt l (Int.toNat v10))).bind fun r1 =>
    bif (if (if (!r1)=true then true else (decide (((gt l (Int.toNat v10)).At)≤end_)))=true then true else (decide ((jc .i64 (((gt l (Int.toNat v10)).At)+((gt l (Int.toNat v10)).Len))) > n_))) then
      some (.inr (.inl false))
    else
      some (.inl ((jc .i64 (((gt l (Int.toNat v10)).At)+((gt l (Int.toNat v10)).Len))),(jc .i64 (v10+1))))
  else
    some (.inr (.inr ()))
def extent_Check (n:Nat) (l:List TExtent) (n_:Int):Option Bool :=
  (loopF (fun (x:Int×Int)=>extent_Check_b2 n n_ l (l.length:Int) x.1 x.2) n ((-1),0)).bind fun y5 =>
  match y5 with
  | .inl vv =>
    some vv
  | .inr vv =>
    extent_Check_k1 n
def xextent_Check (n:Nat):Go.AE.Fn:=mkFn (A:=(List TExtent)×Int) (R:=Bool) 137 [(false,[.slice 80]),(false,[.int .i64])] false (fun xs=>(((cg (xs.getD 0 []) 0).toSl.map d_TExtent),(cg (xs.getD 1 []) 0).toInt)) (fun a=>[[.slice (List.map e_TExtent a.1)],[.int a.2]]) (fun a=>extent_Check n a.1 a.2) (fun r=>[.c .bool (.bool r)]) (fun r=>[])
theorem cextent_Check (n:Nat):Contract jd (xextent_Check n):=by
  have hΓ:=g1 (cextent_valid n) (@g0 (Contract jd))
  refine contract_f (Tryz.f137.body.getD .skip) h00 Tryz.func137 rfl Tryz.call137 (by decide) (by intro _ r;exact ⟨rfl,by simp⟩) ?_
  rintro ⟨l,n_⟩ r H
  try dsimp only at H
  unfold extent_Check at H
  simp only [Tryz.f137,jJ]
  refine rA ?_
  refine rA ?_
  refine Jz (fun (x:Unit)=>extent_Check_s1) (fun x=>extent_Check_k1 n=some r) ?_ ?_
  · refine rA ?_
    refine jR ?_
    obtain ⟨y5,hy5,Ho5⟩:=bind_some H
    refine Jq _ (fun x=>extent_Check_t2 n_ l (l.length:Int) x.1 x.2) hy5 (wb []) ?_
    rintro ⟨end_,v10⟩ z5 H
    try dsimp only at H
    unfold extent_Check_b2 at H
    refine Sm.st (extent_Check_t2.eq_1 ..) ?_
    refine rA ?_
    refine jA fun K7 hK7=>?_
    refine cnd H (fun h8 H=>?_) (fun h8 H=>?_)
    · refine jD ?_
      refine hK7 _ ?_
      refine jA fun K9 hK9=>?_
      refine jR ?_
      obtain ⟨hg15,H⟩:=gd_some H
      refine rA ?_
      refine jA fun K11 hK11=>?_
      obtain ⟨r1,hr1,H⟩:=bind_some H
      have q:=aI @xextent_valid.eq_1 hr1
      refine rAq ?_
      refine cnd H (fun h13 H=>?_) (fun h13 H=>?_)
      · refine rA ?_
        refine jF ?_
        refine lf ?_
        refine lx H fun hyy=>?_
        subst hyy
        have H:=Ho5
        try dsimp only at H
        refine lf ?_
        obtain rfl:=Option.some.inj H
        exact rt []
      refine jD ?_
      refine hK11 _ ?_
      refine eA ?_
      refine hK9 _ ?_
      refine eA ?_
      refine lf ?_
      exact nx H (wb [])
    refine JE ?_
    refine lf ?_
    refine lx H fun hyy=>?_
    subst hyy
    have H:=Ho5
    try dsimp only at H
    refine lf ?_
    exact ⟨(),H,wb []⟩
  rintro ⟨⟩ H
  try dsimp only at H
  unfold extent_Check_k1 at H
  refine Sm.st (extent_Check_s1.eq_1 ..) ?_
  refine rA ?_
  refine jF ?_
  refine lf ?_
  obtain rfl:=Option.some.inj H
  exact rt []
def slices_Delete_f138_M2 (n:Nat) (s:List TExtent) (s_l:Nat) (i:Int) (j:Int):Option (Nat×(List TExtent)) :=
  gd ((0≤i∧i≤j∧j≤((s_l:Nat):Int)∧((s_l:Nat):Int)≤(s_l:Int))) <|
  bif (i == j) then
    some (s_l,s)
  else
    gd ((0≤i∧i≤(s.length:Int))∧(0≤j∧j≤(s_l:Int)∧(s_l:Int)≤(s.length:Int))∧((Int.toNat (i - 0))+(List.take (Int.toNat ((s_l:Int) - j)) (List.drop (Int.toNat j) s)).length)≤s.length) <|
    gd ((0≤((((Int.toNat (i - 0))+(List.take (Int.toNat ((s_l:Int) - j)) (List.drop (Int.toNat j) s)).length):Nat):Int)∧((((Int.toNat (i - 0))+(List.take (Int.toNat ((s_l:Int) - j)) (List.drop (Int.toNat j) s)).length):Nat):Int)≤((s_l:Nat):Int)∧((s_l:Nat):Int)≤(s.length:Int))∧(((Int.toNat (i - 0))+(List.take (Int.toNat ((s_l:Int) - j)) (List.drop (Int.toNat j) s)).length)+(Int.toNat (((s_l:Nat):Int) - ((((Int.toNat (i - 0))+(List.take (Int.toNat ((s_l:Int) - j)) (List.drop (Int.toNat j) s)).length):Nat):Int))))≤s.length) <|
    some (((Int.toNat (i - 0))+(List.take (Int.toNat ((s_l:Int) - j)) (List.drop (Int.toNat j) s)).length),(overL (overL s (Int.toNat (i - 0)) (List.take (Int.toNat ((s_l:Int) - j)) (List.drop (Int.toNat j) s))) ((Int.toNat (i - 0))+(List.take (Int.toNat ((s_l:Int) - j)) (List.drop (Int.toNat j) s)).length) (zreps (Int.toNat (((s_l:Nat):Int) - ((((Int.toNat (i - 0))+(List.take (Int.toNat ((s_l:Int) - j)) (List.drop (Int.toNat j) s)).length):Nat):Int))) (⟨0,0⟩:TExtent))))
theorem cslices_Delete_f138_M2 (n:Nat) (s:List TExtent) (s_l:Nat) (i:Int) (j:Int) (r:Nat×(List TExtent)) (H:slices_Delete_f138_M2 n s s_l i j=some r):CallsM jd 138 [.ref (.own 0 [.int .i64,.int .i64] 0 s_l),.dat (false,[.int .i64]) [.int i],.dat (false,[.int .i64]) [.int j]] [.row 80 (List.map e_TExtent s)] [.own 0 [.int .i64,.int .i64] 0 r.1] [.row 80 (List.map e_TExtent r.2)]:=by
  have hΓ:=@g0 (Contract jd)
  refine callsM_of (Tryz.f138.body.getD .skip) h00 Tryz.func138 rfl Tryz.call138 (jp rfl) (jp rfl) ?_
  unfold slices_Delete_f138_M2 at H
  simp only [Tryz.f138,jJ]
  refine rA ?_
  refine sX fun K2 hK2=>?_
  obtain ⟨hg3,H⟩:=gd_some H
  iterate 5 refine oX ?_
  refine oY ?_
  refine hK2 _ ?_
  refine jA fun K4 hK4=>?_
  refine rA ?_
  refine cnd H (fun h6 H=>?_) (fun h6 H=>?_)
  · refine rA ?_
    refine jF ?_
    refine lf ?_
    obtain rfl:=Option.some.inj H
    exact rtM [some 0]
  refine jD ?_
  refine hK4 _ ?_
  refine rA ?_
  obtain ⟨⟨hg14,hg15,hg16⟩,H⟩:=gd_some H
  refine rD ?_
  refine sX fun K10 hK10=>?_
  obtain ⟨⟨hg11,hg12⟩,H⟩:=gd_some H
  iterate 5 refine oX ?_
  refine oY ?_
  refine hK10 _ ?_
  refine rA ?_
  refine jF ?_
  refine lf ?_
  obtain rfl:=Option.some.inj H
  exact rtM [some 0]
abbrev extent_Take_s1:S:=stB [] []
def extent_Take_k1 (n:Nat):Option ((List TExtent)×(List TExtent)×Int) :=
  some ([],[],200)
abbrev extent_Take_s3 (want_1:Int) (most:Int) (got:List TExtent) (rest:List TExtent) (rest_2:Nat) (longest:Int):S:=stB [(1,.c (.int .i64) (.int want_1)),(2,.c (.int .i64) (.int most)),(6,.own 9005 [.int .i64,.int .i64] 0 got.length),(7,.own 9006 [.int .i64,.int .i64] 0 rest_2),(9,.c (.int .i64) (.int longest))] [(9005,.row 80 (List.map e_TExtent got)),(9006,.row 80 (List.map e_TExtent rest))]
def extent_Take_k3 (n:Nat) (want_1:Int) (most:Int) (got:List TExtent) (rest:List TExtent) (rest_2:Nat) (longest:Int):Option ((Int×(List TExtent)×(List TExtent)×Nat) ⊕ ((((List TExtent)×(List TExtent)×Int) ⊕ (Unit)))) :=
  gd ((0≤longest∧longest < (rest_2:Int))∧(Int.toNat longest) < rest.length∧(got.length+1)≤2147483648) <|
  gd ((0≤longest∧longest < (rest_2:Int))∧(Int.toNat longest) < rest.length) <|
  (slices_Delete_f138_M2 n rest rest_2 longest (jc .i64 (longest+1))).bind fun r3 =>
  some (.inl ((jc .i64 (want_1 - ((gt rest (Int.toNat longest)).Len))),(got ++ [(gt rest (Int.toNat longest))]),r3.2,r3.1))
abbrev extent_Take_s5 (want_1:Int) (most:Int) (got:List TExtent) (rest:List TExtent) (rest_4:Nat) (longest_2:Int) (v35:Int) (v36:Int):S:=stB [(1,.c (.int .i64) (.int want_1)),(2,.c (.int .i64) (.int most)),(6,.own 9013 [.int .i64,.int .i64] 0 got.length),(7,.own 9014 [.int .i64,.int .i64] 0 rest_4),(9,.c (.int .i64) (.int longest_2)),(34,.own 9014 [.int .i64,.int .i64] 0 rest_4),(35,.c (.int .i64) (.int v35)),(36,.c (.int .i64) (.int v36))] [(9013,.row 80 (List.map e_TExtent got)),(9014,.row 80 (List.map e_TExtent rest))]
def extent_Take_k5 (n:Nat) (want_1:Int) (most:Int) (got:List TExtent) (rest:List TExtent) (rest_4:Nat) (longest_2:Int) (v35:Int) (v36:Int):Option ((Nat×Int×Int) ⊕ ((((List TExtent)×(List TExtent)×Int) ⊕ (Nat×Int)))) :=
  some (.inl (rest_4,longest_2,(jc .i64 (v36+1))))
abbrev extent_Take_t4 (want_1:Int) (most:Int) (got:List TExtent) (rest:List TExtent) (v35:Int) (rest_3:Nat) (longest_1:Int) (v36:Int):S:=stB [(1,.c (.int .i64) (.int want_1)),(2,.c (.int .i64) (.int most)),(6,.own 9011 [.int .i64,.int .i64] 0 got.length),(7,.own 9012 [.int .i64,.int .i64] 0 rest_3),(9,.c (.int .i64) (.int longest_1)),(34,.own 9012 [.int .i64,.int .i64] 0 rest_3),(35,.c (.int .i64) (.int v35)),(36,.c (.int .i64) (.int v36))] [(9011,.row 80 (List.map e_TExtent got)),(9012,.row 80 (List.map e_TExtent rest))]
def extent_Take_b4 (n:Nat) (want_1:Int) (most:Int) (got:List TExtent) (rest:List TExtent) (v35:Int) (rest_3:Nat) (longest_1:Int) (v36:Int):Option ((Nat×Int×Int) ⊕ ((((List TExtent)×(List TExtent)×Int) ⊕ (Nat×Int)))) :=
  bif (decide (v36 < v35)) then
    gd ((0≤v36∧v36 < (rest_3:Int))∧(Int.toNat v36) < rest.length) <|
    bif (decide (((gt rest (Int.toNat v36)).Len) > want_1)) then
      gd ((got.length+1)≤2147483648) <|
      gd ((0≤v36∧v36 < (rest_3:Int))∧(Int.toNat v36) < rest.length) <|
      some (.inr (.inl ((got ++ [(⟨(gt rest (Int.toNat v36)).At,want_1⟩:TExtent)]),(List.take rest_3 (List.set rest (Int.toNat v36) (⟨(jc .i64 (((gt rest (Int.toNat v36)).At)+want_1)),(jc .i64 (((gt rest (Int.toNat v36)).Len) - want_1))⟩:TExtent))),0)))
    else
      bif (((gt rest (Int.toNat v36)).Len) == want_1) then
        gd ((got.length+1)≤2147483648) <|
        (slices_Delete_f138_M2 n rest rest_3 v36 (jc .i64 (v36+1))).bind fun r4 =>
        some (.inr (.inl ((got ++ [(gt rest (Int.toNat v36))]),(List.take r4.1 r4.2),0)))
      else
        gd ((0≤longest_1∧longest_1 < (rest_3:Int))∧(Int.toNat longest_1) < rest.length) <|
        bif (decide (((gt rest (Int.toNat v36)).Len) > ((gt rest (Int.toNat longest_1)).Len))) then
          extent_Take_k5 n want_1 most got rest rest_3 v36 v35 v36
        else
          extent_Take_k5 n want_1 most got rest rest_3 longest_1 v35 v36
  else
    some (.inr (.inr (rest_3,longest_1)))
abbrev extent_Take_t2 (most:Int) (want_1:Int) (got:List TExtent) (rest:List TExtent) (rest_1:Nat):S:=stB [(1,.c (.int .i64) (.int want_1)),(2,.c (.int .i64) (.int most)),(6,.own 9003 [.int .i64,.int .i64] 0 got.length),(7,.own 9004 [.int .i64,.int .i64] 0 rest_1)] [(9003,.row 80 (List.map e_TExtent got)),(9004,.row 80 (List.map e_TExtent rest))]
def extent_Take_b2 (n:Nat) (most:Int) (want_1:Int) (got:List TExtent) (rest:List TExtent) (rest_1:Nat):Option ((Int×(List TExtent)×(List TExtent)×Nat) ⊕ ((((List TExtent)×(List TExtent)×Int) ⊕ (Unit)))) :=
  bif (if (decide (((got.length:Nat):Int) < most))=true then (decide (((rest_1:Nat):Int) > 0)) else false) then
    (loopF (fun (x:Nat×Int×Int)=>extent_Take_b4 n want_1 most got rest ((rest_1:Nat):Int) x.1 x.2.1 x.2.2) n (rest_1,0,0)).bind fun y23 =>
    match y23 with
    | .inl vv =>
      some (.inr (.inl (vv.1,vv.2.1,vv.2.2)))
    | .inr vv =>
      extent_Take_k3 n want_1 most got rest vv.1 vv.2
  else
    some (.inr (.inr ()))
def extent_Take (n:Nat) (free:List TExtent) (want:Int) (most:Int):Option ((List TExtent)×(List TExtent)×Int) :=
  (extent_Check n free 512).bind fun r1 =>
  bif (if (if (!r1)=true then true else (decide (want < 1)))=true then true else (decide (most < 1))) then
    some ([],[],1)
  else
    (slices_Clone_f118 n free).bind fun r2 =>
    (loopF (fun (x:Int×(List TExtent)×(List TExtent)×Nat)=>extent_Take_b2 n most x.1 x.2.1 x.2.2.1 x.2.2.2) n (want,[],r2,r2.length)).bind fun y9 =>
    match y9 with
    | .inl vv =>
      some (vv.1,vv.2.1,vv.2.2)
    | .inr vv =>
      extent_Take_k1 n
def xextent_Take (n:Nat):Go.AE.Fn:=mkFn (A:=(List TExtent)×Int×Int) (R:=(List TExtent)×(List TExtent)×Int) 85 [(false,[.slice 80]),(false,[.int .i64]),(false,[.int .i64])] true (fun xs=>(((cg (xs.getD 0 []) 0).toSl.map d_TExtent),(cg (xs.getD 1 []) 0).toInt,(cg (xs.getD 2 []) 0).toInt)) (fun a=>[[.slice (List.map e_TExtent a.1)],[.int a.2.1],[.int a.2.2]]) (fun a=>extent_Take n a.1 a.2.1 a.2.2) (fun r=>[.own 0 [.int .i64,.int .i64] 0 r.1.length,.c (.slice 80) (.slice (List.map e_TExtent r.2.1)),.c (.int .i64) (.int r.2.2)]) (fun r=>[.row 80 (List.map e_TExtent r.1)])
theorem cextent_Take (n:Nat):Contract jd (xextent_Take n):=by
  have hΓ:=g1 (cextent_Check n) (g1 (cslices_Clone_f118 n) (@g0 (Contract jd)))
  have qe:=aI @xextent_Check.eq_1 @xslices_Clone_f118.eq_1
  refine contract_f (Tryz.f85.body.getD .skip) h00 Tryz.func85 rfl Tryz.call85 (by decide) (by intro h;cases h) ?_
  rintro ⟨free,want,most⟩ r H
  try dsimp only at H
  unfold extent_Take at H
  simp only [Tryz.f85,jJ]
  refine rA ?_
  refine Sm.scope ?_
  refine jA fun K2 hK2=>?_
  obtain ⟨r1,hr1,H⟩:=bind_some H
  have q:=aI qe hr1
  refine rAq ?_
  refine cnd H (fun h4 H=>?_) (fun h4 H=>?_)
  · refine rA ?_
    refine jF ?_
    refine lf ?_
    obtain rfl:=Option.some.inj H
    exact rto [none]
  refine jD ?_
  refine hK2 _ ?_
  obtain ⟨r2,hr2,H⟩:=bind_some H
  have q:=aI qe hr2
  refine rAq ?_
  refine jA fun K7 hK7=>?_
  refine Sm.of (Γ:=[]) h00 mixed (by simp) rfl ?_
  refine hK7 _ ?_
  refine Jz (fun (x:Unit)=>extent_Take_s1) (fun x=>extent_Take_k1 n=some r) ?_ ?_
  · refine jR ?_
    obtain ⟨y9,hy9,Ho9⟩:=bind_some H
    refine Jq _ (fun x=>extent_Take_t2 most x.1 x.2.1 x.2.2.1 x.2.2.2) hy9 (wb [none,some 384]) ?_
    rintro ⟨want_1,got,rest,rest_1⟩ z9 H
    try dsimp only at H
    unfold extent_Take_b2 at H
    refine Sm.st (extent_Take_t2.eq_1 ..) ?_
    refine jA fun K10 hK10=>?_
    refine rA ?_
    refine cnd H (fun h12 H=>?_) (fun h12 H=>?_)
    · refine jD ?_
      refine hK10 _ ?_
      refine jR ?_
      refine rA ?_
      refine Jz (fun (x:Nat×Int)=>extent_Take_s3 want_1 most got rest x.1 x.2) (fun x=>extent_Take_k3 n want_1 most got rest x.1 x.2=some z9) ?_ ?_
      · refine rA ?_
        refine jR ?_
        obtain ⟨y23,hy23,Ho23⟩:=bind_some H
        refine Jq _ (fun x=>extent_Take_t4 want_1 most got rest ((rest_1:Nat):Int) x.1 x.2.1 x.2.2) hy23 (wb [some 9003,some 9004]) ?_
        rintro ⟨rest_3,longest_1,v36⟩ z23 H
        try dsimp only at H
        unfold extent_Take_b4 at H
        refine Sm.st (extent_Take_t4.eq_1 ..) ?_
        refine rA ?_
        refine jA fun K25 hK25=>?_
        refine cnd H (fun h26 H=>?_) (fun h26 H=>?_)
        · refine jD ?_
          refine hK25 _ ?_
          refine Jz (fun (x:Int)=>extent_Take_s5 want_1 most got rest rest_3 x ((rest_1:Nat):Int) v36) (fun x=>extent_Take_k5 n want_1 most got rest rest_3 x ((rest_1:Nat):Int) v36=some z23) ?_ ?_
          · refine jR ?_
            obtain ⟨⟨hg47,hg48⟩,H⟩:=gd_some H
            refine rA ?_
            refine jA fun K28 hK28=>?_
            refine rA ?_
            refine cnd H (fun h30 H=>?_) (fun h30 H=>?_)
            · obtain ⟨hg36,H⟩:=gd_some H
              refine rA ?_
              obtain ⟨⟨hg34,hg35⟩,H⟩:=gd_some H
              refine rA ?_
              refine rA ?_
              refine jF ?_
              refine lf ?_
              refine lx H fun hyy=>?_
              subst hyy
              have H:=Ho23
              try dsimp only at H
              refine lf ?_
              refine lx H fun hyy=>?_
              subst hyy
              have H:=Ho9
              try dsimp only at H
              refine lf ?_
              obtain rfl:=Option.some.inj H
              exact rto [some 816]
            refine jD ?_
            refine hK28 _ ?_
            refine jA fun K37 hK37=>?_
            refine rA ?_
            refine cnd H (fun h39 H=>?_) (fun h39 H=>?_)
            · obtain ⟨hg42,H⟩:=gd_some H
              refine rA ?_
              refine sX fun K41 hK41=>?_
              obtain ⟨r4,hr4,H⟩:=bind_some H
              have q:=hr4
              iterate 5 refine oX ?_
              refine oMq (cslices_Delete_f138_M2 n _ _ _ _ r4 hr4) [9012] [] ?_
              iterate 3 refine oXq ?_
              refine hK41 _ ?_
              refine jF ?_
              refine lf ?_
              refine lx H fun hyy=>?_
              subst hyy
              have H:=Ho23
              try dsimp only at H
              refine lf ?_
              refine lx H fun hyy=>?_
              subst hyy
              have H:=Ho9
              try dsimp only at H
              refine lf ?_
              obtain rfl:=Option.some.inj H
              exact rto [some 1168]
            refine jD ?_
            refine hK37 _ ?_
            obtain ⟨⟨hg45,hg46⟩,H⟩:=gd_some H
            refine rD ?_
            refine cnd H (fun h44 H=>?_) (fun h44 H=>?_)
            · refine eA ?_
              refine lf ?_
              exact ⟨_,H,wb [some 9011,some 9012]⟩
            refine jD ?_
            refine lf ?_
            exact ⟨_,H,wb [some 9011,some 9012]⟩
          rintro longest_2 H
          try dsimp only at H
          unfold extent_Take_k5 at H
          refine Sm.st (extent_Take_s5.eq_1 ..) ?_
          refine eA ?_
          refine lf ?_
          exact nx H (wb [some 9013,some 9014])
        refine JE ?_
        refine lf ?_
        refine lx H fun hyy=>?_
        subst hyy
        have H:=Ho23
        try dsimp only at H
        refine lf ?_
        exact ⟨(rest_3,longest_1),H,wb [some 9011,some 9012]⟩
      rintro ⟨rest_2,longest⟩ H
      try dsimp only at H
      unfold extent_Take_k3 at H
      refine Sm.st (extent_Take_s3.eq_1 ..) ?_
      obtain ⟨⟨hg19,hg20,hg21⟩,H⟩:=gd_some H
      refine rA ?_
      obtain ⟨⟨hg17,hg18⟩,H⟩:=gd_some H
      refine rA ?_
      refine sX fun K16 hK16=>?_
      obtain ⟨r3,hr3,H⟩:=bind_some H
      have q:=hr3
      iterate 4 refine oX ?_
      refine oMq (cslices_Delete_f138_M2 n _ _ _ _ r3 hr3) [9006] [] ?_
      refine oXq ?_
      refine hK16 _ ?_
      refine JE ?_
      refine lf ?_
      exact nx H (wb [some 1536,some 9006])
    refine JE ?_
    refine lf ?_
    refine lx H fun hyy=>?_
    subst hyy
    have H:=Ho9
    try dsimp only at H
    refine lf ?_
    exact ⟨(),H,wb []⟩
  rintro ⟨⟩ H
  try dsimp only at H
  unfold extent_Take_k1 at H
  refine Sm.st (extent_Take_s1.eq_1 ..) ?_
  refine rA ?_
  refine jF ?_
  refine lf ?_
  obtain rfl:=Option.some.inj H
  exact rto [none]
abbrev vtoc_Vtoc__copied_s1 (v:TVtoc) (l:List TDscb):S:=stB [(1,.box 9000 0),(2,.box 9001 0),(3,.own 9002 [.str,.int .i64,.int .i64,.bool,.bool,.int .i64,.int .i64,.int .i64,.int .i64,.slice 80,.int .i64] 0 l.length)] [(9000,.box [.c .str (.str v.Serial),.c (.int .i64) (.int v.Cyls),.c (.int .i64) (.int v.Heads),.c (.int .i64) (.int v.Size),.c (.slice 41) (.slice (List.map e_TDscb v.Sets))]),(9001,.box [.c .str (.str []),.c (.int .i64) (.int 0),.c (.int .i64) (.int 0),.c (.int .i64) (.int 0),.nilsl]),(9002,.row 41 (List.map e_TDscb l))]
def vtoc_Vtoc__copied_k1 (n:Nat) (v:TVtoc) (l:List TDscb):Option TVtoc :=
  some (⟨v.Serial,v.Cyls,v.Heads,v.Size,l⟩:TVtoc)
abbrev vtoc_Vtoc__copied_t2 (v:TVtoc) (v16:Int) (l_1:List TDscb) (v17:Int):S:=stB [(1,.box 9006 0),(2,.box 9007 0),(3,.own 9008 [.str,.int .i64,.int .i64,.bool,.bool,.int .i64,.int .i64,.int .i64,.int .i64,.slice 80,.int .i64] 0 l_1.length),(15,.c (.slice 41) (.slice (List.map e_TDscb v.Sets))),(16,.c (.int .i64) (.int v16)),(17,.c (.int .i64) (.int v17))] [(9006,.box [.c .str (.str v.Serial),.c (.int .i64) (.int v.Cyls),.c (.int .i64) (.int v.Heads),.c (.int .i64) (.int v.Size),.c (.slice 41) (.slice (List.map e_TDscb v.Sets))]),(9007,.box [.c .str (.str []),.c (.int .i64) (.int 0),.c (.int .i64) (.int 0),.c (.int .i64) (.int 0),.nilsl]),(9008,.row 41 (List.map e_TDscb l_1))]
def vtoc_Vtoc__copied_b2 (n:Nat) (v:TVtoc) (v16:Int) (l_1:List TDscb) (v17:Int):Option (((List TDscb)×Int) ⊕ (((List TDscb)))) :=
  bif (decide (v17 < v16)) then
    gd ((0≤v17∧v17 < (v.Sets.length:Int))) <|
    (slices_Clone_f118 n ((gt v.Sets (Int.toNat v17)).Extents)).bind fun r1 =>
    gd ((0≤v17∧v17 < (l_1.length:Int))∧(Int.toNat v17) < l_1.length) <|
    some (.inl ((List.set l_1 (Int.toNat v17) (⟨(gt v.Sets (Int.toNat v17)).Name,((gt v.Sets (Int.toNat v17)).Dcb),r1,(gt v.Sets (Int.toNat v17)).Used⟩:TDscb)),(jc .i64 (v17+1))))
  else
    some (.inr l_1)
def vtoc_Vtoc__copied (n:Nat) (v:TVtoc):Option TVtoc :=
  gd ((0≤(v.Sets.length:Int)∧(v.Sets.length:Int)≤(jc .i64 ((v.Sets.length:Int)+1))∧(jc .i64 ((v.Sets.length:Int)+1))≤2147483648)) <|
  (loopF (fun (x:(List TDscb)×Int)=>vtoc_Vtoc__copied_b2 n v (v.Sets.length:Int) x.1 x.2) n ((zreps (Int.toNat (v.Sets.length:Int)) (⟨[],(⟨0,0,false,false,0,0,0,0⟩:TDcb),[],0⟩:TDscb)),0)).bind fun y7 =>
  vtoc_Vtoc__copied_k1 n v y7
def xvtoc_Vtoc__copied (n:Nat):Go.AE.Fn:=mkFn (A:=TVtoc) (R:=TVtoc) 57 [(true,[.str,.int .i64,.int .i64,.int .i64,.slice 41])] true (fun xs=>(⟨(cg (xs.getD 0 []) 0).toStr,(cg (xs.getD 0 []) 1).toInt,(cg (xs.getD 0 []) 2).toInt,(cg (xs.getD 0 []) 3).toInt,((cg (xs.getD 0 []) 4).toSl.map d_TDscb)⟩:TVtoc)) (fun a=>[[.str a.Serial,.int a.Cyls,.int a.Heads,.int a.Size,.slice (List.map e_TDscb a.Sets)]]) (fun a=>vtoc_Vtoc__copied n a) (fun r=>[.agg [.c .str (.str r.Serial),.c (.int .i64) (.int r.Cyls),.c (.int .i64) (.int r.Heads),.c (.int .i64) (.int r.Size),.own 0 [.str,.int .i64,.int .i64,.bool,.bool,.int .i64,.int .i64,.int .i64,.int .i64,.slice 80,.int .i64] 0 r.Sets.length]]) (fun r=>[.row 41 (List.map e_TDscb r.Sets)])
theorem cvtoc_Vtoc__copied (n:Nat):Contract jd (xvtoc_Vtoc__copied n):=by
  have hΓ:=g1 (cslices_Clone_f118 n) (@g0 (Contract jd))
  refine contract_f (Tryz.f57.body.getD .skip) h00 Tryz.func57 rfl Tryz.call57 (by decide) (by intro h;cases h) ?_
  rintro v r H
  try dsimp only at H
  unfold vtoc_Vtoc__copied at H
  simp only [Tryz.f57,jJ]
  refine rA ?_
  refine sX fun K2 hK2=>?_
  obtain ⟨hg3,H⟩:=gd_some H
  iterate 7 refine oX ?_
  refine oY ?_
  refine oX ?_
  refine hK2 _ ?_
  refine Jz (fun (x:(List TDscb))=>vtoc_Vtoc__copied_s1 v x) (fun x=>vtoc_Vtoc__copied_k1 n v x=some r) ?_ ?_
  · refine rA ?_
    refine jR ?_
    obtain ⟨y7,hy7,Ho7⟩:=bind_some H
    refine Jq _ (fun x=>vtoc_Vtoc__copied_t2 v (v.Sets.length:Int) x.1 x.2) hy7 (wb [some 16,some 32,some 208]) ?_
    rintro ⟨l_1,v17⟩ z7 H
    try dsimp only at H
    unfold vtoc_Vtoc__copied_b2 at H
    refine Sm.st (vtoc_Vtoc__copied_t2.eq_1 ..) ?_
    refine rA ?_
    refine jA fun K9 hK9=>?_
    refine cnd H (fun h10 H=>?_) (fun h10 H=>?_)
    · refine jD ?_
      refine hK9 _ ?_
      refine jA fun K11 hK11=>?_
      refine jR ?_
      obtain ⟨hg16,H⟩:=gd_some H
      refine rA ?_
      obtain ⟨r1,hr1,H⟩:=bind_some H
      have q:=aI @xslices_Clone_f118.eq_1 hr1
      refine rAq ?_
      obtain ⟨⟨hg14,hg15⟩,H⟩:=gd_some H
      refine eA ?_
      refine hK11 _ ?_
      refine eA ?_
      refine lf ?_
      exact nx H (wb [some 9006,some 9007,some 9008])
    refine JE ?_
    refine lf ?_
    refine lx H fun hyy=>?_
    subst hyy
    have H:=Ho7
    try dsimp only at H
    refine lf ?_
    exact ⟨_,H,wb [some 9006,some 9007,some 9008]⟩
  rintro l H
  try dsimp only at H
  unfold vtoc_Vtoc__copied_k1 at H
  refine Sm.st (vtoc_Vtoc__copied_s1.eq_1 ..) ?_
  refine rA ?_
  refine rA ?_
  refine jF ?_
  refine lf ?_
  obtain rfl:=Option.some.inj H
  exact rto [some 9002]
def vtoc_Create (n:Nat) (v:TVtoc) (d:TDscb) (tracks:Int):Option (TVtoc×Int) :=
  (vtoc_Check n v).bind fun r1 =>
  bif (r1 != 0) then
    some ((⟨[],0,0,0,[]⟩:TVtoc),r1)
  else
    (vtoc_Name n d.Name).bind fun r2 =>
    gd (((!(!r2))=true→(vtoc_described n d.Dcb).isSome=true)) <|
    bif (if (if (!r2)=true then true else (!((vtoc_described n d.Dcb).getD default)))=true then true else (decide (tracks < 1))) then
      some ((⟨[],0,0,0,[]⟩:TVtoc),1)
    else
      (vtoc_Vtoc__index n v d.Name).bind fun r3 =>
      bif r3.2 then
        some ((⟨[],0,0,0,[]⟩:TVtoc),4)
      else
        bif ((v.Sets.length:Int) == (if (jc .i64 (14 * v.Size)) < 64 then (jc .i64 (14 * v.Size)) else 64)) then
          some ((⟨[],0,0,0,[]⟩:TVtoc),7)
        else
          (vtoc_Free n v).bind fun r4 =>
          (extent_Take n r4 tracks 8).bind fun r5 =>
          bif (r5.2.2 != 0) then
            some ((⟨[],0,0,0,[]⟩:TVtoc),r5.2.2)
          else
            (vtoc_Vtoc__copied n v).bind fun r6 =>
            (slices_Insert_h n r6.Sets r3.1 [(⟨d.Name,d.Dcb,r5.1,0⟩:TDscb)]).bind fun r7 =>
            some ((⟨r6.Serial,r6.Cyls,r6.Heads,r6.Size,r7⟩:TVtoc),0)
def xvtoc_Create (n:Nat):Go.AE.Fn:=mkFn (A:=TVtoc×TDscb×Int) (R:=TVtoc×Int) 41 [(true,[.str,.int .i64,.int .i64,.int .i64,.slice 41]),(true,[.str,.int .i64,.int .i64,.bool,.bool,.int .i64,.int .i64,.int .i64,.int .i64,.slice 80,.int .i64]),(false,[.int .i64])] true (fun xs=>((⟨(cg (xs.getD 0 []) 0).toStr,(cg (xs.getD 0 []) 1).toInt,(cg (xs.getD 0 []) 2).toInt,(cg (xs.getD 0 []) 3).toInt,((cg (xs.getD 0 []) 4).toSl.map d_TDscb)⟩:TVtoc),(⟨(cg (xs.getD 1 []) 0).toStr,(⟨(cg (xs.getD 1 []) 1).toInt,(cg (xs.getD 1 []) 2).toInt,(cg (xs.getD 1 []) 3).toBool,(cg (xs.getD 1 []) 4).toBool,(cg (xs.getD 1 []) 5).toInt,(cg (xs.getD 1 []) 6).toInt,(cg (xs.getD 1 []) 7).toInt,(cg (xs.getD 1 []) 8).toInt⟩:TDcb),((cg (xs.getD 1 []) 9).toSl.map d_TExtent),(cg (xs.getD 1 []) 10).toInt⟩:TDscb),(cg (xs.getD 2 []) 0).toInt)) (fun a=>[[.str a.1.Serial,.int a.1.Cyls,.int a.1.Heads,.int a.1.Size,.slice (List.map e_TDscb a.1.Sets)],[.str a.2.1.Name,.int a.2.1.Dcb.Org,.int a.2.1.Dcb.Format,.bool a.2.1.Dcb.Blocked,.bool a.2.1.Dcb.Asa,.int a.2.1.Dcb.Lrecl,.int a.2.1.Dcb.Blksize,.int a.2.1.Dcb.KeyLen,.int a.2.1.Dcb.KeyPos,.slice (List.map e_TExtent a.2.1.Extents),.int a.2.1.Used],[.int a.2.2]]) (fun a=>vtoc_Create n a.1 a.2.1 a.2.2) (fun r=>[.agg [.c .str (.str r.1.Serial),.c (.int .i64) (.int r.1.Cyls),.c (.int .i64) (.int r.1.Heads),.c (.int .i64) (.int r.1.Size),.own 0 [.str,.int .i64,.int .i64,.bool,.bool,.int .i64,.int .i64,.int .i64,.int .i64,.slice 80,.int .i64] 0 r.1.Sets.length],.c (.int .i64) (.int r.2)]) (fun r=>[.row 41 (List.map e_TDscb r.1.Sets)])
theorem cvtoc_Create (n:Nat):Contract jd (xvtoc_Create n):=by
  have hΓ:=g1 (cvtoc_Check n) (g1 (cvtoc_Name n) (g1 (cvtoc_described n) (g1 (cvtoc_Vtoc__index n) (g1 (cvtoc_Free n) (g1 (cextent_Take n) (g1 (cvtoc_Vtoc__copied n) (@g0 (Contract jd))))))))
  have qe:=aI @xvtoc_Check.eq_1 (aI @xvtoc_Name.eq_1 (aI @xvtoc_described.eq_1 (aI @xvtoc_Vtoc__index.eq_1 (aI @xvtoc_Free.eq_1 (aI @xextent_Take.eq_1 @xvtoc_Vtoc__copied.eq_1)))))
  refine contract_f (Tryz.f41.body.getD .skip) h00 Tryz.func41 rfl Tryz.call41 (by decide) (by intro h;cases h) ?_
  rintro ⟨v,d,tracks⟩ r H
  try dsimp only at H
  unfold vtoc_Create at H
  simp only [Tryz.f41,jJ]
  refine rA ?_
  refine jA fun K2 hK2=>?_
  obtain ⟨r1,hr1,H⟩:=bind_some H
  have q:=aI qe hr1
  refine rAq ?_
  refine rA ?_
  refine cnd H (fun h5 H=>?_) (fun h5 H=>?_)
  · refine rA ?_
    refine jF ?_
    refine lf ?_
    obtain rfl:=Option.some.inj H
    exact rto [none]
  refine jD ?_
  refine hK2 _ ?_
  refine jA fun K7 hK7=>?_
  obtain ⟨r2,hr2,H⟩:=bind_some H
  obtain ⟨hg28,H⟩:=gd_some H
  have q:=aI qe hr2
  refine rAq ?_
  refine cnd H (fun h9 H=>?_) (fun h9 H=>?_)
  · refine rA ?_
    refine jF ?_
    refine lf ?_
    obtain rfl:=Option.some.inj H
    exact rto [none]
  refine jD ?_
  refine hK7 _ ?_
  obtain ⟨r3,hr3,H⟩:=bind_some H
  have q:=aI qe hr3
  refine rAq ?_
  refine jA fun K12 hK12=>?_
  refine rA ?_
  refine cnd H (fun h14 H=>?_) (fun h14 H=>?_)
  · refine rA ?_
    refine jF ?_
    refine lf ?_
    obtain rfl:=Option.some.inj H
    exact rto [none]
  refine jD ?_
  refine hK12 _ ?_
  refine jA fun K16 hK16=>?_
  refine rA ?_
  refine cnd H (fun h18 H=>?_) (fun h18 H=>?_)
  · refine rA ?_
    refine jF ?_
    refine lf ?_
    obtain rfl:=Option.some.inj H
    exact rto [none]
  refine jD ?_
  refine hK16 _ ?_
  obtain ⟨r4,hr4,H⟩:=bind_some H
  obtain ⟨r5,hr5,H⟩:=bind_some H
  have q:=aI qe (aI hr4 hr5)
  refine rAq ?_
  refine jA fun K21 hK21=>?_
  refine rA ?_
  refine cnd H (fun h23 H=>?_) (fun h23 H=>?_)
  · refine rA ?_
    refine jF ?_
    refine lf ?_
    obtain rfl:=Option.some.inj H
    exact rto [none]
  refine jD ?_
  refine hK21 _ ?_
  obtain ⟨r6,hr6,H⟩:=bind_some H
  have q:=aI qe hr6
  refine rAq ?_
  refine sX fun K26 hK26=>?_
  obtain ⟨r7,hr7,H⟩:=bind_some H
  have q:=hr7
  iterate 10 refine oX ?_
  refine oMq (cslices_Insert_h n _ _ _ r7 hr7) [1072,1232] [1248] ?_
  iterate 2 refine oXq ?_
  refine hK26 _ ?_
  refine rA ?_
  refine jF ?_
  refine lf ?_
  obtain rfl:=Option.some.inj H
  exact rto [some 1248]
abbrev extent_Keep_s1 (kept:List TExtent) (rest:List TExtent):S:=stB [(4,.own 9000 [.int .i64,.int .i64] 0 kept.length),(5,.own 9001 [.int .i64,.int .i64] 0 rest.length)] [(9000,.row 80 (List.map e_TExtent kept)),(9001,.row 80 (List.map e_TExtent rest))]
def extent_Keep_k1 (n:Nat) (kept:List TExtent) (rest:List TExtent):Option ((List TExtent)×(List TExtent)) :=
  some (kept,rest)
abbrev extent_Keep_s3 (n__2:Int) (kept_2:List TExtent) (rest_2:List TExtent) (l:List TExtent) (v15:Int) (v16:Int):S:=stB [(1,.c (.int .i64) (.int n__2)),(4,.own 9006 [.int .i64,.int .i64] 0 kept_2.length),(5,.own 9007 [.int .i64,.int .i64] 0 rest_2.length),(14,.c (.slice 80) (.slice (List.map e_TExtent l))),(15,.c (.int .i64) (.int v15)),(16,.c (.int .i64) (.int v16))] [(9006,.row 80 (List.map e_TExtent kept_2)),(9007,.row 80 (List.map e_TExtent rest_2))]
def extent_Keep_k3 (n:Nat) (n__2:Int) (kept_2:List TExtent) (rest_2:List TExtent) (l:List TExtent) (v15:Int) (v16:Int):Option ((Int×(List TExtent)×(List TExtent)×Int) ⊕ (((List TExtent)×(List TExtent)))) :=
  some (.inl (n__2,kept_2,rest_2,(jc .i64 (v16+1))))
abbrev extent_Keep_s5 (n__1:Int) (kept_3:List TExtent) (rest_3:List TExtent) (k:Int) (l:List TExtent) (v15:Int) (v16:Int):S:=stB [(1,.c (.int .i64) (.int n__1)),(4,.own 9011 [.int .i64,.int .i64] 0 kept_3.length),(5,.own 9012 [.int .i64,.int .i64] 0 rest_3.length),(8,.c (.int .i64) (.int k)),(14,.c (.slice 80) (.slice (List.map e_TExtent l))),(15,.c (.int .i64) (.int v15)),(16,.c (.int .i64) (.int v16))] [(9011,.row 80 (List.map e_TExtent kept_3)),(9012,.row 80 (List.map e_TExtent rest_3))]
def extent_Keep_k5 (n:Nat) (n__1:Int) (kept_3:List TExtent) (rest_3:List TExtent) (k:Int) (l:List TExtent) (v15:Int) (v16:Int):Option ((Int×(List TExtent)×(List TExtent)×Int) ⊕ (((List TExtent)×(List TExtent)))) :=
  extent_Keep_k3 n (jc .i64 (n__1 - k)) kept_3 rest_3 l v15 v16
abbrev extent_Keep_s4 (n__1:Int) (kept_3:List TExtent) (rest_1:List TExtent) (x_:Int) (x__1:Int) (k:Int) (l:List TExtent) (v15:Int) (v16:Int):S:=stB [(1,.c (.int .i64) (.int n__1)),(4,.own 9008 [.int .i64,.int .i64] 0 kept_3.length),(5,.own 9009 [.int .i64,.int .i64] 0 rest_1.length),(7,.box 9010 0),(8,.c (.int .i64) (.int k)),(14,.c (.slice 80) (.slice (List.map e_TExtent l))),(15,.c (.int .i64) (.int v15)),(16,.c (.int .i64) (.int v16))] [(9008,.row 80 (List.map e_TExtent kept_3)),(9009,.row 80 (List.map e_TExtent rest_1)),(9010,.box [.c (.int .i64) (.int x_),.c (.int .i64) (.int x__1)])]
def extent_Keep_k4 (n:Nat) (n__1:Int) (kept_3:List TExtent) (rest_1:List TExtent) (x_:Int) (x__1:Int) (k:Int) (l:List TExtent) (v15:Int) (v16:Int):Option ((Int×(List TExtent)×(List TExtent)×Int) ⊕ (((List TExtent)×(List TExtent)))) :=
  bif (decide (k < x__1)) then
    gd ((rest_1.length+1)≤2147483648) <|
    extent_Keep_k5 n n__1 kept_3 (rest_1 ++ [(⟨(jc .i64 (x_+k)),(jc .i64 (x__1 - k))⟩:TExtent)]) k l v15 v16
  else
    extent_Keep_k5 n n__1 kept_3 rest_1 k l v15 v16
abbrev extent_Keep_t2 (l:List TExtent) (v15:Int) (n__1:Int) (kept_1:List TExtent) (rest_1:List TExtent) (v16:Int):S:=stB [(1,.c (.int .i64) (.int n__1)),(4,.own 9004 [.int .i64,.int .i64] 0 kept_1.length),(5,.own 9005 [.int .i64,.int .i64] 0 rest_1.length),(14,.c (.slice 80) (.slice (List.map e_TExtent l))),(15,.c (.int .i64) (.int v15)),(16,.c (.int .i64) (.int v16))] [(9004,.row 80 (List.map e_TExtent kept_1)),(9005,.row 80 (List.map e_TExtent rest_1))]
def extent_Keep_b2 (n:Nat) (l:List TExtent) (v15:Int) (n__1:Int) (kept_1:List TExtent) (rest_1:List TExtent) (v16:Int):Option ((Int×(List TExtent)×(List TExtent)×Int) ⊕ (((List TExtent)×(List TExtent)))) :=
  bif (decide (v16 < v15)) then
    gd ((0≤v16∧v16 < (l.length:Int))) <|
    bif (decide ((if ((gt l (Int.toNat v16)).Len) < n__1 then ((gt l (Int.toNat v16)).Len) else n__1) > 0)) then
      gd ((kept_1.length+1)≤2147483648) <|
      extent_Keep_k4 n n__1 (kept_1 ++ [(⟨(gt l (Int.toNat v16)).At,(if ((gt l (Int.toNat v16)).Len) < n__1 then ((gt l (Int.toNat v16)).Len) else n__1)⟩:TExtent)]) rest_1 ((gt l (Int.toNat v16)).At) ((gt l (Int.toNat v16)).Len) (if ((gt l (Int.toNat v16)).Len) < n__1 then ((gt l (Int.toNat v16)).Len) else n__1) l v15 v16
    else
      extent_Keep_k4 n n__1 kept_1 rest_1 ((gt l (Int.toNat v16)).At) ((gt l (Int.toNat v16)).Len) (if ((gt l (Int.toNat v16)).Len) < n__1 then ((gt l (Int.toNat v16)).Len) else n__1) l v15 v16
  else
    some (.inr (kept_1,rest_1))
def extent_Keep (n:Nat) (l:List TExtent) (n_:Int):Option ((List TExtent)×(List TExtent)) :=
  (extent_Valid n l).bind fun r1 =>
  bif (!r1) then
    some ([],[])
  else
    (loopF (fun (x:Int×(List TExtent)×(List TExtent)×Int)=>extent_Keep_b2 n l (l.length:Int) x.1 x.2.1 x.2.2.1 x.2.2.2) n ((if 0 > n_ then 0 else n_),[],[],0)).bind fun y9 =>
    extent_Keep_k1 n y9.1 y9.2
def xextent_Keep (n:Nat):Go.AE.Fn:=mkFn (A:=(List TExtent)×Int) (R:=(List TExtent)×(List TExtent)) 97 [(false,[.slice 80]),(false,[.int .i64])] false (fun xs=>(((cg (xs.getD 0 []) 0).toSl.map d_TExtent),(cg (xs.getD 1 []) 0).toInt)) (fun a=>[[.slice (List.map e_TExtent a.1)],[.int a.2]]) (fun a=>extent_Keep n a.1 a.2) (fun r=>[.own 0 [.int .i64,.int .i64] 0 r.1.length,.own 1 [.int .i64,.int .i64] 0 r.2.length]) (fun r=>[.row 80 (List.map e_TExtent r.1),.row 80 (List.map e_TExtent r.2)])
theorem cextent_Keep (n:Nat):Contract jd (xextent_Keep n):=by
  have hΓ:=g1 (cextent_Valid n) (@g0 (Contract jd))
  refine contract_f (Tryz.f97.body.getD .skip) h00 Tryz.func97 rfl Tryz.call97 (by decide) (fun _ r=>⟨rfl,m1 ⟨80,_,_,rfl,ty80,rfl⟩ (m1 ⟨80,_,_,rfl,ty80,rfl⟩ m0)⟩) ?_
  rintro ⟨l,n_⟩ r H
  try dsimp only at H
  unfold extent_Keep at H
  simp only [Tryz.f97,jJ]
  refine rA ?_
  refine jA fun K2 hK2=>?_
  obtain ⟨r1,hr1,H⟩:=bind_some H
  have q:=aI @xextent_Valid.eq_1 hr1
  refine rAq ?_
  refine cnd H (fun h4 H=>?_) (fun h4 H=>?_)
  · refine rA ?_
    refine jF ?_
    refine lf ?_
    obtain rfl:=Option.some.inj H
    exact rto [none,none]
  refine jD ?_
  refine hK2 _ ?_
  refine rA ?_
  refine Jz (fun (x:(List TExtent)×(List TExtent))=>extent_Keep_s1 x.1 x.2) (fun x=>extent_Keep_k1 n x.1 x.2=some r) ?_ ?_
  · refine rA ?_
    refine jR ?_
    obtain ⟨y9,hy9,Ho9⟩:=bind_some H
    refine Jq _ (fun x=>extent_Keep_t2 l (l.length:Int) x.1 x.2.1 x.2.2.1 x.2.2.2) hy9 (wb [none,none]) ?_
    rintro ⟨n__1,kept_1,rest_1,v16⟩ z9 H
    try dsimp only at H
    unfold extent_Keep_b2 at H
    refine Sm.st (extent_Keep_t2.eq_1 ..) ?_
    refine rA ?_
    refine jA fun K11 hK11=>?_
    refine cnd H (fun h12 H=>?_) (fun h12 H=>?_)
    · refine jD ?_
      refine hK11 _ ?_
      refine Jz (fun (x:Int×(List TExtent)×(List TExtent))=>extent_Keep_s3 x.1 x.2.1 x.2.2 l (l.length:Int) v16) (fun x=>extent_Keep_k3 n x.1 x.2.1 x.2.2 l (l.length:Int) v16=some z9) ?_ ?_
      · refine jR ?_
        obtain ⟨hg21,H⟩:=gd_some H
        refine rA ?_
        refine rA ?_
        refine Jz (fun (x:(List TExtent))=>extent_Keep_s4 n__1 x rest_1 ((gt l (Int.toNat v16)).At) ((gt l (Int.toNat v16)).Len) (if ((gt l (Int.toNat v16)).Len) < n__1 then ((gt l (Int.toNat v16)).Len) else n__1) l (l.length:Int) v16) (fun x=>extent_Keep_k4 n n__1 x rest_1 ((gt l (Int.toNat v16)).At) ((gt l (Int.toNat v16)).Len) (if ((gt l (Int.toNat v16)).Len) < n__1 then ((gt l (Int.toNat v16)).Len) else n__1) l (l.length:Int) v16=some z9) ?_ ?_
        · refine rA ?_
          refine cnd H (fun h19 H=>?_) (fun h19 H=>?_)
          · obtain ⟨hg20,H⟩:=gd_some H
            refine eA ?_
            refine lf ?_
            exact ⟨_,H,wb [some 512,some 9005,some 112]⟩
          refine jD ?_
          refine lf ?_
          exact ⟨_,H,wb [some 9004,some 9005,some 112]⟩
        rintro kept_3 H
        try dsimp only at H
        unfold extent_Keep_k4 at H
        refine Sm.st (extent_Keep_s4.eq_1 ..) ?_
        refine Jz (fun (x:(List TExtent))=>extent_Keep_s5 n__1 kept_3 x (if ((gt l (Int.toNat v16)).Len) < n__1 then ((gt l (Int.toNat v16)).Len) else n__1) l (l.length:Int) v16) (fun x=>extent_Keep_k5 n n__1 kept_3 x (if ((gt l (Int.toNat v16)).Len) < n__1 then ((gt l (Int.toNat v16)).Len) else n__1) l (l.length:Int) v16=some z9) ?_ ?_
        · refine rA ?_
          refine cnd H (fun h16 H=>?_) (fun h16 H=>?_)
          · obtain ⟨hg17,H⟩:=gd_some H
            refine eA ?_
            refine lf ?_
            exact ⟨_,H,wb [some 9008,some 768]⟩
          refine jD ?_
          refine lf ?_
          exact ⟨_,H,wb [some 9008,some 9009]⟩
        rintro rest_3 H
        try dsimp only at H
        unfold extent_Keep_k5 at H
        refine Sm.st (extent_Keep_s5.eq_1 ..) ?_
        refine eA ?_
        refine lf ?_
        exact ⟨((jc .i64 (n__1 - (if ((gt l (Int.toNat v16)).Len) < n__1 then ((gt l (Int.toNat v16)).Len) else n__1))),kept_3,rest_3),H,wb [some 9011,some 9012]⟩
      rintro ⟨n__2,kept_2,rest_2⟩ H
      try dsimp only at H
      unfold extent_Keep_k3 at H
      refine Sm.st (extent_Keep_s3.eq_1 ..) ?_
      refine eA ?_
      refine lf ?_
      exact nx H (wb [some 9006,some 9007])
    refine JE ?_
    refine lf ?_
    refine lx H fun hyy=>?_
    subst hyy
    have H:=Ho9
    try dsimp only at H
    refine lf ?_
    exact ⟨(kept_1,rest_1),H,wb [some 9004,some 9005]⟩
  rintro ⟨kept,rest⟩ H
  try dsimp only at H
  unfold extent_Keep_k1 at H
  refine Sm.st (extent_Keep_s1.eq_1 ..) ?_
  refine rA ?_
  refine jF ?_
  refine lf ?_
  obtain rfl:=Option.some.inj H
  exact rto [some 9000,some 9001]
def vtoc_Release_1_M1 (n:Nat) (d:List TDscb) (d_i:Nat) (p1:Int):Option (Int×(List TDscb)) :=
  gd (d_i < d.length∧d_i < d.length) <|
  (extent_Keep n ((gt d d_i).Extents) (if 1 > (if ((gt d d_i).Used) > p1 then ((gt d d_i).Used) else p1) then 1 else (if ((gt d d_i).Used) > p1 then ((gt d d_i).Used) else p1))).bind fun r1 =>
  gd (d_i < d.length) <|
  some (0,(List.set d d_i (⟨(gt d d_i).Name,((gt d d_i).Dcb),r1.1,(gt d d_i).Used⟩:TDscb)))
theorem cvtoc_Release_1_M1 (n:Nat) (d:List TDscb) (d_i:Nat) (p1:Int) (r:Int×(List TDscb)) (H:vtoc_Release_1_M1 n d d_i p1=some r):CallsM jd 96 [.ref (.elt 0 11 [.str,.int .i64,.int .i64,.bool,.bool,.int .i64,.int .i64,.int .i64,.int .i64,.slice 80,.int .i64] d_i 0),.ref (.box 1 0)] [.row 41 (List.map e_TDscb d),.box [.c (.int .i64) (.int p1)]] [.c (.int .i64) (.int r.1)] [.row 41 (List.map e_TDscb r.2),.box [.c (.int .i64) (.int p1)]]:=by
  have hΓ:=g1 (cextent_Keep n) (@g0 (Contract jd))
  refine callsM_of (Tryz.f96.body.getD .skip) h00 Tryz.func96 rfl Tryz.call96 (jp rfl) (jp rfl) ?_
  unfold vtoc_Release_1_M1 at H
  simp only [Tryz.f96,jJ]
  refine rA ?_
  obtain ⟨⟨hg3,hg4⟩,H⟩:=gd_some H
  obtain ⟨r1,hr1,H⟩:=bind_some H
  obtain ⟨hg5,H⟩:=gd_some H
  refine sQ [0,1,2,3,4,5,6,7,8,9,10,11,12,13,14,15,16,17] [(none,[],[]),(none,[],[]),(none,[1000001,0],[]),(none,[0],[]),(none,[0],[]),(none,[1],[]),(none,[],[]),(none,[1000001,0],[]),(none,[0],[]),(none,[0],[]),(none,[],[]),(none,[],[271,270,269,268,267,266,265,264,263,262,261,260,259,258,257,256]),(none,[],[]),(none,[],[]),(none,[],[]),(none,[1000001,0],[]),(none,[0],[]),(none,[0,256],[0,256])] fun K2 hK2=>?_
  have q:=aI @xextent_Keep.eq_1 hr1
  iterate 2 refine oQq ?_
  refine oQVq ?_
  iterate 4 refine oQq ?_
  refine oQVq ?_
  iterate 7 refine oQq ?_
  refine oQVq ?_
  iterate 2 refine oQq ?_
  refine opsQ0 ?_
  refine hK2 _ ?_
  refine rA ?_
  refine jF ?_
  refine lf ?_
  obtain rfl:=Option.some.inj H
  exact rtM [some 0,some 1]
def vtoc_change_M1 (n:Nat) (v:TVtoc) (name:List UInt8) (how:Int):Option (TVtoc×Int) :=
  (vtoc_Check n v).bind fun r1 =>
  bif (r1 != 0) then
    some ((⟨[],0,0,0,[]⟩:TVtoc),r1)
  else
    (vtoc_Vtoc__index n v name).bind fun r2 =>
    bif (!r2.2) then
      some ((⟨[],0,0,0,[]⟩:TVtoc),3)
    else
      (vtoc_Vtoc__copied n v).bind fun r3 =>
      gd ((0≤r2.1∧r2.1 < (r3.Sets.length:Int))) <|
      (vtoc_Release_1_M1 n r3.Sets (Int.toNat r2.1) how).bind fun r4 =>
      gd (r4.2.length=r3.Sets.length) <|
      bif (r4.1 != 0) then
        some ((⟨[],0,0,0,[]⟩:TVtoc),r4.1)
      else
        some ((⟨r3.Serial,r3.Cyls,r3.Heads,r3.Size,r4.2⟩:TVtoc),0)
theorem cvtoc_change_M1 (n:Nat) (v:TVtoc) (name:List UInt8) (how:Int) (r:TVtoc×Int) (H:vtoc_change_M1 n v name how=some r):CallsM jd 87 [.dat (true,[.str,.int .i64,.int .i64,.int .i64,.slice 41]) [.str v.Serial,.int v.Cyls,.int v.Heads,.int v.Size,.slice (List.map e_TDscb v.Sets)],.dat (false,[.str]) [.str name],.ref (.fnv 96 [.box 0 0])] [.box [.c (.int .i64) (.int how)]] [.agg [.c .str (.str r.1.Serial),.c (.int .i64) (.int r.1.Cyls),.c (.int .i64) (.int r.1.Heads),.c (.int .i64) (.int r.1.Size),.own 1 [.str,.int .i64,.int .i64,.bool,.bool,.int .i64,.int .i64,.int .i64,.int .i64,.slice 80,.int .i64] 0 r.1.Sets.length],.c (.int .i64) (.int r.2)] [.box [.c (.int .i64) (.int how)],.row 41 (List.map e_TDscb r.1.Sets)]:=by
  have hΓ:=g1 (cvtoc_Check n) (g1 (cvtoc_Vtoc__index n) (g1 (cvtoc_Vtoc__copied n) (@g0 (Contract jd))))
  have qe:=aI @xvtoc_Check.eq_1 (aI @xvtoc_Vtoc__index.eq_1 @xvtoc_Vtoc__copied.eq_1)
  refine callsM_of (Tryz.f87.body.getD .skip) h00 Tryz.func87 rfl Tryz.call87 (jp rfl) (jp rfl) ?_
  unfold vtoc_change_M1 at H
  simp only [Tryz.f87,jJ]
  refine rA ?_
  refine jA fun K2 hK2=>?_
  obtain ⟨r1,hr1,H⟩:=bind_some H
  have q:=aI qe hr1
  refine rAq ?_
  refine rA ?_
  refine cnd H (fun h5 H=>?_) (fun h5 H=>?_)
  · refine rA ?_
    refine jF ?_
    refine lf ?_
    obtain rfl:=Option.some.inj H
    exact rtM [some 0,none]
  refine jD ?_
  refine hK2 _ ?_
  obtain ⟨r2,hr2,H⟩:=bind_some H
  have q:=aI qe hr2
  refine rAq ?_
  refine jA fun K8 hK8=>?_
  refine rA ?_
  refine cnd H (fun h10 H=>?_) (fun h10 H=>?_)
  · refine rA ?_
    refine jF ?_
    refine lf ?_
    obtain rfl:=Option.some.inj H
    exact rtM [some 0,none]
  refine jD ?_
  refine hK8 _ ?_
  obtain ⟨r3,hr3,H⟩:=bind_some H
  have q:=aI qe hr3
  refine rAq ?_
  refine jA fun K13 hK13=>?_
  refine sX fun K14 hK14=>?_
  obtain ⟨hg15,H⟩:=gd_some H
  obtain ⟨r4,hr4,H⟩:=bind_some H
  obtain ⟨hg16,H⟩:=gd_some H
  have q:=hr4
  iterate 5 refine oX ?_
  refine oMq (cvtoc_Release_1_M1 n _ _ _ r4 hr4) [464,0] [] ?_
  refine oXq ?_
  refine hK14 _ ?_
  refine rA ?_
  refine cnd H (fun h18 H=>?_) (fun h18 H=>?_)
  · refine rA ?_
    refine jF ?_
    refine lf ?_
    obtain rfl:=Option.some.inj H
    exact rtM [some 0,none]
  refine jD ?_
  refine hK13 _ ?_
  refine rA ?_
  refine jF ?_
  refine lf ?_
  obtain rfl:=Option.some.inj H
  exact rtM [some 0,some 464]
def vtoc_Release (n:Nat) (v:TVtoc) (name:List UInt8) (keep:Int):Option (TVtoc×Int) :=
  (vtoc_change_M1 n v name keep).bind fun r1 =>
  some (r1.1,r1.2)
def xvtoc_Release (n:Nat):Go.AE.Fn:=mkFn (A:=TVtoc×(List UInt8)×Int) (R:=TVtoc×Int) 47 [(true,[.str,.int .i64,.int .i64,.int .i64,.slice 41]),(false,[.str]),(false,[.int .i64])] true (fun xs=>((⟨(cg (xs.getD 0 []) 0).toStr,(cg (xs.getD 0 []) 1).toInt,(cg (xs.getD 0 []) 2).toInt,(cg (xs.getD 0 []) 3).toInt,((cg (xs.getD 0 []) 4).toSl.map d_TDscb)⟩:TVtoc),(cg (xs.getD 1 []) 0).toStr,(cg (xs.getD 2 []) 0).toInt)) (fun a=>[[.str a.1.Serial,.int a.1.Cyls,.int a.1.Heads,.int a.1.Size,.slice (List.map e_TDscb a.1.Sets)],[.str a.2.1],[.int a.2.2]]) (fun a=>vtoc_Release n a.1 a.2.1 a.2.2) (fun r=>[.agg [.c .str (.str r.1.Serial),.c (.int .i64) (.int r.1.Cyls),.c (.int .i64) (.int r.1.Heads),.c (.int .i64) (.int r.1.Size),.own 0 [.str,.int .i64,.int .i64,.bool,.bool,.int .i64,.int .i64,.int .i64,.int .i64,.slice 80,.int .i64] 0 r.1.Sets.length],.c (.int .i64) (.int r.2)]) (fun r=>[.row 41 (List.map e_TDscb r.1.Sets)])
theorem cvtoc_Release (n:Nat):Contract jd (xvtoc_Release n):=by
  have hΓ:=@g0 (Contract jd)
  refine contract_f (Tryz.f47.body.getD .skip) h00 Tryz.func47 rfl Tryz.call47 (by decide) (by intro h;cases h) ?_
  rintro ⟨v,name,keep⟩ r H
  try dsimp only at H
  unfold vtoc_Release at H
  simp only [Tryz.f47,jJ]
  refine rA ?_
  refine sX fun K2 hK2=>?_
  obtain ⟨r1,hr1,H⟩:=bind_some H
  have q:=hr1
  iterate 2 refine oX ?_
  refine oY ?_
  refine oMq (cvtoc_change_M1 n _ _ _ r1 hr1) [80] [176] ?_
  iterate 4 refine oXq ?_
  refine hK2 _ ?_
  refine jF ?_
  refine lf ?_
  obtain rfl:=Option.some.inj H
  exact rto [some 176]
def vtoc_Update_1_M1 (n:Nat) (d:List TDscb) (d_i:Nat) (p1:Int) (p1_:Int) (p1__:Bool) (p1___:Bool) (p1____:Int) (p1_____:Int) (p1______:Int) (p1_______:Int) (p2:Int):Option (Int×(List TDscb)) :=
  (vtoc_described n (⟨p1,p1_,p1__,p1___,p1____,p1_____,p1______,p1_______⟩:TDcb)).bind fun r1 =>
  bif (!r1) then
    some (1,d)
  else
    gd (d_i < d.length) <|
    (extent_Total n ((gt d d_i).Extents)).bind fun r2 =>
    (vtoc_in n p2 0 r2).bind fun r3 =>
    bif (!r3) then
      some (6,d)
    else
      gd (d_i < d.length∧d_i < d.length) <|
      some (0,(List.set (List.set d d_i (⟨(gt d d_i).Name,(⟨p1,p1_,p1__,p1___,p1____,p1_____,p1______,p1_______⟩:TDcb),(gt d d_i).Extents,(gt d d_i).Used⟩:TDscb)) d_i (⟨(gt (List.set d d_i (⟨(gt d d_i).Name,(⟨p1,p1_,p1__,p1___,p1____,p1_____,p1______,p1_______⟩:TDcb),(gt d d_i).Extents,(gt d d_i).Used⟩:TDscb)) d_i).Name,((gt (List.set d d_i (⟨(gt d d_i).Name,(⟨p1,p1_,p1__,p1___,p1____,p1_____,p1______,p1_______⟩:TDcb),(gt d d_i).Extents,(gt d d_i).Used⟩:TDscb)) d_i).Dcb),(gt (List.set d d_i (⟨(gt d d_i).Name,(⟨p1,p1_,p1__,p1___,p1____,p1_____,p1______,p1_______⟩:TDcb),(gt d d_i).Extents,(gt d d_i).Used⟩:TDscb)) d_i).Extents,p2⟩:TDscb)))
theorem cvtoc_Update_1_M1 (n:Nat) (d:List TDscb) (d_i:Nat) (p1:Int) (p1_:Int) (p1__:Bool) (p1___:Bool) (p1____:Int) (p1_____:Int) (p1______:Int) (p1_______:Int) (p2:Int) (r:Int×(List TDscb)) (H:vtoc_Update_1_M1 n d d_i p1 p1_ p1__ p1___ p1____ p1_____ p1______ p1_______ p2=some r):CallsM jd 98 [.ref (.elt 0 11 [.str,.int .i64,.int .i64,.bool,.bool,.int .i64,.int .i64,.int .i64,.int .i64,.slice 80,.int .i64] d_i 0),.ref (.box 1 0),.ref (.box 2 0)] [.row 41 (List.map e_TDscb d),.box [.c (.int .i64) (.int p1),.c (.int .i64) (.int p1_),.c .bool (.bool p1__),.c .bool (.bool p1___),.c (.int .i64) (.int p1____),.c (.int .i64) (.int p1_____),.c (.int .i64) (.int p1______),.c (.int .i64) (.int p1_______)],.box [.c (.int .i64) (.int p2)]] [.c (.int .i64) (.int r.1)] [.row 41 (List.map e_TDscb r.2),.box [.c (.int .i64) (.int p1),.c (.int .i64) (.int p1_),.c .bool (.bool p1__),.c .bool (.bool p1___),.c (.int .i64) (.int p1____),.c (.int .i64) (.int p1_____),.c (.int .i64) (.int p1______),.c (.int .i64) (.int p1_______)],.box [.c (.int .i64) (.int p2)]]:=by
  have hΓ:=g1 (cvtoc_described n) (g1 (cextent_Total n) (g1 (cvtoc_in n) (@g0 (Contract jd))))
  have qe:=aI @xvtoc_described.eq_1 (aI @xextent_Total.eq_1 @xvtoc_in.eq_1)
  refine callsM_of (Tryz.f98.body.getD .skip) h00 Tryz.func98 rfl Tryz.call98 (jp rfl) (jp rfl) ?_
  unfold vtoc_Update_1_M1 at H
  simp only [Tryz.f98,jJ]
  refine rA ?_
  refine jA fun K2 hK2=>?_
  obtain ⟨r1,hr1,H⟩:=bind_some H
  have q:=aI qe hr1
  refine rAq ?_
  refine cnd H (fun h4 H=>?_) (fun h4 H=>?_)
  · refine rA ?_
    refine jF ?_
    refine lf ?_
    obtain rfl:=Option.some.inj H
    exact rtM [some 0,some 1,some 2]
  refine jD ?_
  refine hK2 _ ?_
  refine jA fun K6 hK6=>?_
  obtain ⟨hg8,H⟩:=gd_some H
  obtain ⟨r2,hr2,H⟩:=bind_some H
  obtain ⟨r3,hr3,H⟩:=bind_some H
  refine sQ [0,1,2,3,4,5,6,7] [(none,[2],[]),(none,[],[]),(none,[1000001,0],[]),(none,[0],[]),(none,[0],[]),(none,[],[223,222,221,220,219,218,217,216,215,214,213,212,211,210,209,208]),(none,[],[239,238,237,236,235,234,233,232,231,230,229,228,227,226,225,224]),(none,[],[])] fun K7 hK7=>?_
  have q:=aI qe (aI hr2 hr3)
  iterate 2 refine oQq ?_
  refine oQVq ?_
  iterate 5 refine oQq ?_
  refine opsQ0 ?_
  refine hK7 _ ?_
  refine cnd H (fun h9 H=>?_) (fun h9 H=>?_)
  · refine rA ?_
    refine jF ?_
    refine lf ?_
    obtain rfl:=Option.some.inj H
    exact rtM [some 0,some 1,some 2]
  refine jD ?_
  refine hK6 _ ?_
  obtain ⟨⟨hg12,hg13⟩,H⟩:=gd_some H
  refine sQ [0,1,2,3,4,5,6,7,8,9] [(none,[],[]),(none,[],[]),(none,[1],[]),(none,[2],[]),(none,[1000001,0],[]),(none,[0],[]),(none,[0],[0]),(none,[1000001,0],[]),(none,[0],[]),(none,[0],[0])] fun K11 hK11=>?_
  iterate 4 refine oQ ?_
  refine oQV ?_
  iterate 2 refine oQ ?_
  refine oQV ?_
  iterate 2 refine oQ ?_
  refine opsQ0 ?_
  refine hK11 _ ?_
  refine rA ?_
  refine jF ?_
  refine lf ?_
  obtain rfl:=Option.some.inj H
  exact rtM [some 0,some 1,some 2]
def vtoc_change_M2 (n:Nat) (v:TVtoc) (name:List UInt8) (how:Int) (how_:Int) (how__:Bool) (how___:Bool) (how____:Int) (how_____:Int) (how______:Int) (how_______:Int) (how________:Int):Option (TVtoc×Int) :=
  (vtoc_Check n v).bind fun r1 =>
  bif (r1 != 0) then
    some ((⟨[],0,0,0,[]⟩:TVtoc),r1)
  else
    (vtoc_Vtoc__index n v name).bind fun r2 =>
    bif (!r2.2) then
      some ((⟨[],0,0,0,[]⟩:TVtoc),3)
    else
      (vtoc_Vtoc__copied n v).bind fun r3 =>
      gd ((0≤r2.1∧r2.1 < (r3.Sets.length:Int))) <|
      (vtoc_Update_1_M1 n r3.Sets (Int.toNat r2.1) how how_ how__ how___ how____ how_____ how______ how_______ how________).bind fun r4 =>
      gd (r4.2.length=r3.Sets.length) <|
      bif (r4.1 != 0) then
        some ((⟨[],0,0,0,[]⟩:TVtoc),r4.1)
      else
        some ((⟨r3.Serial,r3.Cyls,r3.Heads,r3.Size,r4.2⟩:TVtoc),0)
theorem cvtoc_change_M2 (n:Nat) (v:TVtoc) (name:List UInt8) (how:Int) (how_:Int) (how__:Bool) (how___:Bool) (how____:Int) (how_____:Int) (how______:Int) (how_______:Int) (how________:Int) (r:TVtoc×Int) (H:vtoc_change_M2 n v name how how_ how__ how___ how____ how_____ how______ how_______ how________=some r):CallsM jd 87 [.dat (true,[.str,.int .i64,.int .i64,.int .i64,.slice 41]) [.str v.Serial,.int v.Cyls,.int v.Heads,.int v.Size,.slice (List.map e_TDscb v.Sets)],.dat (false,[.str]) [.str name],.ref (.fnv 98 [.box 0 0,.box 1 0])] [.box [.c (.int .i64) (.int how),.c (.int .i64) (.int how_),.c .bool (.bool how__),.c .bool (.bool how___),.c (.int .i64) (.int how____),.c (.int .i64) (.int how_____),.c (.int .i64) (.int how______),.c (.int .i64) (.int how_______)],.box [.c (.int .i64) (.int how________)]] [.agg [.c .str (.str r.1.Serial),.c (.int .i64) (.int r.1.Cyls),.c (.int .i64) (.int r.1.Heads),.c (.int .i64) (.int r.1.Size),.own 2 [.str,.int .i64,.int .i64,.bool,.bool,.int .i64,.int .i64,.int .i64,.int .i64,.slice 80,.int .i64] 0 r.1.Sets.length],.c (.int .i64) (.int r.2)] [.box [.c (.int .i64) (.int how),.c (.int .i64) (.int how_),.c .bool (.bool how__),.c .bool (.bool how___),.c (.int .i64) (.int how____),.c (.int .i64) (.int how_____),.c (.int .i64) (.int how______),.c (.int .i64) (.int how_______)],.box [.c (.int .i64) (.int how________)],.row 41 (List.map e_TDscb r.1.Sets)]:=by
  have hΓ:=g1 (cvtoc_Check n) (g1 (cvtoc_Vtoc__index n) (g1 (cvtoc_Vtoc__copied n) (@g0 (Contract jd))))
  have qe:=aI @xvtoc_Check.eq_1 (aI @xvtoc_Vtoc__index.eq_1 @xvtoc_Vtoc__copied.eq_1)
  refine callsM_of (Tryz.f87.body.getD .skip) h00 Tryz.func87 rfl Tryz.call87 (jp rfl) (jp rfl) ?_
  unfold vtoc_change_M2 at H
  simp only [Tryz.f87,jJ]
  refine rA ?_
  refine jA fun K2 hK2=>?_
  obtain ⟨r1,hr1,H⟩:=bind_some H
  have q:=aI qe hr1
  refine rAq ?_
  refine rA ?_
  refine cnd H (fun h5 H=>?_) (fun h5 H=>?_)
  · refine rA ?_
    refine jF ?_
    refine lf ?_
    obtain rfl:=Option.some.inj H
    exact rtM [some 0,some 1,none]
  refine jD ?_
  refine hK2 _ ?_
  obtain ⟨r2,hr2,H⟩:=bind_some H
  have q:=aI qe hr2
  refine rAq ?_
  refine jA fun K8 hK8=>?_
  refine rA ?_
  refine cnd H (fun h10 H=>?_) (fun h10 H=>?_)
  · refine rA ?_
    refine jF ?_
    refine lf ?_
    obtain rfl:=Option.some.inj H
    exact rtM [some 0,some 1,none]
  refine jD ?_
  refine hK8 _ ?_
  obtain ⟨r3,hr3,H⟩:=bind_some H
  have q:=aI qe hr3
  refine rAq ?_
  refine jA fun K13 hK13=>?_
  refine sX fun K14 hK14=>?_
  obtain ⟨hg15,H⟩:=gd_some H
  obtain ⟨r4,hr4,H⟩:=bind_some H
  obtain ⟨hg16,H⟩:=gd_some H
  have q:=hr4
  iterate 5 refine oX ?_
  refine oMq (cvtoc_Update_1_M1 n _ _ _ _ _ _ _ _ _ _ _ r4 hr4) [464,0,1] [] ?_
  refine oXq ?_
  refine hK14 _ ?_
  refine rA ?_
  refine cnd H (fun h18 H=>?_) (fun h18 H=>?_)
  · refine rA ?_
    refine jF ?_
    refine lf ?_
    obtain rfl:=Option.some.inj H
    exact rtM [some 0,some 1,none]
  refine jD ?_
  refine hK13 _ ?_
  refine rA ?_
  refine jF ?_
  refine lf ?_
  obtain rfl:=Option.some.inj H
  exact rtM [some 0,some 1,some 464]
def vtoc_Update (n:Nat) (v:TVtoc) (name:List UInt8) (c:TDcb) (used:Int):Option (TVtoc×Int) :=
  (vtoc_change_M2 n v name c.Org c.Format c.Blocked c.Asa c.Lrecl c.Blksize c.KeyLen c.KeyPos used).bind fun r1 =>
  some (r1.1,r1.2)
def xvtoc_Update (n:Nat):Go.AE.Fn:=mkFn (A:=TVtoc×(List UInt8)×TDcb×Int) (R:=TVtoc×Int) 48 [(true,[.str,.int .i64,.int .i64,.int .i64,.slice 41]),(false,[.str]),(true,[.int .i64,.int .i64,.bool,.bool,.int .i64,.int .i64,.int .i64,.int .i64]),(false,[.int .i64])] true (fun xs=>((⟨(cg (xs.getD 0 []) 0).toStr,(cg (xs.getD 0 []) 1).toInt,(cg (xs.getD 0 []) 2).toInt,(cg (xs.getD 0 []) 3).toInt,((cg (xs.getD 0 []) 4).toSl.map d_TDscb)⟩:TVtoc),(cg (xs.getD 1 []) 0).toStr,(⟨(cg (xs.getD 2 []) 0).toInt,(cg (xs.getD 2 []) 1).toInt,(cg (xs.getD 2 []) 2).toBool,(cg (xs.getD 2 []) 3).toBool,(cg (xs.getD 2 []) 4).toInt,(cg (xs.getD 2 []) 5).toInt,(cg (xs.getD 2 []) 6).toInt,(cg (xs.getD 2 []) 7).toInt⟩:TDcb),(cg (xs.getD 3 []) 0).toInt)) (fun a=>[[.str a.1.Serial,.int a.1.Cyls,.int a.1.Heads,.int a.1.Size,.slice (List.map e_TDscb a.1.Sets)],[.str a.2.1],[.int a.2.2.1.Org,.int a.2.2.1.Format,.bool a.2.2.1.Blocked,.bool a.2.2.1.Asa,.int a.2.2.1.Lrecl,.int a.2.2.1.Blksize,.int a.2.2.1.KeyLen,.int a.2.2.1.KeyPos],[.int a.2.2.2]]) (fun a=>vtoc_Update n a.1 a.2.1 a.2.2.1 a.2.2.2) (fun r=>[.agg [.c .str (.str r.1.Serial),.c (.int .i64) (.int r.1.Cyls),.c (.int .i64) (.int r.1.Heads),.c (.int .i64) (.int r.1.Size),.own 0 [.str,.int .i64,.int .i64,.bool,.bool,.int .i64,.int .i64,.int .i64,.int .i64,.slice 80,.int .i64] 0 r.1.Sets.length],.c (.int .i64) (.int r.2)]) (fun r=>[.row 41 (List.map e_TDscb r.1.Sets)])
theorem cvtoc_Update (n:Nat):Contract jd (xvtoc_Update n):=by
  have hΓ:=@g0 (Contract jd)
  refine contract_f (Tryz.f48.body.getD .skip) h00 Tryz.func48 rfl Tryz.call48 (by decide) (by intro h;cases h) ?_
  rintro ⟨v,name,c,used⟩ r H
  try dsimp only at H
  unfold vtoc_Update at H
  simp only [Tryz.f48,jJ]
  refine rA ?_
  refine sX fun K2 hK2=>?_
  obtain ⟨r1,hr1,H⟩:=bind_some H
  have q:=hr1
  iterate 2 refine oX ?_
  refine oY ?_
  refine oMq (cvtoc_change_M2 n _ _ _ _ _ _ _ _ _ _ _ r1 hr1) [96,112] [208] ?_
  iterate 4 refine oXq ?_
  refine hK2 _ ?_
  refine jF ?_
  refine lf ?_
  obtain rfl:=Option.some.inj H
  exact rto [some 208]
def vtoc_Scratch_1_M1 (n:Nat) (p0:List TDscb) (p0_i:Nat):Option Int :=
  some 0
theorem cvtoc_Scratch_1_M1 (n:Nat) (p0:List TDscb) (p0_i:Nat) (r:Int) (H:vtoc_Scratch_1_M1 n p0 p0_i=some r):CallsM jd 88 [.ref (.elt 0 11 [.str,.int .i64,.int .i64,.bool,.bool,.int .i64,.int .i64,.int .i64,.int .i64,.slice 80,.int .i64] p0_i 0)] [.row 41 (List.map e_TDscb p0)] [.c (.int .i64) (.int r)] [.row 41 (List.map e_TDscb p0)]:=by
  have hΓ:=@g0 (Contract jd)
  refine callsM_of (Tryz.f88.body.getD .skip) h00 Tryz.func88 rfl Tryz.call88 (jp rfl) (jp rfl) ?_
  unfold vtoc_Scratch_1_M1 at H
  simp only [Tryz.f88,jJ]
  refine rA ?_
  refine rA ?_
  refine jF ?_
  refine lf ?_
  obtain rfl:=Option.some.inj H
  exact rtM [some 0]
def vtoc_change_M3 (n:Nat) (v:TVtoc) (name:List UInt8):Option (TVtoc×Int) :=
  (vtoc_Check n v).bind fun r1 =>
  bif (r1 != 0) then
    some ((⟨[],0,0,0,[]⟩:TVtoc),r1)
  else
    (vtoc_Vtoc__index n v name).bind fun r2 =>
    bif (!r2.2) then
      some ((⟨[],0,0,0,[]⟩:TVtoc),3)
    else
      (vtoc_Vtoc__copied n v).bind fun r3 =>
      gd ((0≤r2.1∧r2.1 < (r3.Sets.length:Int))) <|
      (vtoc_Scratch_1_M1 n r3.Sets (Int.toNat r2.1)).bind fun r4 =>
      bif (r4 != 0) then
        some ((⟨[],0,0,0,[]⟩:TVtoc),r4)
      else
        some (r3,0)
theorem cvtoc_change_M3 (n:Nat) (v:TVtoc) (name:List UInt8) (r:TVtoc×Int) (H:vtoc_change_M3 n v name=some r):CallsM jd 87 [.dat (true,[.str,.int .i64,.int .i64,.int .i64,.slice 41]) [.str v.Serial,.int v.Cyls,.int v.Heads,.int v.Size,.slice (List.map e_TDscb v.Sets)],.dat (false,[.str]) [.str name],.ref (.fnv 88 [])] [] [.agg [.c .str (.str r.1.Serial),.c (.int .i64) (.int r.1.Cyls),.c (.int .i64) (.int r.1.Heads),.c (.int .i64) (.int r.1.Size),.own 0 [.str,.int .i64,.int .i64,.bool,.bool,.int .i64,.int .i64,.int .i64,.int .i64,.slice 80,.int .i64] 0 r.1.Sets.length],.c (.int .i64) (.int r.2)] [.row 41 (List.map e_TDscb r.1.Sets)]:=by
  have hΓ:=g1 (cvtoc_Check n) (g1 (cvtoc_Vtoc__index n) (g1 (cvtoc_Vtoc__copied n) (@g0 (Contract jd))))
  have qe:=aI @xvtoc_Check.eq_1 (aI @xvtoc_Vtoc__index.eq_1 @xvtoc_Vtoc__copied.eq_1)
  refine callsM_of (Tryz.f87.body.getD .skip) h00 Tryz.func87 rfl Tryz.call87 (jp rfl) (jp rfl) ?_
  unfold vtoc_change_M3 at H
  simp only [Tryz.f87,jJ]
  refine rA ?_
  refine jA fun K2 hK2=>?_
  obtain ⟨r1,hr1,H⟩:=bind_some H
  have q:=aI qe hr1
  refine rAq ?_
  refine rA ?_
  refine cnd H (fun h5 H=>?_) (fun h5 H=>?_)
  · refine rA ?_
    refine jF ?_
    refine lf ?_
    obtain rfl:=Option.some.inj H
    exact rtM [none]
  refine jD ?_
  refine hK2 _ ?_
  obtain ⟨r2,hr2,H⟩:=bind_some H
  have q:=aI qe hr2
  refine rAq ?_
  refine jA fun K8 hK8=>?_
  refine rA ?_
  refine cnd H (fun h10 H=>?_) (fun h10 H=>?_)
  · refine rA ?_
    refine jF ?_
    refine lf ?_
    obtain rfl:=Option.some.inj H
    exact rtM [none]
  refine jD ?_
  refine hK8 _ ?_
  obtain ⟨r3,hr3,H⟩:=bind_some H
  have q:=aI qe hr3
  refine rAq ?_
  refine jA fun K13 hK13=>?_
  refine sX fun K14 hK14=>?_
  obtain ⟨hg15,H⟩:=gd_some H
  obtain ⟨r4,hr4,H⟩:=bind_some H
  have q:=hr4
  iterate 5 refine oX ?_
  refine oMq (cvtoc_Scratch_1_M1 n _ _ r4 hr4) [464] [] ?_
  refine oXq ?_
  refine hK14 _ ?_
  refine rA ?_
  refine cnd H (fun h17 H=>?_) (fun h17 H=>?_)
  · refine rA ?_
    refine jF ?_
    refine lf ?_
    obtain rfl:=Option.some.inj H
    exact rtM [none]
  refine jD ?_
  refine hK13 _ ?_
  refine rA ?_
  refine jF ?_
  refine lf ?_
  obtain rfl:=Option.some.inj H
  exact rtM [some 464]
def vtoc_Scratch_2_M1 (n:Nat) (d:TDscb) (p1:List UInt8):Option Bool :=
  some (d.Name == p1)
theorem cvtoc_Scratch_2_M1 (n:Nat) (d:TDscb) (p1:List UInt8) (r:Bool) (H:vtoc_Scratch_2_M1 n d p1=some r):CallsM jd 90 [.dat (true,[.str,.int .i64,.int .i64,.bool,.bool,.int .i64,.int .i64,.int .i64,.int .i64,.slice 80,.int .i64]) [.str d.Name,.int d.Dcb.Org,.int d.Dcb.Format,.bool d.Dcb.Blocked,.bool d.Dcb.Asa,.int d.Dcb.Lrecl,.int d.Dcb.Blksize,.int d.Dcb.KeyLen,.int d.Dcb.KeyPos,.slice (List.map e_TExtent d.Extents),.int d.Used],.ref (.box 0 0)] [.box [.c .str (.str p1)]] [.c .bool (.bool r)] [.box [.c .str (.str p1)]]:=by
  have hΓ:=@g0 (Contract jd)
  refine callsM_of (Tryz.f90.body.getD .skip) h00 Tryz.func90 rfl Tryz.call90 (jp rfl) (jp rfl) ?_
  unfold vtoc_Scratch_2_M1 at H
  simp only [Tryz.f90,jJ]
  refine rA ?_
  refine rA ?_
  refine jF ?_
  refine lf ?_
  obtain rfl:=Option.some.inj H
  exact rtM [some 0]
abbrev slices_IndexFunc_f141_M1_s1 (s:List TDscb) (f:List UInt8):S:=stB [] [(0,.row 41 (List.map e_TDscb s)),(1,.box [.c .str (.str f)])]
def slices_IndexFunc_f141_M1_k1 (n:Nat) (s:List TDscb) (f:List UInt8):Option Int :=
  some (-1)
abbrev slices_IndexFunc_f141_M1_t2 (s:List TDscb) (f:List UInt8) (v7:Int) (v8:Int):S:=stB [(0,.own 0 [.str,.int .i64,.int .i64,.bool,.bool,.int .i64,.int .i64,.int .i64,.int .i64,.slice 80,.int .i64] 0 s.length),(1,.fnv 90 [.box 1 0]),(7,.c (.int .i64) (.int v7)),(8,.c (.int .i64) (.int v8))] [(0,.row 41 (List.map e_TDscb s)),(1,.box [.c .str (.str f)])]
def slices_IndexFunc_f141_M1_b2 (n:Nat) (s:List TDscb) (f:List UInt8) (v7:Int) (v8:Int):Option ((Int) ⊕ (((Int) ⊕ (Unit)))) :=
  bif (decide (v8 < v7)) then
    gd ((0≤v8∧v8 < (s.length:Int))∧(Int.toNat v8) < s.length) <|
    (vtoc_Scratch_2_M1 n (gt s (Int.toNat v8)) f).bind fun r1 =>
    bif r1 then
      some (.inr (.inl v8))
    else
      some (.inl (jc .i64 (v8+1)))
  else
    some (.inr (.inr ()))
def slices_IndexFunc_f141_M1 (n:Nat) (s:List TDscb) (f:List UInt8):Option Int :=
  (loopF (fun (x:Int)=>slices_IndexFunc_f141_M1_b2 n s f ((s.length:Nat):Int) x) n 0).bind fun y4 =>
  match y4 with
  | .inl vv =>
    some vv
  | .inr vv =>
    slices_IndexFunc_f141_M1_k1 n s f
theorem cslices_IndexFunc_f141_M1 (n:Nat) (s:List TDscb) (f:List UInt8) (r:Int) (H:slices_IndexFunc_f141_M1 n s f=some r):CallsM jd 141 [.ref (.own 0 [.str,.int .i64,.int .i64,.bool,.bool,.int .i64,.int .i64,.int .i64,.int .i64,.slice 80,.int .i64] 0 s.length),.ref (.fnv 90 [.box 1 0])] [.row 41 (List.map e_TDscb s),.box [.c .str (.str f)]] [.c (.int .i64) (.int r)] [.row 41 (List.map e_TDscb s),.box [.c .str (.str f)]]:=by
  have hΓ:=@g0 (Contract jd)
  refine callsM_of (Tryz.f141.body.getD .skip) h00 Tryz.func141 rfl Tryz.call141 (jp rfl) (jp rfl) ?_
  unfold slices_IndexFunc_f141_M1 at H
  simp only [Tryz.f141,jJ]
  refine rA ?_
  refine Jz (fun (x:Unit)=>slices_IndexFunc_f141_M1_s1 s f) (fun x=>slices_IndexFunc_f141_M1_k1 n s f=some r) ?_ ?_
  · refine rA ?_
    refine jR ?_
    obtain ⟨y4,hy4,Ho4⟩:=bind_some H
    refine Jq _ (fun x=>slices_IndexFunc_f141_M1_t2 s f ((s.length:Nat):Int) x) hy4 (wb [some 0,some 1]) ?_
    rintro v8 z4 H
    try dsimp only at H
    unfold slices_IndexFunc_f141_M1_b2 at H
    refine Sm.st (slices_IndexFunc_f141_M1_t2.eq_1 ..) ?_
    refine rA ?_
    refine jA fun K6 hK6=>?_
    refine cnd H (fun h7 H=>?_) (fun h7 H=>?_)
    · refine jD ?_
      refine hK6 _ ?_
      refine jA fun K8 hK8=>?_
      refine jR ?_
      refine rA ?_
      refine sX fun K10 hK10=>?_
      obtain ⟨⟨hg11,hg12⟩,H⟩:=gd_some H
      obtain ⟨r1,hr1,H⟩:=bind_some H
      have q:=hr1
      iterate 5 refine oX ?_
      refine oMq (cvtoc_Scratch_2_M1 n _ _ r1 hr1) [1] [] ?_
      refine hK10 _ ?_
      refine cnd H (fun h13 H=>?_) (fun h13 H=>?_)
      · refine rA ?_
        refine jF ?_
        refine lf ?_
        refine lx H fun hyy=>?_
        subst hyy
        have H:=Ho4
        try dsimp only at H
        refine lf ?_
        obtain rfl:=Option.some.inj H
        exact rtM [some 0,some 1]
      refine jD ?_
      refine hK8 _ ?_
      refine eA ?_
      refine lf ?_
      exact nx H (wb [some 0,some 1])
    refine JE ?_
    refine lf ?_
    refine lx H fun hyy=>?_
    subst hyy
    have H:=Ho4
    try dsimp only at H
    refine lf ?_
    exact ⟨(),H,wb [some 0,some 1]⟩
  rintro ⟨⟩ H
  try dsimp only at H
  unfold slices_IndexFunc_f141_M1_k1 at H
  refine Sm.st (slices_IndexFunc_f141_M1_s1.eq_1 ..) ?_
  refine rA ?_
  refine jF ?_
  refine lf ?_
  obtain rfl:=Option.some.inj H
  exact rtM [some 0,some 1]
abbrev slices_DeleteFunc_f89_M1_s1 (b0:List TDscb) (del:List UInt8) (i:Int):S:=stB [(0,.own 0 [.str,.int .i64,.int .i64,.bool,.bool,.int .i64,.int .i64,.int .i64,.int .i64,.slice 80,.int .i64] 0 b0.length),(5,.c (.int .i64) (.int i))] [(0,.row 41 (List.map e_TDscb b0)),(1,.box [.c .str (.str del)])]
def slices_DeleteFunc_f89_M1_k1 (n:Nat) (b0:List TDscb) (del:List UInt8) (i:Int):Option (Nat×(List TDscb)) :=
  gd ((0≤i∧i≤(b0.length:Int)∧(b0.length:Int)≤(b0.length:Int))∧((Int.toNat i)+(Int.toNat ((b0.length:Int) - i)))≤b0.length) <|
  gd ((0≤i∧i≤(b0.length:Int))) <|
  some ((Int.toNat (i - 0)),(overL b0 (Int.toNat i) (zreps (Int.toNat ((b0.length:Int) - i)) (⟨[],(⟨0,0,false,false,0,0,0,0⟩:TDcb),[],0⟩:TDscb))))
abbrev slices_DeleteFunc_f89_M1_s3 (b0_2:List TDscb) (del:List UInt8) (i_2:Int) (j:Int):S:=stB [(0,.own 0 [.str,.int .i64,.int .i64,.bool,.bool,.int .i64,.int .i64,.int .i64,.int .i64,.slice 80,.int .i64] 0 b0_2.length),(1,.fnv 90 [.box 1 0]),(5,.c (.int .i64) (.int i_2)),(6,.c (.int .i64) (.int j))] [(0,.row 41 (List.map e_TDscb b0_2)),(1,.box [.c .str (.str del)])]
def slices_DeleteFunc_f89_M1_k3 (n:Nat) (b0_2:List TDscb) (del:List UInt8) (i_2:Int) (j:Int):Option (((List TDscb)×Int×Int) ⊕ (((List TDscb)×Int))) :=
  some (.inl (b0_2,i_2,(jc .i64 (j+1))))
abbrev slices_DeleteFunc_f89_M1_t2 (del:List UInt8) (b0_1:List TDscb) (i_1:Int) (j:Int):S:=stB [(0,.own 0 [.str,.int .i64,.int .i64,.bool,.bool,.int .i64,.int .i64,.int .i64,.int .i64,.slice 80,.int .i64] 0 b0_1.length),(1,.fnv 90 [.box 1 0]),(5,.c (.int .i64) (.int i_1)),(6,.c (.int .i64) (.int j))] [(0,.row 41 (List.map e_TDscb b0_1)),(1,.box [.c .str (.str del)])]
def slices_DeleteFunc_f89_M1_b2 (n:Nat) (del:List UInt8) (b0_1:List TDscb) (i_1:Int) (j:Int):Option (((List TDscb)×Int×Int) ⊕ (((List TDscb)×Int))) :=
  bif (decide (j < ((b0_1.length:Nat):Int))) then
    gd ((0≤j∧j < (b0_1.length:Int))∧(Int.toNat j) < b0_1.length) <|
    (vtoc_Scratch_2_M1 n (gt b0_1 (Int.toNat j)) del).bind fun r2 =>
    bif (!r2) then
      gd ((0≤i_1∧i_1 < (b0_1.length:Int))∧(Int.toNat i_1) < b0_1.length) <|
      slices_DeleteFunc_f89_M1_k3 n (List.set b0_1 (Int.toNat i_1) (gt b0_1 (Int.toNat j))) del (jc .i64 (i_1+1)) j
    else
      slices_DeleteFunc_f89_M1_k3 n b0_1 del i_1 j
  else
    some (.inr (b0_1,i_1))
def slices_DeleteFunc_f89_M1 (n:Nat) (s:List TDscb) (del:List UInt8):Option (Nat×(List TDscb)) :=
  (slices_IndexFunc_f141_M1 n s del).bind fun r1 =>
  bif (r1 == (-1)) then
    some (s.length,s)
  else
    (loopF (fun (x:(List TDscb)×Int×Int)=>slices_DeleteFunc_f89_M1_b2 n del x.1 x.2.1 x.2.2) n (s,r1,(jc .i64 (r1+1)))).bind fun y13 =>
    slices_DeleteFunc_f89_M1_k1 n y13.1 del y13.2
theorem cslices_DeleteFunc_f89_M1 (n:Nat) (s:List TDscb) (del:List UInt8) (r:Nat×(List TDscb)) (H:slices_DeleteFunc_f89_M1 n s del=some r):CallsM jd 89 [.ref (.own 0 [.str,.int .i64,.int .i64,.bool,.bool,.int .i64,.int .i64,.int .i64,.int .i64,.slice 80,.int .i64] 0 s.length),.ref (.fnv 90 [.box 1 0])] [.row 41 (List.map e_TDscb s),.box [.c .str (.str del)]] [.own 0 [.str,.int .i64,.int .i64,.bool,.bool,.int .i64,.int .i64,.int .i64,.int .i64,.slice 80,.int .i64] 0 r.1] [.row 41 (List.map e_TDscb r.2),.box [.c .str (.str del)]]:=by
  have hΓ:=@g0 (Contract jd)
  refine callsM_of (Tryz.f89.body.getD .skip) h00 Tryz.func89 rfl Tryz.call89 (jp rfl) (jp rfl) ?_
  unfold slices_DeleteFunc_f89_M1 at H
  simp only [Tryz.f89,jJ]
  refine rA ?_
  refine sX fun K2 hK2=>?_
  obtain ⟨r1,hr1,H⟩:=bind_some H
  have q:=hr1
  iterate 2 refine oX ?_
  refine oMq (cslices_IndexFunc_f141_M1 n _ _ r1 hr1) [0,1] [] ?_
  refine oXq ?_
  refine hK2 _ ?_
  refine jA fun K3 hK3=>?_
  refine rA ?_
  refine cnd H (fun h5 H=>?_) (fun h5 H=>?_)
  · refine rA ?_
    refine jF ?_
    refine lf ?_
    obtain rfl:=Option.some.inj H
    exact rtM [some 0,some 1]
  refine jD ?_
  refine hK3 _ ?_
  refine Jz (fun (x:(List TDscb)×Int)=>slices_DeleteFunc_f89_M1_s1 x.1 del x.2) (fun x=>slices_DeleteFunc_f89_M1_k1 n x.1 del x.2=some r) ?_ ?_
  · refine rA ?_
    refine jR ?_
    obtain ⟨y13,hy13,Ho13⟩:=bind_some H
    refine Jq _ (fun x=>slices_DeleteFunc_f89_M1_t2 del x.1 x.2.1 x.2.2) hy13 (wb [some 0,some 1]) ?_
    rintro ⟨b0_1,i_1,j⟩ z13 H
    try dsimp only at H
    unfold slices_DeleteFunc_f89_M1_b2 at H
    refine Sm.st (slices_DeleteFunc_f89_M1_t2.eq_1 ..) ?_
    refine jA fun K14 hK14=>?_
    refine rA ?_
    refine cnd H (fun h16 H=>?_) (fun h16 H=>?_)
    · refine jD ?_
      refine hK14 _ ?_
      refine Jz (fun (x:(List TDscb)×Int)=>slices_DeleteFunc_f89_M1_s3 x.1 del x.2 j) (fun x=>slices_DeleteFunc_f89_M1_k3 n x.1 del x.2 j=some z13) ?_ ?_
      · refine jR ?_
        obtain ⟨⟨hg23,hg24⟩,H⟩:=gd_some H
        refine rA ?_
        refine sX fun K18 hK18=>?_
        obtain ⟨r2,hr2,H⟩:=bind_some H
        have q:=hr2
        iterate 2 refine oX ?_
        refine oMq (cvtoc_Scratch_2_M1 n _ _ r2 hr2) [1] [] ?_
        refine oXq ?_
        refine hK18 _ ?_
        refine cnd H (fun h19 H=>?_) (fun h19 H=>?_)
        · obtain ⟨⟨hg21,hg22⟩,H⟩:=gd_some H
          refine rA ?_
          refine eA ?_
          refine lf ?_
          exact ⟨((List.set b0_1 (Int.toNat i_1) (gt b0_1 (Int.toNat j))),(jc .i64 (i_1+1))),H,wb [some 0,some 1]⟩
        refine jD ?_
        refine lf ?_
        exact ⟨(b0_1,i_1),H,wb [some 0,some 1]⟩
      rintro ⟨b0_2,i_2⟩ H
      try dsimp only at H
      unfold slices_DeleteFunc_f89_M1_k3 at H
      refine Sm.st (slices_DeleteFunc_f89_M1_s3.eq_1 ..) ?_
      refine eA ?_
      refine lf ?_
      exact nx H (wb [some 0,some 1])
    refine JE ?_
    refine lf ?_
    refine lx H fun hyy=>?_
    subst hyy
    have H:=Ho13
    try dsimp only at H
    refine lf ?_
    exact ⟨(b0_1,i_1),H,wb [some 0,some 1]⟩
  rintro ⟨b0,i⟩ H
  try dsimp only at H
  unfold slices_DeleteFunc_f89_M1_k1 at H
  refine Sm.st (slices_DeleteFunc_f89_M1_s1.eq_1 ..) ?_
  refine sX fun K7 hK7=>?_
  obtain ⟨⟨hg8,hg9⟩,H⟩:=gd_some H
  iterate 3 refine oX ?_
  refine oY ?_
  refine hK7 _ ?_
  obtain ⟨hg11,H⟩:=gd_some H
  refine rA ?_
  refine jF ?_
  refine lf ?_
  obtain rfl:=Option.some.inj H
  exact rtM [some 0,some 1]
def vtoc_Scratch (n:Nat) (v:TVtoc) (name:List UInt8):Option (TVtoc×Int) :=
  (vtoc_change_M3 n v name).bind fun r1 =>
  bif (r1.2 != 0) then
    some ((⟨[],0,0,0,[]⟩:TVtoc),r1.2)
  else
    (slices_DeleteFunc_f89_M1 n r1.1.Sets name).bind fun r2 =>
    some ((⟨r1.1.Serial,r1.1.Cyls,r1.1.Heads,r1.1.Size,(List.take r2.1 r2.2)⟩:TVtoc),0)
def xvtoc_Scratch (n:Nat):Go.AE.Fn:=mkFn (A:=TVtoc×(List UInt8)) (R:=TVtoc×Int) 43 [(true,[.str,.int .i64,.int .i64,.int .i64,.slice 41]),(false,[.str])] true (fun xs=>((⟨(cg (xs.getD 0 []) 0).toStr,(cg (xs.getD 0 []) 1).toInt,(cg (xs.getD 0 []) 2).toInt,(cg (xs.getD 0 []) 3).toInt,((cg (xs.getD 0 []) 4).toSl.map d_TDscb)⟩:TVtoc),(cg (xs.getD 1 []) 0).toStr)) (fun a=>[[.str a.1.Serial,.int a.1.Cyls,.int a.1.Heads,.int a.1.Size,.slice (List.map e_TDscb a.1.Sets)],[.str a.2]]) (fun a=>vtoc_Scratch n a.1 a.2) (fun r=>[.agg [.c .str (.str r.1.Serial),.c (.int .i64) (.int r.1.Cyls),.c (.int .i64) (.int r.1.Heads),.c (.int .i64) (.int r.1.Size),.c (.slice 41) (.slice (List.map e_TDscb r.1.Sets))],.c (.int .i64) (.int r.2)]) (fun r=>[])
theorem cvtoc_Scratch (n:Nat):Contract jd (xvtoc_Scratch n):=by
  have hΓ:=@g0 (Contract jd)
  refine contract_f (Tryz.f43.body.getD .skip) h00 Tryz.func43 rfl Tryz.call43 (by decide) (by intro h;cases h) ?_
  rintro ⟨v,name⟩ r H
  try dsimp only at H
  unfold vtoc_Scratch at H
  simp only [Tryz.f43,jJ]
  refine rA ?_
  refine sX fun K2 hK2=>?_
  obtain ⟨r1,hr1,H⟩:=bind_some H
  have q:=hr1
  iterate 2 refine oX ?_
  refine oMq (cvtoc_change_M3 n _ _ r1 hr1) [] [176] ?_
  iterate 6 refine oXq ?_
  refine hK2 _ ?_
  refine jA fun K3 hK3=>?_
  refine rA ?_
  refine cnd H (fun h5 H=>?_) (fun h5 H=>?_)
  · refine rA ?_
    refine jF ?_
    refine lf ?_
    obtain rfl:=Option.some.inj H
    exact rt []
  refine jD ?_
  refine hK3 _ ?_
  refine sX fun K7 hK7=>?_
  obtain ⟨r2,hr2,H⟩:=bind_some H
  have q:=hr2
  iterate 2 refine oX ?_
  refine oY ?_
  refine oMq (cslices_DeleteFunc_f89_M1 n _ _ r2 hr2) [176,48] [] ?_
  iterate 2 refine oXq ?_
  refine hK7 _ ?_
  refine rA ?_
  refine jF ?_
  refine lf ?_
  obtain rfl:=Option.some.inj H
  exact rt []
def vtoc_Rename_1_M1 (n:Nat) (d:List TDscb) (d_i:Nat) (p1:List UInt8) (p2:List UInt8) (p2_:Int) (p2__:Int) (p2___:Int) (p2____:List TDscb):Option (Int×(List TDscb)) :=
  (vtoc_Name n p1).bind fun r1 =>
  bif (!r1) then
    some (1,d)
  else
    (vtoc_Vtoc__index n (⟨p2,p2_,p2__,p2___,p2____⟩:TVtoc) p1).bind fun r2 =>
    bif r2.2 then
      some (4,d)
    else
      gd (d_i < d.length) <|
      some (0,(List.set d d_i (⟨p1,((gt d d_i).Dcb),(gt d d_i).Extents,(gt d d_i).Used⟩:TDscb)))
theorem cvtoc_Rename_1_M1 (n:Nat) (d:List TDscb) (d_i:Nat) (p1:List UInt8) (p2:List UInt8) (p2_:Int) (p2__:Int) (p2___:Int) (p2____:List TDscb) (r:Int×(List TDscb)) (H:vtoc_Rename_1_M1 n d d_i p1 p2 p2_ p2__ p2___ p2____=some r):CallsM jd 91 [.ref (.elt 0 11 [.str,.int .i64,.int .i64,.bool,.bool,.int .i64,.int .i64,.int .i64,.int .i64,.slice 80,.int .i64] d_i 0),.ref (.box 1 0),.ref (.box 2 0)] [.row 41 (List.map e_TDscb d),.box [.c .str (.str p1)],.box [.c .str (.str p2),.c (.int .i64) (.int p2_),.c (.int .i64) (.int p2__),.c (.int .i64) (.int p2___),.c (.slice 41) (.slice (List.map e_TDscb p2____))]] [.c (.int .i64) (.int r.1)] [.row 41 (List.map e_TDscb r.2),.box [.c .str (.str p1)],.box [.c .str (.str p2),.c (.int .i64) (.int p2_),.c (.int .i64) (.int p2__),.c (.int .i64) (.int p2___),.c (.slice 41) (.slice (List.map e_TDscb p2____))]]:=by
  have hΓ:=g1 (cvtoc_Name n) (g1 (cvtoc_Vtoc__index n) (@g0 (Contract jd)))
  have qe:=aI @xvtoc_Name.eq_1 @xvtoc_Vtoc__index.eq_1
  refine callsM_of (Tryz.f91.body.getD .skip) h00 Tryz.func91 rfl Tryz.call91 (jp rfl) (jp rfl) ?_
  unfold vtoc_Rename_1_M1 at H
  simp only [Tryz.f91,jJ]
  refine rA ?_
  refine jA fun K2 hK2=>?_
  obtain ⟨r1,hr1,H⟩:=bind_some H
  have q:=aI qe hr1
  refine rAq ?_
  refine cnd H (fun h4 H=>?_) (fun h4 H=>?_)
  · refine rA ?_
    refine jF ?_
    refine lf ?_
    obtain rfl:=Option.some.inj H
    exact rtM [some 0,some 1,some 2]
  refine jD ?_
  refine hK2 _ ?_
  refine jA fun K6 hK6=>?_
  obtain ⟨r2,hr2,H⟩:=bind_some H
  have q:=aI qe hr2
  refine rAq ?_
  refine rA ?_
  refine cnd H (fun h9 H=>?_) (fun h9 H=>?_)
  · refine rA ?_
    refine jF ?_
    refine lf ?_
    obtain rfl:=Option.some.inj H
    exact rtM [some 0,some 1,some 2]
  refine jD ?_
  refine hK6 _ ?_
  refine sX fun K11 hK11=>?_
  obtain ⟨hg12,H⟩:=gd_some H
  iterate 2 refine oX ?_
  refine oE stepZ_ok ?_
  iterate 2 refine oX ?_
  refine hK11 _ ?_
  refine rA ?_
  refine jF ?_
  refine lf ?_
  obtain rfl:=Option.some.inj H
  exact rtM [some 0,some 1,some 2]
def vtoc_change_M4 (n:Nat) (v:TVtoc) (name:List UInt8) (how:List UInt8) (how_:List UInt8) (how__:Int) (how___:Int) (how____:Int) (how_____:List TDscb):Option (TVtoc×Int) :=
  (vtoc_Check n v).bind fun r1 =>
  bif (r1 != 0) then
    some ((⟨[],0,0,0,[]⟩:TVtoc),r1)
  else
    (vtoc_Vtoc__index n v name).bind fun r2 =>
    bif (!r2.2) then
      some ((⟨[],0,0,0,[]⟩:TVtoc),3)
    else
      (vtoc_Vtoc__copied n v).bind fun r3 =>
      gd ((0≤r2.1∧r2.1 < (r3.Sets.length:Int))) <|
      (vtoc_Rename_1_M1 n r3.Sets (Int.toNat r2.1) how how_ how__ how___ how____ how_____).bind fun r4 =>
      gd (r4.2.length=r3.Sets.length) <|
      bif (r4.1 != 0) then
        some ((⟨[],0,0,0,[]⟩:TVtoc),r4.1)
      else
        some ((⟨r3.Serial,r3.Cyls,r3.Heads,r3.Size,r4.2⟩:TVtoc),0)
theorem cvtoc_change_M4 (n:Nat) (v:TVtoc) (name:List UInt8) (how:List UInt8) (how_:List UInt8) (how__:Int) (how___:Int) (how____:Int) (how_____:List TDscb) (r:TVtoc×Int) (H:vtoc_change_M4 n v name how how_ how__ how___ how____ how_____=some r):CallsM jd 87 [.dat (true,[.str,.int .i64,.int .i64,.int .i64,.slice 41]) [.str v.Serial,.int v.Cyls,.int v.Heads,.int v.Size,.slice (List.map e_TDscb v.Sets)],.dat (false,[.str]) [.str name],.ref (.fnv 91 [.box 0 0,.box 1 0])] [.box [.c .str (.str how)],.box [.c .str (.str how_),.c (.int .i64) (.int how__),.c (.int .i64) (.int how___),.c (.int .i64) (.int how____),.c (.slice 41) (.slice (List.map e_TDscb how_____))]] [.agg [.c .str (.str r.1.Serial),.c (.int .i64) (.int r.1.Cyls),.c (.int .i64) (.int r.1.Heads),.c (.int .i64) (.int r.1.Size),.own 2 [.str,.int .i64,.int .i64,.bool,.bool,.int .i64,.int .i64,.int .i64,.int .i64,.slice 80,.int .i64] 0 r.1.Sets.length],.c (.int .i64) (.int r.2)] [.box [.c .str (.str how)],.box [.c .str (.str how_),.c (.int .i64) (.int how__),.c (.int .i64) (.int how___),.c (.int .i64) (.int how____),.c (.slice 41) (.slice (List.map e_TDscb how_____))],.row 41 (List.map e_TDscb r.1.Sets)]:=by
  have hΓ:=g1 (cvtoc_Check n) (g1 (cvtoc_Vtoc__index n) (g1 (cvtoc_Vtoc__copied n) (@g0 (Contract jd))))
  have qe:=aI @xvtoc_Check.eq_1 (aI @xvtoc_Vtoc__index.eq_1 @xvtoc_Vtoc__copied.eq_1)
  refine callsM_of (Tryz.f87.body.getD .skip) h00 Tryz.func87 rfl Tryz.call87 (jp rfl) (jp rfl) ?_
  unfold vtoc_change_M4 at H
  simp only [Tryz.f87,jJ]
  refine rA ?_
  refine jA fun K2 hK2=>?_
  obtain ⟨r1,hr1,H⟩:=bind_some H
  have q:=aI qe hr1
  refine rAq ?_
  refine rA ?_
  refine cnd H (fun h5 H=>?_) (fun h5 H=>?_)
  · refine rA ?_
    refine jF ?_
    refine lf ?_
    obtain rfl:=Option.some.inj H
    exact rtM [some 0,some 1,none]
  refine jD ?_
  refine hK2 _ ?_
  obtain ⟨r2,hr2,H⟩:=bind_some H
  have q:=aI qe hr2
  refine rAq ?_
  refine jA fun K8 hK8=>?_
  refine rA ?_
  refine cnd H (fun h10 H=>?_) (fun h10 H=>?_)
  · refine rA ?_
    refine jF ?_
    refine lf ?_
    obtain rfl:=Option.some.inj H
    exact rtM [some 0,some 1,none]
  refine jD ?_
  refine hK8 _ ?_
  obtain ⟨r3,hr3,H⟩:=bind_some H
  have q:=aI qe hr3
  refine rAq ?_
  refine jA fun K13 hK13=>?_
  refine sX fun K14 hK14=>?_
  obtain ⟨hg15,H⟩:=gd_some H
  obtain ⟨r4,hr4,H⟩:=bind_some H
  obtain ⟨hg16,H⟩:=gd_some H
  have q:=hr4
  iterate 5 refine oX ?_
  refine oMq (cvtoc_Rename_1_M1 n _ _ _ _ _ _ _ _ r4 hr4) [464,0,1] [] ?_
  refine oXq ?_
  refine hK14 _ ?_
  refine rA ?_
  refine cnd H (fun h18 H=>?_) (fun h18 H=>?_)
  · refine rA ?_
    refine jF ?_
    refine lf ?_
    obtain rfl:=Option.some.inj H
    exact rtM [some 0,some 1,none]
  refine jD ?_
  refine hK13 _ ?_
  refine rA ?_
  refine jF ?_
  refine lf ?_
  obtain rfl:=Option.some.inj H
  exact rtM [some 0,some 1,some 464]
def slices_SortFunc_f92_c93 (n:Nat) (s:List TDscb):Option (List TDscb):=sortG (fun x y=>vtoc_Rename_2 n x y) s
theorem cslices_SortFunc_f92_c93 (n:Nat) (s:List TDscb) (r:List TDscb) (H:slices_SortFunc_f92_c93 n s=some r):CallsM jd 92 [.ref (.own 0 [.str,.int .i64,.int .i64,.bool,.bool,.int .i64,.int .i64,.int .i64,.int .i64,.slice 80,.int .i64] 0 s.length),.ref (.fnv 93 [])] [.row 41 (List.map e_TDscb s)] [] [.row 41 (List.map e_TDscb r)] :=
  callsM_sortG lay92 ty41 Tryz.isAgg41 Tryz.sizeOf41 (by decide) (by decide) (by intro args w;exact Tryz.call93 args w) e_TDscb (fun _=>rfl) (fun x y=>vtoc_Rename_2 n x y) (fun x y c h=>raw93 x y c h) s r H
def vtoc_Rename (n:Nat) (v:TVtoc) (old:List UInt8) (name:List UInt8):Option (TVtoc×Int) :=
  (vtoc_change_M4 n v old name v.Serial v.Cyls v.Heads v.Size v.Sets).bind fun r1 =>
  (slices_SortFunc_f92_c93 n r1.1.Sets).bind fun r2 =>
  some ((⟨r1.1.Serial,r1.1.Cyls,r1.1.Heads,r1.1.Size,(List.take r1.1.Sets.length r2)⟩:TVtoc),r1.2)
def xvtoc_Rename (n:Nat):Go.AE.Fn:=mkFn (A:=TVtoc×(List UInt8)×(List UInt8)) (R:=TVtoc×Int) 45 [(true,[.str,.int .i64,.int .i64,.int .i64,.slice 41]),(false,[.str]),(false,[.str])] true (fun xs=>((⟨(cg (xs.getD 0 []) 0).toStr,(cg (xs.getD 0 []) 1).toInt,(cg (xs.getD 0 []) 2).toInt,(cg (xs.getD 0 []) 3).toInt,((cg (xs.getD 0 []) 4).toSl.map d_TDscb)⟩:TVtoc),(cg (xs.getD 1 []) 0).toStr,(cg (xs.getD 2 []) 0).toStr)) (fun a=>[[.str a.1.Serial,.int a.1.Cyls,.int a.1.Heads,.int a.1.Size,.slice (List.map e_TDscb a.1.Sets)],[.str a.2.1],[.str a.2.2]]) (fun a=>vtoc_Rename n a.1 a.2.1 a.2.2) (fun r=>[.agg [.c .str (.str r.1.Serial),.c (.int .i64) (.int r.1.Cyls),.c (.int .i64) (.int r.1.Heads),.c (.int .i64) (.int r.1.Size),.c (.slice 41) (.slice (List.map e_TDscb r.1.Sets))],.c (.int .i64) (.int r.2)]) (fun r=>[])
theorem cvtoc_Rename (n:Nat):Contract jd (xvtoc_Rename n):=by
  have hΓ:=@g0 (Contract jd)
  refine contract_f (Tryz.f45.body.getD .skip) h00 Tryz.func45 rfl Tryz.call45 (by decide) (by intro h;cases h) ?_
  rintro ⟨v,old,name⟩ r H
  try dsimp only at H
  unfold vtoc_Rename at H
  simp only [Tryz.f45,jJ]
  refine rA ?_
  refine sX fun K2 hK2=>?_
  obtain ⟨r1,hr1,H⟩:=bind_some H
  have q:=hr1
  iterate 2 refine oX ?_
  refine oY ?_
  refine oMq (cvtoc_change_M4 n _ _ _ _ _ _ _ _ r1 hr1) [80,48] [224] ?_
  iterate 6 refine oXq ?_
  refine hK2 _ ?_
  refine sX fun K3 hK3=>?_
  obtain ⟨r2,hr2,H⟩:=bind_some H
  have q:=hr2
  iterate 2 refine oX ?_
  refine oMq (cslices_SortFunc_f92_c93 n _ r2 hr2) [224] [] ?_
  refine hK3 _ ?_
  refine rA ?_
  refine jF ?_
  refine lf ?_
  obtain rfl:=Option.some.inj H
  exact rt []
def law21_plain (n:Nat):Option TDcb :=
  some (⟨1,1,false,false,80,80,0,0⟩:TDcb)
def xlaw21_plain (n:Nat):Go.AE.Fn:=mkFn (A:=Unit) (R:=TDcb) 42 [] false (fun xs=>()) (fun a=>[]) (fun a=>law21_plain n) (fun r=>[.agg [.c (.int .i64) (.int r.Org),.c (.int .i64) (.int r.Format),.c .bool (.bool r.Blocked),.c .bool (.bool r.Asa),.c (.int .i64) (.int r.Lrecl),.c (.int .i64) (.int r.Blksize),.c (.int .i64) (.int r.KeyLen),.c (.int .i64) (.int r.KeyPos)]]) (fun r=>[])
theorem claw21_plain (n:Nat):Contract jd (xlaw21_plain n):=by
  have hΓ:=@g0 (Contract jd)
  refine contract_f (Tryz.f42.body.getD .skip) h00 Tryz.func42 rfl Tryz.call42 (by decide) (by intro _ r;exact ⟨rfl,by simp⟩) ?_
  rintro ⟨⟩ r H
  try dsimp only at H
  unfold law21_plain at H
  simp only [Tryz.f42,jJ]
  refine rA ?_
  refine rA ?_
  refine jF ?_
  refine lf ?_
  obtain rfl:=Option.some.inj H
  exact rt []
abbrev law21_extents_s1:S:=stB [] []
def law21_extents_k1 (n:Nat):Option Bool :=
  some true
abbrev law21_extents_t2 (a:List TExtent) (b:List TExtent) (k:Int):S:=stB [(0,.c (.slice 80) (.slice (List.map e_TExtent a))),(1,.c (.slice 80) (.slice (List.map e_TExtent b))),(5,.c (.int .i64) (.int k))] []
def law21_extents_b2 (n:Nat) (a:List TExtent) (b:List TExtent) (k:Int):Option ((Int) ⊕ (((Bool) ⊕ (Unit)))) :=
  bif (decide (k < (a.length:Int))) then
    gd ((0≤k∧k < (a.length:Int))∧(0≤k∧k < (b.length:Int))) <|
    bif (!((((gt a (Int.toNat k)).At) == ((gt b (Int.toNat k)).At)) && (((gt a (Int.toNat k)).Len) == ((gt b (Int.toNat k)).Len)))) then
      some (.inr (.inl false))
    else
      some (.inl (jc .i64 (k+1)))
  else
    some (.inr (.inr ()))
def law21_extents (n:Nat) (a:List TExtent) (b:List TExtent):Option Bool :=
  bif ((a.length:Int) != (b.length:Int)) then
    some false
  else
    (loopF (fun (x:Int)=>law21_extents_b2 n a b x) n 0).bind fun y8 =>
    match y8 with
    | .inl vv =>
      some vv
    | .inr vv =>
      law21_extents_k1 n
def xlaw21_extents (n:Nat):Go.AE.Fn:=mkFn (A:=(List TExtent)×(List TExtent)) (R:=Bool) 49 [(false,[.slice 80]),(false,[.slice 80])] false (fun xs=>(((cg (xs.getD 0 []) 0).toSl.map d_TExtent),((cg (xs.getD 1 []) 0).toSl.map d_TExtent))) (fun a=>[[.slice (List.map e_TExtent a.1)],[.slice (List.map e_TExtent a.2)]]) (fun a=>law21_extents n a.1 a.2) (fun r=>[.c .bool (.bool r)]) (fun r=>[])
theorem claw21_extents (n:Nat):Contract jd (xlaw21_extents n):=by
  have hΓ:=@g0 (Contract jd)
  refine contract_f (Tryz.f49.body.getD .skip) h00 Tryz.func49 rfl Tryz.call49 (by decide) (by intro _ r;exact ⟨rfl,by simp⟩) ?_
  rintro ⟨a,b⟩ r H
  try dsimp only at H
  unfold law21_extents at H
  simp only [Tryz.f49,jJ]
  refine rA ?_
  refine jA fun K2 hK2=>?_
  refine rA ?_
  refine cnd H (fun h4 H=>?_) (fun h4 H=>?_)
  · refine rA ?_
    refine jF ?_
    refine lf ?_
    obtain rfl:=Option.some.inj H
    exact rt []
  refine jD ?_
  refine hK2 _ ?_
  refine Jz (fun (x:Unit)=>law21_extents_s1) (fun x=>law21_extents_k1 n=some r) ?_ ?_
  · refine rA ?_
    refine jR ?_
    obtain ⟨y8,hy8,Ho8⟩:=bind_some H
    refine Jq _ (fun x=>law21_extents_t2 a b x) hy8 (wb []) ?_
    rintro k z8 H
    try dsimp only at H
    unfold law21_extents_b2 at H
    refine Sm.st (law21_extents_t2.eq_1 ..) ?_
    refine jA fun K9 hK9=>?_
    refine rA ?_
    refine cnd H (fun h11 H=>?_) (fun h11 H=>?_)
    · refine jD ?_
      refine hK9 _ ?_
      refine jA fun K12 hK12=>?_
      refine jR ?_
      obtain ⟨⟨hg16,hg17⟩,H⟩:=gd_some H
      refine rD ?_
      refine cnd H (fun h14 H=>?_) (fun h14 H=>?_)
      · refine rA ?_
        refine jF ?_
        refine lf ?_
        refine lx H fun hyy=>?_
        subst hyy
        have H:=Ho8
        try dsimp only at H
        refine lf ?_
        obtain rfl:=Option.some.inj H
        exact rt []
      refine jD ?_
      refine hK12 _ ?_
      refine eA ?_
      refine lf ?_
      exact nx H (wb [])
    refine JE ?_
    refine lf ?_
    refine lx H fun hyy=>?_
    subst hyy
    have H:=Ho8
    try dsimp only at H
    refine lf ?_
    exact ⟨(),H,wb []⟩
  rintro ⟨⟩ H
  try dsimp only at H
  unfold law21_extents_k1 at H
  refine Sm.st (law21_extents_s1.eq_1 ..) ?_
  refine rA ?_
  refine jF ?_
  refine lf ?_
  obtain rfl:=Option.some.inj H
  exact rt []
def law21_works (n:Nat):Option Bool :=
  (vtoc_New n [86,49] 4 2 1).bind fun r1 =>
  (law21_plain n).bind fun r2 =>
  (vtoc_Create n (⟨r1.1.Serial,r1.1.Cyls,r1.1.Heads,r1.1.Size,[]⟩:TVtoc) (⟨[65],r2,[],0⟩:TDscb) 3).bind fun r3 =>
  (law21_plain n).bind fun r4 =>
  (vtoc_Create n r3.1 (⟨[66],r4,[],0⟩:TDscb) 2).bind fun r5 =>
  (vtoc_Free n r5.1).bind fun r6 =>
  gd (((if (if (if (r1.2 == 0)=true then (r3.2 == 0) else false)=true then (r5.2 == 0) else false)=true then (((r5.1.Sets.length:Nat):Int) == 2) else false)=true→0 < (r5.1.Sets.length:Int))∧((if (if (if (r1.2 == 0)=true then (r3.2 == 0) else false)=true then (r5.2 == 0) else false)=true then (((r5.1.Sets.length:Nat):Int) == 2) else false)=true→0 < r5.1.Sets.length)) <|
  bif (if (if (if (r1.2 == 0)=true then (r3.2 == 0) else false)=true then (r5.2 == 0) else false)=true then (((r5.1.Sets.length:Nat):Int) == 2) else false) then
    gd ((if (if (if (r1.2 == 0)=true then (r3.2 == 0) else false)=true then (r5.2 == 0) else false)=true then (((r5.1.Sets.length:Nat):Int) == 2) else false)=true∧(if (if (if (r1.2 == 0)=true then (r3.2 == 0) else false)=true then (r5.2 == 0) else false)=true then (((r5.1.Sets.length:Nat):Int) == 2) else false)=true) <|
    (law21_extents n ((gt r5.1.Sets 0).Extents) [(⟨2,3⟩:TExtent)]).bind fun r7 =>
    gd ((r7=true→1 < (r5.1.Sets.length:Int))∧(r7=true→1 < r5.1.Sets.length)) <|
    bif r7 then
      gd (r7=true∧r7=true) <|
      (law21_extents n ((gt r5.1.Sets 1).Extents) [(⟨5,2⟩:TExtent)]).bind fun r8 =>
      bif r8 then
        gd (r8=true∧r8=true) <|
        (law21_extents n r6 [(⟨7,1⟩:TExtent)]).bind fun r9 =>
        some r9
      else
        some false
    else
      some false
  else
    some false
def xlaw21_works (n:Nat):Go.AE.Fn:=mkFn (A:=Unit) (R:=Bool) 14 [] false (fun xs=>()) (fun a=>[]) (fun a=>law21_works n) (fun r=>[.c .bool (.bool r)]) (fun r=>[])
theorem claw21_works (n:Nat):Contract jd (xlaw21_works n):=by
  have hΓ:=g1 (cvtoc_New n) (g1 (claw21_plain n) (g1 (cvtoc_Create n) (g1 (cvtoc_Free n) (g1 (claw21_extents n) (@g0 (Contract jd))))))
  have qe:=aI @xvtoc_New.eq_1 (aI @xlaw21_plain.eq_1 (aI @xvtoc_Create.eq_1 (aI @xvtoc_Free.eq_1 @xlaw21_extents.eq_1)))
  refine contract_f (Tryz.f14.body.getD .skip) h00 Tryz.func14 rfl Tryz.call14 (by decide) (by intro _ r;exact ⟨rfl,by simp⟩) ?_
  rintro ⟨⟩ r H
  try dsimp only at H
  unfold law21_works at H
  simp only [Tryz.f14,jJ]
  refine rA ?_
  obtain ⟨r1,hr1,H⟩:=bind_some H
  have q:=aI qe hr1
  refine rAq ?_
  obtain ⟨r2,hr2,H⟩:=bind_some H
  obtain ⟨r3,hr3,H⟩:=bind_some H
  refine sQ [0,1,2,3,4,5,6,7,8] [(none,[16],[]),(none,[],[207,206,205,204,203,202,201,200,199,198,197,196,195,194,193,192]),(none,[],[]),(none,[],[239,238,237,236,235,234,233,232,231,230,229,228,227,226,225,224]),(none,[],[]),(none,[],[]),(none,[],[]),(none,[16,224],[16]),(none,[],[])] fun K3 hK3=>?_
  have q:=aI qe (aI hr2 hr3)
  iterate 9 refine oQq ?_
  refine opsQ0 ?_
  refine hK3 _ ?_
  obtain ⟨r4,hr4,H⟩:=bind_some H
  obtain ⟨r5,hr5,H⟩:=bind_some H
  refine sQ [0,1,2,3,4,5,6,7,8] [(none,[16],[]),(none,[],[319,318,317,316,315,314,313,312,311,310,309,308,307,306,305,304]),(none,[],[]),(none,[224],[351,350,349,348,347,346,345,344,343,342,341,340,339,338,337,336,224]),(none,[],[]),(none,[],[]),(none,[],[]),(none,[16,336],[16]),(none,[],[])] fun K4 hK4=>?_
  have q:=aI qe (aI hr4 hr5)
  iterate 9 refine oQq ?_
  refine opsQ0 ?_
  refine hK4 _ ?_
  obtain ⟨r6,hr6,H⟩:=bind_some H
  have q:=aI qe hr6
  refine rAq ?_
  refine sX fun K6 hK6=>?_
  obtain ⟨⟨hg7,hg8⟩,H⟩:=gd_some H
  have q:=qe
  iterate 23 refine oXq ?_
  refine bif_cases H (fun hs9 H=>?_) (fun hs9 H=>?_)
  · try simp only [hs9,Jh,jT,jn,true_implies,false_implies,forall_const] at hg7
    try simp only [hs9,Jh,jT,jn,true_implies,false_implies,forall_const] at hg8
    obtain ⟨⟨hg10,hg11⟩,H⟩:=gd_some H
    obtain ⟨r7,hr7,H⟩:=bind_some H
    obtain ⟨⟨hg12,hg13⟩,H⟩:=gd_some H
    have q:=aI qe (aI hs9 hr7)
    refine oTG ?_
    refine oTG ?_
    refine oPl ?_
    iterate 7 refine oXq ?_
    refine bif_cases H (fun hs14 H=>?_) (fun hs14 H=>?_)
    · try simp only [z,seval,hs9,hr7] at hs14
      try simp only [hs14,Jh,jT,jn,true_implies,false_implies,forall_const] at hg12
      try simp only [hs14,Jh,jT,jn,true_implies,false_implies,forall_const] at hg13
      obtain ⟨⟨hg15,hg16⟩,H⟩:=gd_some H
      obtain ⟨r8,hr8,H⟩:=bind_some H
      have q:=aI qe (aI hs9 (aI hr7 (aI hs14 hr8)))
      refine oTG ?_
      refine oTG ?_
      refine oPl ?_
      iterate 3 refine oXq ?_
      refine bif_cases H (fun hs17 H=>?_) (fun hs17 H=>?_)
      · try simp only [z,seval,hs9,hr7,hs14,hr8] at hs17
        obtain ⟨⟨hg18,hg19⟩,H⟩:=gd_some H
        obtain ⟨r9,hr9,H⟩:=bind_some H
        have q:=aI qe (aI hs9 (aI hr7 (aI hs14 (aI hr8 (aI hs17 hr9)))))
        refine oTG ?_
        refine oTG ?_
        refine oPl ?_
        refine oXq ?_
        refine hK6 _ ?_
        refine jF ?_
        refine lf ?_
        obtain rfl:=Option.some.inj H
        exact rt []
      try simp only [z,seval,hs9,hr7,hs14,hr8] at hs17
      have q:=aI qe (aI hs9 (aI hr7 (aI hs14 (aI hr8 hs17))))
      refine oFq ?_
      refine oFq ?_
      refine oPr ?_
      refine oXq ?_
      refine hK6 _ ?_
      refine jF ?_
      refine lf ?_
      obtain rfl:=Option.some.inj H
      exact rt []
    try simp only [z,seval,hs9,hr7] at hs14
    try simp only [hs14,Jh,jT,jn,true_implies,false_implies,forall_const] at hg12
    try simp only [hs14,Jh,jT,jn,true_implies,false_implies,forall_const] at hg13
    have q:=aI qe (aI hs9 (aI hr7 hs14))
    refine oFq ?_
    refine oFq ?_
    refine oPr ?_
    refine oXq ?_
    refine oFq ?_
    refine oFq ?_
    refine oFq ?_
    refine oFq ?_
    refine oPr ?_
    refine oXq ?_
    refine hK6 _ ?_
    refine jF ?_
    refine lf ?_
    obtain rfl:=Option.some.inj H
    exact rt []
  try simp only [hs9,Jh,jT,jn,true_implies,false_implies,forall_const] at hg7
  try simp only [hs9,Jh,jT,jn,true_implies,false_implies,forall_const] at hg8
  have q:=aI qe hs9
  refine oFq ?_
  refine oFq ?_
  refine oPr ?_
  refine oXq ?_
  refine oFq ?_
  refine oFq ?_
  refine oFq ?_
  refine oFq ?_
  refine oFq ?_
  refine oFq ?_
  refine oFq ?_
  refine oFq ?_
  refine oPr ?_
  refine oXq ?_
  refine oFq ?_
  refine oFq ?_
  refine oFq ?_
  refine oFq ?_
  refine oPr ?_
  refine oXq ?_
  refine hK6 _ ?_
  refine jF ?_
  refine lf ?_
  obtain rfl:=Option.some.inj H
  exact rt []
end Go.Proofs.YtijnkhcfondehaaGreatDoor
