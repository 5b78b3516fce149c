/- Text. -/
import Derived.Test.YtijnkhcfondehaaGreatDoorT
import Derived.Test.YtijnkhcfondehaaGreatDoorL92
import Derived.Test.YtijnkhcfondehaaGreatDoorN2
import Derived.Test.YtijnkhcfondehaaGreatDoorJ
set_option maxHeartbeats 8000000
set_option linter.unusedVariables false
set_option linter.unusedSimpArgs false
set_option maxRecDepth 100000
namespace Go.Proofs.YtijnkhcfondehaaGreatDoor
open Go.AE
def vtoc_in (n:Nat) (n_:Int) (lo:Int) (hi:Int):Option Bool :=
  some (if (decide (lo≤n_))=true then (decide (n_≤hi)) else false)
def xvtoc_in (n:Nat):Go.AE.Fn:=mkFn (A:=Int×Int×Int) (R:=Bool) 67 [(false,[.int .i64]),(false,[.int .i64]),(false,[.int .i64])] false (fun xs=>((cg (xs.getD 0 []) 0).toInt,(cg (xs.getD 1 []) 0).toInt,(cg (xs.getD 2 []) 0).toInt)) (fun a=>[[.int a.1],[.int a.2.1],[.int a.2.2]]) (fun a=>vtoc_in n a.1 a.2.1 a.2.2) (fun r=>[.c .bool (.bool r)]) (fun r=>[])
theorem cvtoc_in (n:Nat):Contract Tryz.prog (xvtoc_in n):=by
  have hΓ:=@g0 (Contract Tryz.prog)
  refine contract_f (Tryz.f67.body.getD .skip) h00 Tryz.func67 rfl Tryz.call67 (by decide) (by intro _ r;exact ⟨rfl,by simp⟩) ?_
  rintro ⟨n_,lo,hi⟩ r H
  try dsimp only at H
  unfold vtoc_in at H
  simp only [Tryz.f67,Option.getD]
  refine rA ?_
  refine rA ?_
  refine Sm.ret ?_
  refine lf ?_
  obtain rfl:=Option.some.inj H
  exact rt []
abbrev vtoc_Name_s1:S:=stB [] []
def vtoc_Name_k1 (n:Nat):Option Bool :=
  some true
abbrev vtoc_Name_t2 (v9:List (List UInt8)) (v10:Int) (v11:Int):S:=stB [(9,.own 9001 [.str] 0 v9.length),(10,.c (.int .i64) (.int v10)),(11,.c (.int .i64) (.int v11))] [(9001,.row 9 (List.map e_Str v9))]
def vtoc_Name_b2 (n:Nat) (v9:List (List UInt8)) (v10:Int) (v11:Int):Option ((Int) ⊕ (((Bool) ⊕ (Unit)))) :=
  bif (decide (v11 < v10)) then
    gd ((0≤v11∧v11 < (v9.length:Int))∧(Int.toNat v11) < v9.length) <|
    gd (((!(if (decide (((gt v9 (Int.toNat v11)).length:Int) < 1))=true then true else (decide (((gt v9 (Int.toNat v11)).length:Int) > 8))))=true→0 < ((gt v9 (Int.toNat v11)).length:Int))∧(((!(if (decide (((gt v9 (Int.toNat v11)).length:Int) < 1))=true then true else (decide (((gt v9 (Int.toNat v11)).length:Int) > 8)))) && (decide (((((gt v9 (Int.toNat v11)).getD 0 0).toNat:Nat):Int) ≥ 48)))=true→0 < ((gt v9 (Int.toNat v11)).length:Int))) <|
    bif (if (if (decide (((gt v9 (Int.toNat v11)).length:Int) < 1))=true then true else (decide (((gt v9 (Int.toNat v11)).length:Int) > 8)))=true then true else (if (decide (((((gt v9 (Int.toNat v11)).getD 0 0).toNat:Nat):Int) ≥ 48))=true then (decide (((((gt v9 (Int.toNat v11)).getD 0 0).toNat:Nat):Int)≤57)) else false)) then
      some (.inr (.inl false))
    else
      (strings_Trim n (gt v9 (Int.toNat v11)) [65,66,67,68,69,70,71,72,73,74,75,76,77,78,79,80,81,82,83,84,85,86,87,88,89,90,48,49,50,51,52,53,54,55,56,57,64,35,36]).bind fun r2 =>
      bif (r2 != []) then
        some (.inr (.inl false))
      else
        some (.inl (IntKind.wrap .i64 (v11+1)))
  else
    some (.inr (.inr ()))
def vtoc_Name (n:Nat) (s:List UInt8):Option Bool :=
  bif (decide ((s.length:Int) > 44)) then
    some false
  else
    (strings_Split n s [46]).bind fun r1 =>
    (loopF (fun (x:Int)=>vtoc_Name_b2 n r1 ((r1.length:Nat):Int) x) n 0).bind fun y8 =>
    match y8 with
    | .inl vv =>
      some vv
    | .inr vv =>
      vtoc_Name_k1 n
def xvtoc_Name (n:Nat):Go.AE.Fn:=mkFn (A:=(List UInt8)) (R:=Bool) 17 [(false,[.str])] false (fun xs=>(cg (xs.getD 0 []) 0).toStr) (fun a=>[[.str a]]) (fun a=>vtoc_Name n a) (fun r=>[.c .bool (.bool r)]) (fun r=>[])
theorem cvtoc_Name (n:Nat):Contract Tryz.prog (xvtoc_Name n):=by
  have hΓ:=g1 (cstrings_Split n) (g1 (cstrings_Trim n) (@g0 (Contract Tryz.prog)))
  refine contract_f (Tryz.f17.body.getD .skip) h00 Tryz.func17 rfl Tryz.call17 (by decide) (by intro _ r;exact ⟨rfl,by simp⟩) ?_
  rintro s r H
  try dsimp only at H
  unfold vtoc_Name at H
  simp only [Tryz.f17,Option.getD]
  refine rA ?_
  refine Sm.seqK fun K2 hK2=>?_
  refine rA ?_
  refine cnd H (fun h4 H=>?_) (fun h4 H=>?_)
  · refine rA ?_
    refine Sm.ret ?_
    refine lf ?_
    obtain rfl:=Option.some.inj H
    exact rt []
  refine Sm.skip ?_
  refine hK2 _ ?_
  refine Sm.cut (fun (x:Unit)=>vtoc_Name_s1) (fun x=>vtoc_Name_k1 n=some r) ?_ ?_
  · obtain ⟨r1,hr1,H⟩:=bind_some H
    have q:=And.intro @xstrings_Split.eq_1 hr1
    refine rAq ?_
    refine Sm.block ?_
    obtain ⟨y8,hy8,Ho8⟩:=bind_some H
    refine Sm.loopB _ (fun x=>vtoc_Name_t2 r1 ((r1.length:Nat):Int) x) hy8 (wb [some 144]) ?_
    rintro v11 z8 H
    try dsimp only at H
    unfold vtoc_Name_b2 at H
    refine Sm.st (vtoc_Name_t2.eq_1 ..) ?_
    refine rA ?_
    refine Sm.seqK fun K10 hK10=>?_
    refine cnd H (fun h11 H=>?_) (fun h11 H=>?_)
    · refine Sm.skip ?_
      refine hK10 _ ?_
      refine Sm.seqK fun K12 hK12=>?_
      refine Sm.block ?_
      obtain ⟨⟨hg23,hg24⟩,H⟩:=gd_some H
      refine rA ?_
      refine Sm.seqK fun K14 hK14=>?_
      obtain ⟨⟨hg21,hg22⟩,H⟩:=gd_some H
      refine rA ?_
      refine cnd H (fun h16 H=>?_) (fun h16 H=>?_)
      · refine rA ?_
        refine Sm.ret ?_
        refine lf ?_
        refine lx H fun hyy=>?_
        subst hyy
        have H:=Ho8
        try dsimp only at H
        refine lf ?_
        obtain rfl:=Option.some.inj H
        exact rt []
      refine Sm.skip ?_
      refine hK14 _ ?_
      obtain ⟨r2,hr2,H⟩:=bind_some H
      have q:=And.intro @xstrings_Split.eq_1 (And.intro @xstrings_Trim.eq_1 hr2)
      refine rAq ?_
      refine cnd H (fun h19 H=>?_) (fun h19 H=>?_)
      · refine rA ?_
        refine Sm.ret ?_
        refine lf ?_
        refine lx H fun hyy=>?_
        subst hyy
        have H:=Ho8
        try dsimp only at H
        refine lf ?_
        obtain rfl:=Option.some.inj H
        exact rt []
      refine Sm.skip ?_
      refine hK12 _ ?_
      refine eA ?_
      refine lf ?_
      exact nx H (wb [some 9001])
    refine Sm.exit ?_
    refine lf ?_
    refine lx H fun hyy=>?_
    subst hyy
    have H:=Ho8
    try dsimp only at H
    refine lf ?_
    exact ⟨(),H,wb []⟩
  rintro ⟨⟩ H
  try dsimp only at H
  unfold vtoc_Name_k1 at H
  refine Sm.st (vtoc_Name_s1.eq_1 ..) ?_
  refine rA ?_
  refine Sm.ret ?_
  refine lf ?_
  obtain rfl:=Option.some.inj H
  exact rt []
def vtoc_described (n:Nat) (d:TDcb):Option Bool :=
  (vtoc_in n d.Org 1 3).bind fun r1 =>
  gd ((r1=true→(vtoc_in n d.Format 1 3).isSome=true)∧((if r1=true then ((vtoc_in n d.Format 1 3).getD default) else false)=true→(vtoc_in n d.Lrecl 0 1024).isSome=true)∧((if (if r1=true then ((vtoc_in n d.Format 1 3).getD default) else false)=true then ((vtoc_in n d.Lrecl 0 1024).getD default) else false)=true→(vtoc_in n d.Blksize 0 1024).isSome=true)∧((if (if (if r1=true then ((vtoc_in n d.Format 1 3).getD default) else false)=true then ((vtoc_in n d.Lrecl 0 1024).getD default) else false)=true then ((vtoc_in n d.Blksize 0 1024).getD default) else false)=true→(vtoc_in n d.KeyPos 0 1024).isSome=true)∧((if (if (if (if r1=true then ((vtoc_in n d.Format 1 3).getD default) else false)=true then ((vtoc_in n d.Lrecl 0 1024).getD default) else false)=true then ((vtoc_in n d.Blksize 0 1024).getD default) else false)=true then ((vtoc_in n d.KeyPos 0 1024).getD default) else false)=true→(vtoc_in n d.KeyLen 0 64).isSome=true)) <|
  some (if (if (if (if (if r1=true then ((vtoc_in n d.Format 1 3).getD default) else false)=true then ((vtoc_in n d.Lrecl 0 1024).getD default) else false)=true then ((vtoc_in n d.Blksize 0 1024).getD default) else false)=true then ((vtoc_in n d.KeyPos 0 1024).getD default) else false)=true then ((vtoc_in n d.KeyLen 0 64).getD default) else false)
def xvtoc_described (n:Nat):Go.AE.Fn:=mkFn (A:=TDcb) (R:=Bool) 84 [(true,[.int .i64,.int .i64,.bool,.bool,.int .i64,.int .i64,.int .i64,.int .i64])] false (fun xs=>(⟨(cg (xs.getD 0 []) 0).toInt,(cg (xs.getD 0 []) 1).toInt,(cg (xs.getD 0 []) 2).toBool,(cg (xs.getD 0 []) 3).toBool,(cg (xs.getD 0 []) 4).toInt,(cg (xs.getD 0 []) 5).toInt,(cg (xs.getD 0 []) 6).toInt,(cg (xs.getD 0 []) 7).toInt⟩:TDcb)) (fun a=>[[.int a.Org,.int a.Format,.bool a.Blocked,.bool a.Asa,.int a.Lrecl,.int a.Blksize,.int a.KeyLen,.int a.KeyPos]]) (fun a=>vtoc_described n a) (fun r=>[.c .bool (.bool r)]) (fun r=>[])
theorem cvtoc_described (n:Nat):Contract Tryz.prog (xvtoc_described n):=by
  have hΓ:=g1 (cvtoc_in n) (@g0 (Contract Tryz.prog))
  refine contract_f (Tryz.f84.body.getD .skip) h00 Tryz.func84 rfl Tryz.call84 (by decide) (by intro _ r;exact ⟨rfl,by simp⟩) ?_
  rintro d r H
  try dsimp only at H
  unfold vtoc_described at H
  simp only [Tryz.f84,Option.getD]
  refine rA ?_
  obtain ⟨r1,hr1,H⟩:=bind_some H
  obtain ⟨⟨hg3,hg4,hg5,hg6,hg7⟩,H⟩:=gd_some H
  have q:=And.intro @xvtoc_in.eq_1 hr1
  refine rAq ?_
  refine Sm.ret ?_
  refine lf ?_
  obtain rfl:=Option.some.inj H
  exact rt []
def extent_valid (n:Nat) (x_:TExtent):Option Bool :=
  some (if (if (if (decide (x_.At ≥ 0))=true then (decide (x_.Len ≥ 1)) else false)=true then (decide (x_.At < 512)) else false)=true then (decide (x_.Len≤(IntKind.wrap .i64 (512 - x_.At)))) else false)
def xextent_valid (n:Nat):Go.AE.Fn:=mkFn (A:=TExtent) (R:=Bool) 125 [(true,[.int .i64,.int .i64])] false (fun xs=>(⟨(cg (xs.getD 0 []) 0).toInt,(cg (xs.getD 0 []) 1).toInt⟩:TExtent)) (fun a=>[[.int a.At,.int a.Len]]) (fun a=>extent_valid n a) (fun r=>[.c .bool (.bool r)]) (fun r=>[])
theorem cextent_valid (n:Nat):Contract Tryz.prog (xextent_valid n):=by
  have hΓ:=@g0 (Contract Tryz.prog)
  refine contract_f (Tryz.f125.body.getD .skip) h00 Tryz.func125 rfl Tryz.call125 (by decide) (by intro _ r;exact ⟨rfl,by simp⟩) ?_
  rintro x_ r H
  try dsimp only at H
  unfold extent_valid at H
  simp only [Tryz.f125,Option.getD]
  refine rA ?_
  refine rA ?_
  refine Sm.ret ?_
  refine lf ?_
  obtain rfl:=Option.some.inj H
  exact rt []
def slices_Clone_f118 (n:Nat) (s:List TExtent):Option (List TExtent) :=
  uniB s fun nb1 =>
  bif nb1 then
    some []
  else
    gd (s.length≤2147483648) <|
    some s
def xslices_Clone_f118 (n:Nat):Go.AE.Fn:=mkFn (A:=(List TExtent)) (R:=(List TExtent)) 118 [(false,[.slice 80])] false (fun xs=>((cg (xs.getD 0 []) 0).toSl.map d_TExtent)) (fun a=>[[.slice (List.map e_TExtent a)]]) (fun a=>slices_Clone_f118 n a) (fun r=>[.own 0 [.int .i64,.int .i64] 0 r.length]) (fun r=>[.row 80 (List.map e_TExtent r)])
theorem cslices_Clone_f118 (n:Nat):Contract Tryz.prog (xslices_Clone_f118 n):=by
  have hΓ:=@g0 (Contract Tryz.prog)
  refine contract_f (Tryz.f118.body.getD .skip) h00 Tryz.func118 rfl Tryz.call118 (by decide) (fun _ r=>⟨rfl,m1 ⟨80,_,_,rfl,ty80,rfl⟩ m0⟩) ?_
  rintro s r H
  try dsimp only at H
  unfold slices_Clone_f118 at H
  simp only [Tryz.f118,Option.getD]
  refine rA ?_
  refine Sm.seqK fun K2 hK2=>?_
  refine sX fun K3 hK3=>?_
  refine oX ?_
  refine opsN fun K hK=>?_;simp only [z,seval];(repeat (first | refine gcI ?_ | refine fun (_:_≤_)=>?_));intro nb1 hnb1;refine hK _ ?_;clear hK K
  replace H:=uniB_some H nb1 (fun hb=>by simpa using hnb1 hb)
  refine hK3 _ ?_
  refine cnd H (fun h4 H=>?_) (fun h4 H=>?_)
  · refine rA ?_
    refine Sm.ret ?_
    refine lf ?_
    obtain rfl:=Option.some.inj H
    exact rto [none]
  refine Sm.skip ?_
  refine hK2 _ ?_
  obtain ⟨hg7,H⟩:=gd_some H
  refine rA ?_
  refine Sm.ret ?_
  refine lf ?_
  obtain rfl:=Option.some.inj H
  exact rto [some 112]
def cmp_isNaN_f197 (n:Nat) (x_:Int):Option Bool :=
  some (x_ != x_)
def cmp_Compare_f166 (n:Nat) (x_:Int) (y:Int):Option Int :=
  (cmp_isNaN_f197 n x_).bind fun r1 =>
  (cmp_isNaN_f197 n y).bind fun r2 =>
  bif r1 then
    bif r2 then
      some 0
    else
      some (-1)
  else
    bif r2 then
      some 1
    else
      bif (decide (x_ < y)) then
        some (-1)
      else
        bif (decide (x_ > y)) then
          some 1
        else
          some 0
def extent_sorted_1 (n:Nat) (a:TExtent) (b:TExtent):Option Int :=
  (cmp_Compare_f166 n a.At b.At).bind fun r1 =>
  some r1
def slices_SortFunc_f164_c165 (n:Nat) (s:List TExtent):Option (List TExtent):=sortG (fun x y=>extent_sorted_1 n x y) s
theorem cslices_SortFunc_f164_c165 (n:Nat) (s:List TExtent) (r:List TExtent) (H:slices_SortFunc_f164_c165 n s=some r):CallsM Tryz.prog 164 [.ref (.own 0 [.int .i64,.int .i64] 0 s.length),.ref (.fnv 165 [])] [.row 80 (List.map e_TExtent s)] [] [.row 80 (List.map e_TExtent r)] :=
  callsM_sortG lay164 ty80 Tryz.isAgg80 Tryz.sizeOf80 (by decide) (by decide) (by intro args w;exact Tryz.call165 args w) e_TExtent (fun _=>rfl) (fun x y=>extent_sorted_1 n x y) (fun x y c h=>raw165 _ _ _ _ _ (by
    simp only [extent_sorted_1,cmp_Compare_f166,cmp_isNaN_f197,Option.bind_some,bne_self_eq_false,cond_false,gt_iff_lt] at h
    by_cases h1:x.At < y.At <;> by_cases h2:y.At < x.At <;> simp [h1,h2] at h ⊢ <;> first | exact h.symm | omega)) s r H
def extent_sorted (n:Nat) (l:List TExtent):Option (List TExtent) :=
  (slices_Clone_f118 n l).bind fun r1 =>
  (slices_SortFunc_f164_c165 n r1).bind fun r2 =>
  some (List.take r1.length r2)
def xextent_sorted (n:Nat):Go.AE.Fn:=mkFn (A:=(List TExtent)) (R:=(List TExtent)) 126 [(false,[.slice 80])] true (fun xs=>((cg (xs.getD 0 []) 0).toSl.map d_TExtent)) (fun a=>[[.slice (List.map e_TExtent a)]]) (fun a=>extent_sorted n a) (fun r=>[.c (.slice 80) (.slice (List.map e_TExtent r))]) (fun r=>[])
theorem cextent_sorted (n:Nat):Contract Tryz.prog (xextent_sorted n):=by
  have hΓ:=g1 (cslices_Clone_f118 n) (@g0 (Contract Tryz.prog))
  refine contract_f (Tryz.f126.body.getD .skip) h00 Tryz.func126 rfl Tryz.call126 (by decide) (by intro h;cases h) ?_
  rintro l r H
  try dsimp only at H
  unfold extent_sorted at H
  simp only [Tryz.f126,Option.getD]
  refine rA ?_
  obtain ⟨r1,hr1,H⟩:=bind_some H
  have q:=And.intro @xslices_Clone_f118.eq_1 hr1
  refine rAq ?_
  refine sX fun K3 hK3=>?_
  obtain ⟨r2,hr2,H⟩:=bind_some H
  have q:=hr2
  refine oX ?_
  refine oMq (cslices_SortFunc_f164_c165 n _ r2 hr2) [80] [] ?_
  refine hK3 _ ?_
  refine rA ?_
  refine Sm.ret ?_
  refine lf ?_
  obtain rfl:=Option.some.inj H
  exact rt []
abbrev extent_Valid_s2:S:=stB [] []
def extent_Valid_k2 (n:Nat):Option Bool :=
  some true
abbrev extent_Valid_t3 (s:List TExtent) (i:Int):S:=stB [(5,.c (.slice 80) (.slice (List.map e_TExtent s))),(6,.c (.int .i64) (.int i))] []
def extent_Valid_b3 (n:Nat) (s:List TExtent) (i:Int):Option ((Int) ⊕ (((Bool) ⊕ (Unit)))) :=
  bif (decide (i < (s.length:Int))) then
    gd ((0≤i∧i < (s.length:Int))∧(0≤(IntKind.wrap .i64 (i - 1))∧(IntKind.wrap .i64 (i - 1)) < (s.length:Int))∧(0≤(IntKind.wrap .i64 (i - 1))∧(IntKind.wrap .i64 (i - 1)) < (s.length:Int))) <|
    bif (decide (((gt s (Int.toNat i)).At) < (IntKind.wrap .i64 (((gt s (Int.toNat (IntKind.wrap .i64 (i - 1)))).At)+((gt s (Int.toNat (IntKind.wrap .i64 (i - 1)))).Len))))) then
      some (.inr (.inl false))
    else
      some (.inl (IntKind.wrap .i64 (i+1)))
  else
    some (.inr (.inr ()))
abbrev extent_Valid_s1 (l:List TExtent):S:=stB [(0,.c (.slice 80) (.slice (List.map e_TExtent l)))] []
def extent_Valid_k1 (n:Nat) (l:List TExtent):Option Bool :=
  (extent_sorted n l).bind fun r1 =>
  (loopF (fun (x:Int)=>extent_Valid_b3 n r1 x) n 1).bind fun y9 =>
  match y9 with
  | .inl vv =>
    some vv
  | .inr vv =>
    extent_Valid_k2 n
abbrev extent_Valid_t4 (l:List TExtent) (v11:Int) (v12:Int):S:=stB [(0,.c (.slice 80) (.slice (List.map e_TExtent l))),(10,.c (.slice 80) (.slice (List.map e_TExtent l))),(11,.c (.int .i64) (.int v11)),(12,.c (.int .i64) (.int v12))] []
def extent_Valid_b4 (n:Nat) (l:List TExtent) (v11:Int) (v12:Int):Option ((Int) ⊕ (((Bool) ⊕ (Unit)))) :=
  bif (decide (v12 < v11)) then
    gd ((0≤v12∧v12 < (l.length:Int))) <|
    (extent_valid n (gt l (Int.toNat v12))).bind fun r2 =>
    bif (!r2) then
      some (.inr (.inl false))
    else
      some (.inl (IntKind.wrap .i64 (v12+1)))
  else
    some (.inr (.inr ()))
def extent_Valid (n:Nat) (l:List TExtent):Option Bool :=
  bif (decide ((l.length:Int) > 512)) then
    some false
  else
    (loopF (fun (x:Int)=>extent_Valid_b4 n l (l.length:Int) x) n 0).bind fun y21 =>
    match y21 with
    | .inl vv =>
      some vv
    | .inr vv =>
      extent_Valid_k1 n l
def xextent_Valid (n:Nat):Go.AE.Fn:=mkFn (A:=(List TExtent)) (R:=Bool) 69 [(false,[.slice 80])] false (fun xs=>((cg (xs.getD 0 []) 0).toSl.map d_TExtent)) (fun a=>[[.slice (List.map e_TExtent a)]]) (fun a=>extent_Valid n a) (fun r=>[.c .bool (.bool r)]) (fun r=>[])
theorem cextent_Valid (n:Nat):Contract Tryz.prog (xextent_Valid n):=by
  have hΓ:=g1 (cextent_valid n) (g1 (cextent_sorted n) (@g0 (Contract Tryz.prog)))
  refine contract_f (Tryz.f69.body.getD .skip) h00 Tryz.func69 rfl Tryz.call69 (by decide) (by intro _ r;exact ⟨rfl,by simp⟩) ?_
  rintro l r H
  try dsimp only at H
  unfold extent_Valid at H
  simp only [Tryz.f69,Option.getD]
  refine rA ?_
  refine Sm.seqK fun K2 hK2=>?_
  refine rA ?_
  refine cnd H (fun h4 H=>?_) (fun h4 H=>?_)
  · refine rA ?_
    refine Sm.ret ?_
    refine lf ?_
    obtain rfl:=Option.some.inj H
    exact rt []
  refine Sm.skip ?_
  refine hK2 _ ?_
  refine Sm.cut (fun (x:Unit)=>extent_Valid_s1 l) (fun x=>extent_Valid_k1 n l=some r) ?_ ?_
  · refine rA ?_
    refine Sm.block ?_
    obtain ⟨y21,hy21,Ho21⟩:=bind_some H
    refine Sm.loopB _ (fun x=>extent_Valid_t4 l (l.length:Int) x) hy21 (wb []) ?_
    rintro v12 z21 H
    try dsimp only at H
    unfold extent_Valid_b4 at H
    refine Sm.st (extent_Valid_t4.eq_1 ..) ?_
    refine rA ?_
    refine Sm.seqK fun K23 hK23=>?_
    refine cnd H (fun h24 H=>?_) (fun h24 H=>?_)
    · refine Sm.skip ?_
      refine hK23 _ ?_
      refine Sm.seqK fun K25 hK25=>?_
      refine Sm.block ?_
      obtain ⟨hg30,H⟩:=gd_some H
      refine rA ?_
      obtain ⟨r2,hr2,H⟩:=bind_some H
      have q:=And.intro @xextent_valid.eq_1 hr2
      refine rAq ?_
      refine cnd H (fun h28 H=>?_) (fun h28 H=>?_)
      · refine rA ?_
        refine Sm.ret ?_
        refine lf ?_
        refine lx H fun hyy=>?_
        subst hyy
        have H:=Ho21
        try dsimp only at H
        refine lf ?_
        obtain rfl:=Option.some.inj H
        exact rt []
      refine Sm.skip ?_
      refine hK25 _ ?_
      refine eA ?_
      refine lf ?_
      exact nx H (wb [])
    refine Sm.exit ?_
    refine lf ?_
    refine lx H fun hyy=>?_
    subst hyy
    have H:=Ho21
    try dsimp only at H
    refine lf ?_
    exact ⟨(),H,wb []⟩
  rintro ⟨⟩ H
  try dsimp only at H
  unfold extent_Valid_k1 at H
  refine Sm.st (extent_Valid_s1.eq_1 ..) ?_
  obtain ⟨r1,hr1,H⟩:=bind_some H
  have q:=And.intro @xextent_valid.eq_1 (And.intro @xextent_sorted.eq_1 hr1)
  refine rAq ?_
  refine Sm.cut (fun (x:Unit)=>extent_Valid_s2) (fun x=>extent_Valid_k2 n=some r) ?_ ?_
  · refine rA ?_
    refine Sm.block ?_
    obtain ⟨y9,hy9,Ho9⟩:=bind_some H
    refine Sm.loopB _ (fun x=>extent_Valid_t3 r1 x) hy9 (wb []) ?_
    rintro i z9 H
    try dsimp only at H
    unfold extent_Valid_b3 at H
    refine Sm.st (extent_Valid_t3.eq_1 ..) ?_
    refine Sm.seqK fun K10 hK10=>?_
    refine rA ?_
    refine cnd H (fun h12 H=>?_) (fun h12 H=>?_)
    · refine Sm.skip ?_
      refine hK10 _ ?_
      refine Sm.seqK fun K13 hK13=>?_
      refine Sm.block ?_
      obtain ⟨⟨hg17,hg18,hg19⟩,H⟩:=gd_some H
      refine rD ?_
      refine cnd H (fun h15 H=>?_) (fun h15 H=>?_)
      · refine rA ?_
        refine Sm.ret ?_
        refine lf ?_
        refine lx H fun hyy=>?_
        subst hyy
        have H:=Ho9
        try dsimp only at H
        refine lf ?_
        obtain rfl:=Option.some.inj H
        exact rt []
      refine Sm.skip ?_
      refine hK13 _ ?_
      refine eA ?_
      refine lf ?_
      exact nx H (wb [])
    refine Sm.exit ?_
    refine lf ?_
    refine lx H fun hyy=>?_
    subst hyy
    have H:=Ho9
    try dsimp only at H
    refine lf ?_
    exact ⟨(),H,wb []⟩
  rintro ⟨⟩ H
  try dsimp only at H
  unfold extent_Valid_k2 at H
  refine Sm.st (extent_Valid_s2.eq_1 ..) ?_
  refine rA ?_
  refine Sm.ret ?_
  refine lf ?_
  obtain rfl:=Option.some.inj H
  exact rt []
abbrev extent_Total_s1 (n_:Int):S:=stB [(3,.c (.int .i64) (.int n_))] []
def extent_Total_k1 (n:Nat) (n_:Int):Option Int :=
  some n_
abbrev extent_Total_t2 (l:List TExtent) (v10:Int) (n__1:Int) (v11:Int):S:=stB [(3,.c (.int .i64) (.int n__1)),(9,.c (.slice 80) (.slice (List.map e_TExtent l))),(10,.c (.int .i64) (.int v10)),(11,.c (.int .i64) (.int v11))] []
def extent_Total_b2 (n:Nat) (l:List TExtent) (v10:Int) (n__1:Int) (v11:Int):Option ((Int×Int) ⊕ ((Int))) :=
  bif (decide (v11 < v10)) then
    gd ((0≤v11∧v11 < (l.length:Int))) <|
    some (.inl ((IntKind.wrap .i64 (n__1+((gt l (Int.toNat v11)).Len))),(IntKind.wrap .i64 (v11+1))))
  else
    some (.inr n__1)
def extent_Total (n:Nat) (l:List TExtent):Option Int :=
  (extent_Valid n l).bind fun r1 =>
  bif (!r1) then
    some 0
  else
    (loopF (fun (x:Int×Int)=>extent_Total_b2 n l (l.length:Int) x.1 x.2) n (0,0)).bind fun y9 =>
    extent_Total_k1 n y9
def xextent_Total (n:Nat):Go.AE.Fn:=mkFn (A:=(List TExtent)) (R:=Int) 99 [(false,[.slice 80])] false (fun xs=>((cg (xs.getD 0 []) 0).toSl.map d_TExtent)) (fun a=>[[.slice (List.map e_TExtent a)]]) (fun a=>extent_Total n a) (fun r=>[.c (.int .i64) (.int r)]) (fun r=>[])
theorem cextent_Total (n:Nat):Contract Tryz.prog (xextent_Total n):=by
  have hΓ:=g1 (cextent_Valid n) (@g0 (Contract Tryz.prog))
  refine contract_f (Tryz.f99.body.getD .skip) h00 Tryz.func99 rfl Tryz.call99 (by decide) (by intro _ r;exact ⟨rfl,by simp⟩) ?_
  rintro l r H
  try dsimp only at H
  unfold extent_Total at H
  simp only [Tryz.f99,Option.getD]
  refine rA ?_
  refine Sm.seqK fun K2 hK2=>?_
  obtain ⟨r1,hr1,H⟩:=bind_some H
  have q:=And.intro @xextent_Valid.eq_1 hr1
  refine rAq ?_
  refine cnd H (fun h4 H=>?_) (fun h4 H=>?_)
  · refine rA ?_
    refine Sm.ret ?_
    refine lf ?_
    obtain rfl:=Option.some.inj H
    exact rt []
  refine Sm.skip ?_
  refine hK2 _ ?_
  refine rA ?_
  refine Sm.cut (fun (x:Int)=>extent_Total_s1 x) (fun x=>extent_Total_k1 n x=some r) ?_ ?_
  · refine rA ?_
    refine Sm.block ?_
    obtain ⟨y9,hy9,Ho9⟩:=bind_some H
    refine Sm.loopB _ (fun x=>extent_Total_t2 l (l.length:Int) x.1 x.2) hy9 (wb []) ?_
    rintro ⟨n__1,v11⟩ z9 H
    try dsimp only at H
    unfold extent_Total_b2 at H
    refine Sm.st (extent_Total_t2.eq_1 ..) ?_
    refine rA ?_
    refine Sm.seqK fun K11 hK11=>?_
    refine cnd H (fun h12 H=>?_) (fun h12 H=>?_)
    · refine Sm.skip ?_
      refine hK11 _ ?_
      refine Sm.seqK fun K13 hK13=>?_
      refine Sm.block ?_
      obtain ⟨hg15,H⟩:=gd_some H
      refine rA ?_
      refine eA ?_
      refine hK13 _ ?_
      refine eA ?_
      refine lf ?_
      exact nx H (wb [])
    refine Sm.exit ?_
    refine lf ?_
    refine lx H fun hyy=>?_
    subst hyy
    have H:=Ho9
    try dsimp only at H
    refine lf ?_
    exact ⟨_,H,wb []⟩
  rintro n_ H
  try dsimp only at H
  unfold extent_Total_k1 at H
  refine Sm.st (extent_Total_s1.eq_1 ..) ?_
  refine rA ?_
  refine Sm.ret ?_
  refine lf ?_
  obtain rfl:=Option.some.inj H
  exact rt []
abbrev vtoc_Vtoc__fits_s1 (d:TDscb):S:=stB [(3,.box 9000 0)] [(9000,.box [.c .str (.str d.Name),.c (.int .i64) (.int d.Dcb.Org),.c (.int .i64) (.int d.Dcb.Format),.c .bool (.bool d.Dcb.Blocked),.c .bool (.bool d.Dcb.Asa),.c (.int .i64) (.int d.Dcb.Lrecl),.c (.int .i64) (.int d.Dcb.Blksize),.c (.int .i64) (.int d.Dcb.KeyLen),.c (.int .i64) (.int d.Dcb.KeyPos),.c (.slice 80) (.slice (List.map e_TExtent d.Extents)),.c (.int .i64) (.int d.Used)])]
def vtoc_Vtoc__fits_k1 (n:Nat) (d:TDscb):Option Bool :=
  (extent_Total n d.Extents).bind fun r2 =>
  (vtoc_in n d.Used 0 r2).bind fun r3 =>
  some r3
abbrev vtoc_Vtoc__fits_t2 (v:TVtoc) (d:TDscb) (v32:Int) (v33:Int):S:=stB [(2,.box 9003 0),(3,.box 9004 0),(31,.c (.slice 80) (.slice (List.map e_TExtent d.Extents))),(32,.c (.int .i64) (.int v32)),(33,.c (.int .i64) (.int v33))] [(9003,.box [.c .str (.str v.Serial),.c (.int .i64) (.int v.Cyls),.c (.int .i64) (.int v.Heads),.c (.int .i64) (.int v.Size),.c (.slice 41) (.slice (List.map e_TDscb v.Sets))]),(9004,.box [.c .str (.str d.Name),.c (.int .i64) (.int d.Dcb.Org),.c (.int .i64) (.int d.Dcb.Format),.c .bool (.bool d.Dcb.Blocked),.c .bool (.bool d.Dcb.Asa),.c (.int .i64) (.int d.Dcb.Lrecl),.c (.int .i64) (.int d.Dcb.Blksize),.c (.int .i64) (.int d.Dcb.KeyLen),.c (.int .i64) (.int d.Dcb.KeyPos),.c (.slice 80) (.slice (List.map e_TExtent d.Extents)),.c (.int .i64) (.int d.Used)])]
def vtoc_Vtoc__fits_b2 (n:Nat) (v:TVtoc) (d:TDscb) (v32:Int) (v33:Int):Option ((Int) ⊕ (((Bool) ⊕ (Unit)))) :=
  bif (decide (v33 < v32)) then
    gd ((0≤v33∧v33 < (d.Extents.length:Int))) <|
    bif (decide ((IntKind.wrap .i64 (((gt d.Extents (Int.toNat v33)).At)+((gt d.Extents (Int.toNat v33)).Len))) > (IntKind.wrap .i64 (v.Cyls * v.Heads)))) then
      some (.inr (.inl false))
    else
      some (.inl (IntKind.wrap .i64 (v33+1)))
  else
    some (.inr (.inr ()))
def vtoc_Vtoc__fits (n:Nat) (v:TVtoc) (d:TDscb):Option Bool :=
  (vtoc_Name n d.Name).bind fun r1 =>
  gd (((!(!r1))=true→(vtoc_described n d.Dcb).isSome=true)∧((!(if (!r1)=true then true else (!((vtoc_described n d.Dcb).getD default))))=true→(vtoc_in n (d.Extents.length:Int) 1 8).isSome=true)∧((!(if (if (!r1)=true then true else (!((vtoc_described n d.Dcb).getD default)))=true then true else (!((vtoc_in n (d.Extents.length:Int) 1 8).getD default))))=true→(extent_Valid n d.Extents).isSome=true)) <|
  bif (if (if (if (!r1)=true then true else (!((vtoc_described n d.Dcb).getD default)))=true then true else (!((vtoc_in n (d.Extents.length:Int) 1 8).getD default)))=true then true else (!((extent_Valid n d.Extents).getD default))) then
    some false
  else
    (loopF (fun (x:Int)=>vtoc_Vtoc__fits_b2 n v d (d.Extents.length:Int) x) n 0).bind fun y8 =>
    match y8 with
    | .inl vv =>
      some vv
    | .inr vv =>
      vtoc_Vtoc__fits_k1 n d
def xvtoc_Vtoc__fits (n:Nat):Go.AE.Fn:=mkFn (A:=TVtoc×TDscb) (R:=Bool) 68 [(true,[.str,.int .i64,.int .i64,.int .i64,.slice 41]),(true,[.str,.int .i64,.int .i64,.bool,.bool,.int .i64,.int .i64,.int .i64,.int .i64,.slice 80,.int .i64])] false (fun xs=>((⟨(cg (xs.getD 0 []) 0).toStr,(cg (xs.getD 0 []) 1).toInt,(cg (xs.getD 0 []) 2).toInt,(cg (xs.getD 0 []) 3).toInt,((cg (xs.getD 0 []) 4).toSl.map d_TDscb)⟩:TVtoc),(⟨(cg (xs.getD 1 []) 0).toStr,(⟨(cg (xs.getD 1 []) 1).toInt,(cg (xs.getD 1 []) 2).toInt,(cg (xs.getD 1 []) 3).toBool,(cg (xs.getD 1 []) 4).toBool,(cg (xs.getD 1 []) 5).toInt,(cg (xs.getD 1 []) 6).toInt,(cg (xs.getD 1 []) 7).toInt,(cg (xs.getD 1 []) 8).toInt⟩:TDcb),((cg (xs.getD 1 []) 9).toSl.map d_TExtent),(cg (xs.getD 1 []) 10).toInt⟩:TDscb))) (fun a=>[[.str a.1.Serial,.int a.1.Cyls,.int a.1.Heads,.int a.1.Size,.slice (List.map e_TDscb a.1.Sets)],[.str a.2.Name,.int a.2.Dcb.Org,.int a.2.Dcb.Format,.bool a.2.Dcb.Blocked,.bool a.2.Dcb.Asa,.int a.2.Dcb.Lrecl,.int a.2.Dcb.Blksize,.int a.2.Dcb.KeyLen,.int a.2.Dcb.KeyPos,.slice (List.map e_TExtent a.2.Extents),.int a.2.Used]]) (fun a=>vtoc_Vtoc__fits n a.1 a.2) (fun r=>[.c .bool (.bool r)]) (fun r=>[])
theorem cvtoc_Vtoc__fits (n:Nat):Contract Tryz.prog (xvtoc_Vtoc__fits n):=by
  have hΓ:=g1 (cvtoc_Name n) (g1 (cvtoc_described n) (g1 (cvtoc_in n) (g1 (cextent_Valid n) (g1 (cextent_Total n) (@g0 (Contract Tryz.prog))))))
  refine contract_f (Tryz.f68.body.getD .skip) h00 Tryz.func68 rfl Tryz.call68 (by decide) (by intro _ r;exact ⟨rfl,by simp⟩) ?_
  rintro ⟨v,d⟩ r H
  try dsimp only at H
  unfold vtoc_Vtoc__fits at H
  simp only [Tryz.f68,Option.getD]
  refine rA ?_
  refine Sm.seqK fun K2 hK2=>?_
  obtain ⟨r1,hr1,H⟩:=bind_some H
  obtain ⟨⟨hg18,hg19,hg20⟩,H⟩:=gd_some H
  have q:=And.intro @xvtoc_Name.eq_1 (And.intro @xvtoc_described.eq_1 (And.intro @xvtoc_in.eq_1 (And.intro @xextent_Valid.eq_1 hr1)))
  refine rAq ?_
  refine cnd H (fun h4 H=>?_) (fun h4 H=>?_)
  · refine rA ?_
    refine Sm.ret ?_
    refine lf ?_
    obtain rfl:=Option.some.inj H
    exact rt []
  refine Sm.skip ?_
  refine hK2 _ ?_
  refine Sm.cut (fun (x:Unit)=>vtoc_Vtoc__fits_s1 d) (fun x=>vtoc_Vtoc__fits_k1 n d=some r) ?_ ?_
  · refine rA ?_
    refine Sm.block ?_
    obtain ⟨y8,hy8,Ho8⟩:=bind_some H
    refine Sm.loopB _ (fun x=>vtoc_Vtoc__fits_t2 v d (d.Extents.length:Int) x) hy8 (wb [some 32,some 48]) ?_
    rintro v33 z8 H
    try dsimp only at H
    unfold vtoc_Vtoc__fits_b2 at H
    refine Sm.st (vtoc_Vtoc__fits_t2.eq_1 ..) ?_
    refine rA ?_
    refine Sm.seqK fun K10 hK10=>?_
    refine cnd H (fun h11 H=>?_) (fun h11 H=>?_)
    · refine Sm.skip ?_
      refine hK10 _ ?_
      refine Sm.seqK fun K12 hK12=>?_
      refine Sm.block ?_
      obtain ⟨hg17,H⟩:=gd_some H
      refine rA ?_
      refine rA ?_
      refine cnd H (fun h15 H=>?_) (fun h15 H=>?_)
      · refine rA ?_
        refine Sm.ret ?_
        refine lf ?_
        refine lx H fun hyy=>?_
        subst hyy
        have H:=Ho8
        try dsimp only at H
        refine lf ?_
        obtain rfl:=Option.some.inj H
        exact rt []
      refine Sm.skip ?_
      refine hK12 _ ?_
      refine eA ?_
      refine lf ?_
      exact nx H (wb [some 9003,some 9004])
    refine Sm.exit ?_
    refine lf ?_
    refine lx H fun hyy=>?_
    subst hyy
    have H:=Ho8
    try dsimp only at H
    refine lf ?_
    exact ⟨(),H,wb [some 9004]⟩
  rintro ⟨⟩ H
  try dsimp only at H
  unfold vtoc_Vtoc__fits_k1 at H
  refine Sm.st (vtoc_Vtoc__fits_s1.eq_1 ..) ?_
  obtain ⟨r2,hr2,H⟩:=bind_some H
  obtain ⟨r3,hr3,H⟩:=bind_some H
  have q:=And.intro @xvtoc_Name.eq_1 (And.intro @xvtoc_described.eq_1 (And.intro @xvtoc_in.eq_1 (And.intro @xextent_Valid.eq_1 (And.intro @xextent_Total.eq_1 (And.intro hr2 hr3)))))
  refine rDq ?_
  refine Sm.ret ?_
  refine lf ?_
  obtain rfl:=Option.some.inj H
  exact rt []
abbrev vtoc_Check_s1 (used:List TExtent):S:=stB [(3,.own 9000 [.int .i64,.int .i64] 0 used.length)] [(9000,.row 80 (List.map e_TExtent used))]
def vtoc_Check_k1 (n:Nat) (used:List TExtent):Option Int :=
  (extent_Valid n used).bind fun r3 =>
  bif (!r3) then
    some 5
  else
    some 0
abbrev vtoc_Check_t2 (v:TVtoc) (v54:Int) (used_1:List TExtent) (v55:Int):S:=stB [(1,.box 9003 0),(3,.own 9004 [.int .i64,.int .i64] 0 used_1.length),(53,.c (.slice 41) (.slice (List.map e_TDscb v.Sets))),(54,.c (.int .i64) (.int v54)),(55,.c (.int .i64) (.int v55))] [(9003,.box [.c .str (.str v.Serial),.c (.int .i64) (.int v.Cyls),.c (.int .i64) (.int v.Heads),.c (.int .i64) (.int v.Size),.c (.slice 41) (.slice (List.map e_TDscb v.Sets))]),(9004,.row 80 (List.map e_TExtent used_1))]
def vtoc_Check_b2 (n:Nat) (v:TVtoc) (v54:Int) (used_1:List TExtent) (v55:Int):Option (((List TExtent)×Int) ⊕ (((Int) ⊕ ((List TExtent))))) :=
  bif (decide (v55 < v54)) then
    gd ((0≤v55∧v55 < (v.Sets.length:Int))) <|
    (vtoc_Vtoc__fits n v (gt v.Sets (Int.toNat v55))).bind fun r4 =>
    gd ((((!(!r4)) && (decide (v55 > 0)))=true→(0≤(IntKind.wrap .i64 (v55 - 1))∧(IntKind.wrap .i64 (v55 - 1)) < (v.Sets.length:Int)))) <|
    bif (if (!r4)=true then true else (if (decide (v55 > 0))=true then (!Op.bytesLess ((gt v.Sets (Int.toNat (IntKind.wrap .i64 (v55 - 1)))).Name) ((gt v.Sets (Int.toNat v55)).Name)) else false)) then
      some (.inr (.inl 5))
    else
      gd ((used_1.length+((gt v.Sets (Int.toNat v55)).Extents).length)≤2147483648) <|
      some (.inl ((used_1 ++ (gt v.Sets (Int.toNat v55)).Extents),(IntKind.wrap .i64 (v55+1))))
  else
    some (.inr (.inr used_1))
def vtoc_Check (n:Nat) (v:TVtoc):Option Int :=
  (vtoc_in n (v.Serial.length:Int) 1 6).bind fun r1 =>
  gd (((!(!r1))=true→(strings_Trim n v.Serial [65,66,67,68,69,70,71,72,73,74,75,76,77,78,79,80,81,82,83,84,85,86,87,88,89,90,48,49,50,51,52,53,54,55,56,57]).isSome=true)) <|
  bif (if (!r1)=true then true else (((strings_Trim n v.Serial [65,66,67,68,69,70,71,72,73,74,75,76,77,78,79,80,81,82,83,84,85,86,87,88,89,90,48,49,50,51,52,53,54,55,56,57]).getD default) != [])) then
    some 5
  else
    (vtoc_in n v.Cyls 1 64).bind fun r2 =>
    gd (((!(!r2))=true→(vtoc_in n v.Heads 1 8).isSome=true)∧((!(if (!r2)=true then true else (!((vtoc_in n v.Heads 1 8).getD default))))=true→(vtoc_in n v.Size 1 (IntKind.wrap .i64 ((IntKind.wrap .i64 (v.Cyls * v.Heads)) - 1))).isSome=true)) <|
    bif (if (if (!r2)=true then true else (!((vtoc_in n v.Heads 1 8).getD default)))=true then true else (!((vtoc_in n v.Size 1 (IntKind.wrap .i64 ((IntKind.wrap .i64 (v.Cyls * v.Heads)) - 1))).getD default))) then
      some 5
    else
      bif (decide ((v.Sets.length:Int) > (if (IntKind.wrap .i64 (14 * v.Size)) < 64 then (IntKind.wrap .i64 (14 * v.Size)) else 64))) then
        some 5
      else
        (loopF (fun (x:(List TExtent)×Int)=>vtoc_Check_b2 n v (v.Sets.length:Int) x.1 x.2) n ([(⟨0,(IntKind.wrap .i64 (v.Size+1))⟩:TExtent)],0)).bind fun y21 =>
        match y21 with
        | .inl vv =>
          some vv
        | .inr vv =>
          vtoc_Check_k1 n vv
def xvtoc_Check (n:Nat):Go.AE.Fn:=mkFn (A:=TVtoc) (R:=Int) 30 [(true,[.str,.int .i64,.int .i64,.int .i64,.slice 41])] false (fun xs=>(⟨(cg (xs.getD 0 []) 0).toStr,(cg (xs.getD 0 []) 1).toInt,(cg (xs.getD 0 []) 2).toInt,(cg (xs.getD 0 []) 3).toInt,((cg (xs.getD 0 []) 4).toSl.map d_TDscb)⟩:TVtoc)) (fun a=>[[.str a.Serial,.int a.Cyls,.int a.Heads,.int a.Size,.slice (List.map e_TDscb a.Sets)]]) (fun a=>vtoc_Check n a) (fun r=>[.c (.int .i64) (.int r)]) (fun r=>[])
theorem cvtoc_Check (n:Nat):Contract Tryz.prog (xvtoc_Check n):=by
  have hΓ:=g1 (cvtoc_in n) (g1 (cstrings_Trim n) (g1 (cvtoc_Vtoc__fits n) (g1 (cextent_Valid n) (@g0 (Contract Tryz.prog)))))
  refine contract_f (Tryz.f30.body.getD .skip) h00 Tryz.func30 rfl Tryz.call30 (by decide) (by intro _ r;exact ⟨rfl,by simp⟩) ?_
  rintro v r H
  try dsimp only at H
  unfold vtoc_Check at H
  simp only [Tryz.f30,Option.getD]
  refine rA ?_
  refine Sm.seqK fun K2 hK2=>?_
  obtain ⟨r1,hr1,H⟩:=bind_some H
  obtain ⟨hg36,H⟩:=gd_some H
  have q:=And.intro @xvtoc_in.eq_1 (And.intro @xstrings_Trim.eq_1 hr1)
  refine rAq ?_
  refine cnd H (fun h4 H=>?_) (fun h4 H=>?_)
  · refine rA ?_
    refine Sm.ret ?_
    refine lf ?_
    obtain rfl:=Option.some.inj H
    exact rt []
  refine Sm.skip ?_
  refine hK2 _ ?_
  refine Sm.seqK fun K6 hK6=>?_
  obtain ⟨r2,hr2,H⟩:=bind_some H
  obtain ⟨⟨hg34,hg35⟩,H⟩:=gd_some H
  have q:=And.intro @xvtoc_in.eq_1 hr2
  refine rAq ?_
  refine cnd H (fun h8 H=>?_) (fun h8 H=>?_)
  · refine rA ?_
    refine Sm.ret ?_
    refine lf ?_
    obtain rfl:=Option.some.inj H
    exact rt []
  refine Sm.skip ?_
  refine hK6 _ ?_
  refine Sm.seqK fun K10 hK10=>?_
  refine rA ?_
  refine cnd H (fun h12 H=>?_) (fun h12 H=>?_)
  · refine rA ?_
    refine Sm.ret ?_
    refine lf ?_
    obtain rfl:=Option.some.inj H
    exact rt []
  refine Sm.skip ?_
  refine hK10 _ ?_
  refine rA ?_
  refine Sm.cut (fun (x:(List TExtent))=>vtoc_Check_s1 x) (fun x=>vtoc_Check_k1 n x=some r) ?_ ?_
  · refine rA ?_
    refine Sm.block ?_
    obtain ⟨y21,hy21,Ho21⟩:=bind_some H
    refine Sm.loopB _ (fun x=>vtoc_Check_t2 v (v.Sets.length:Int) x.1 x.2) hy21 (wb [some 16,some 816]) ?_
    rintro ⟨used_1,v55⟩ z21 H
    try dsimp only at H
    unfold vtoc_Check_b2 at H
    refine Sm.st (vtoc_Check_t2.eq_1 ..) ?_
    refine rA ?_
    refine Sm.seqK fun K23 hK23=>?_
    refine cnd H (fun h24 H=>?_) (fun h24 H=>?_)
    · refine Sm.skip ?_
      refine hK23 _ ?_
      refine Sm.seqK fun K25 hK25=>?_
      refine Sm.block ?_
      obtain ⟨hg33,H⟩:=gd_some H
      refine rA ?_
      refine Sm.seqK fun K27 hK27=>?_
      obtain ⟨r4,hr4,H⟩:=bind_some H
      obtain ⟨hg32,H⟩:=gd_some H
      have q:=And.intro @xvtoc_in.eq_1 (And.intro @xstrings_Trim.eq_1 (And.intro @xvtoc_Vtoc__fits.eq_1 hr4))
      refine rDq ?_
      refine cnd H (fun h29 H=>?_) (fun h29 H=>?_)
      · refine rA ?_
        refine Sm.ret ?_
        refine lf ?_
        refine lx H fun hyy=>?_
        subst hyy
        have H:=Ho21
        try dsimp only at H
        refine lf ?_
        obtain rfl:=Option.some.inj H
        exact rt []
      refine Sm.skip ?_
      refine hK27 _ ?_
      obtain ⟨hg31,H⟩:=gd_some H
      refine eA ?_
      refine hK25 _ ?_
      refine eA ?_
      refine lf ?_
      exact nx H (wb [some 9003,some 1328])
    refine Sm.exit ?_
    refine lf ?_
    refine lx H fun hyy=>?_
    subst hyy
    have H:=Ho21
    try dsimp only at H
    refine lf ?_
    exact ⟨_,H,wb [some 9004]⟩
  rintro used H
  try dsimp only at H
  unfold vtoc_Check_k1 at H
  refine Sm.st (vtoc_Check_s1.eq_1 ..) ?_
  refine Sm.seqK fun K15 hK15=>?_
  obtain ⟨r3,hr3,H⟩:=bind_some H
  have q:=And.intro @xvtoc_in.eq_1 (And.intro @xstrings_Trim.eq_1 (And.intro @xvtoc_Vtoc__fits.eq_1 (And.intro @xextent_Valid.eq_1 hr3)))
  refine rAq ?_
  refine cnd H (fun h17 H=>?_) (fun h17 H=>?_)
  · refine rA ?_
    refine Sm.ret ?_
    refine lf ?_
    obtain rfl:=Option.some.inj H
    exact rt []
  refine Sm.skip ?_
  refine hK15 _ ?_
  refine rA ?_
  refine Sm.ret ?_
  refine lf ?_
  obtain rfl:=Option.some.inj H
  exact rt []
def vtoc_New (n:Nat) (serial:List UInt8) (cyls:Int) (heads:Int) (size:Int):Option (TVtoc×Int) :=
  (vtoc_Check n (⟨serial,cyls,heads,size,[]⟩:TVtoc)).bind fun r1 =>
  bif (r1 != 0) then
    some ((⟨[],0,0,0,[]⟩:TVtoc),1)
  else
    some ((⟨serial,cyls,heads,size,[]⟩:TVtoc),0)
def xvtoc_New (n:Nat):Go.AE.Fn:=mkFn (A:=(List UInt8)×Int×Int×Int) (R:=TVtoc×Int) 15 [(false,[.str]),(false,[.int .i64]),(false,[.int .i64]),(false,[.int .i64])] false (fun xs=>((cg (xs.getD 0 []) 0).toStr,(cg (xs.getD 1 []) 0).toInt,(cg (xs.getD 2 []) 0).toInt,(cg (xs.getD 3 []) 0).toInt)) (fun a=>[[.str a.1],[.int a.2.1],[.int a.2.2.1],[.int a.2.2.2]]) (fun a=>vtoc_New n a.1 a.2.1 a.2.2.1 a.2.2.2) (fun r=>[.agg [.c .str (.str r.1.Serial),.c (.int .i64) (.int r.1.Cyls),.c (.int .i64) (.int r.1.Heads),.c (.int .i64) (.int r.1.Size),.nilsl],.c (.int .i64) (.int r.2)]) (fun r=>[])
theorem cvtoc_New (n:Nat):Contract Tryz.prog (xvtoc_New n):=by
  have hΓ:=g1 (cvtoc_Check n) (@g0 (Contract Tryz.prog))
  refine contract_f (Tryz.f15.body.getD .skip) h00 Tryz.func15 rfl Tryz.call15 (by decide) (by intro _ r;exact ⟨rfl,by simp⟩) ?_
  rintro ⟨serial,cyls,heads,size⟩ r H
  try dsimp only at H
  unfold vtoc_New at H
  simp only [Tryz.f15,Option.getD]
  refine rA ?_
  refine rA ?_
  refine Sm.seqK fun K3 hK3=>?_
  obtain ⟨r1,hr1,H⟩:=bind_some H
  have q:=And.intro @xvtoc_Check.eq_1 hr1
  refine rAq ?_
  refine cnd H (fun h5 H=>?_) (fun h5 H=>?_)
  · refine rA ?_
    refine Sm.ret ?_
    refine lf ?_
    obtain rfl:=Option.some.inj H
    exact rt []
  refine Sm.skip ?_
  refine hK3 _ ?_
  refine rA ?_
  refine Sm.ret ?_
  refine lf ?_
  obtain rfl:=Option.some.inj H
  exact rt []
def law21_plain (n:Nat):Option TDcb :=
  some (⟨1,1,false,false,80,80,0,0⟩:TDcb)
def xlaw21_plain (n:Nat):Go.AE.Fn:=mkFn (A:=Unit) (R:=TDcb) 42 [] false (fun xs=>()) (fun a=>[]) (fun a=>law21_plain n) (fun r=>[.agg [.c (.int .i64) (.int r.Org),.c (.int .i64) (.int r.Format),.c .bool (.bool r.Blocked),.c .bool (.bool r.Asa),.c (.int .i64) (.int r.Lrecl),.c (.int .i64) (.int r.Blksize),.c (.int .i64) (.int r.KeyLen),.c (.int .i64) (.int r.KeyPos)]]) (fun r=>[])
theorem claw21_plain (n:Nat):Contract Tryz.prog (xlaw21_plain n):=by
  have hΓ:=@g0 (Contract Tryz.prog)
  refine contract_f (Tryz.f42.body.getD .skip) h00 Tryz.func42 rfl Tryz.call42 (by decide) (by intro _ r;exact ⟨rfl,by simp⟩) ?_
  rintro ⟨⟩ r H
  try dsimp only at H
  unfold law21_plain at H
  simp only [Tryz.f42,Option.getD]
  refine rA ?_
  refine rA ?_
  refine Sm.ret ?_
  refine lf ?_
  obtain rfl:=Option.some.inj H
  exact rt []
def vtoc_Vtoc__index_1 (n:Nat) (d:TDscb) (s:List UInt8):Option Int :=
  (strings_Compare n d.Name s).bind fun r1 =>
  some r1
def xvtoc_Vtoc__index_1 (n:Nat):Go.AE.Fn:=mkFn (A:=TDscb×(List UInt8)) (R:=Int) 117 [(true,[.str,.int .i64,.int .i64,.bool,.bool,.int .i64,.int .i64,.int .i64,.int .i64,.slice 80,.int .i64]),(false,[.str])] false (fun xs=>((⟨(cg (xs.getD 0 []) 0).toStr,(⟨(cg (xs.getD 0 []) 1).toInt,(cg (xs.getD 0 []) 2).toInt,(cg (xs.getD 0 []) 3).toBool,(cg (xs.getD 0 []) 4).toBool,(cg (xs.getD 0 []) 5).toInt,(cg (xs.getD 0 []) 6).toInt,(cg (xs.getD 0 []) 7).toInt,(cg (xs.getD 0 []) 8).toInt⟩:TDcb),((cg (xs.getD 0 []) 9).toSl.map d_TExtent),(cg (xs.getD 0 []) 10).toInt⟩:TDscb),(cg (xs.getD 1 []) 0).toStr)) (fun a=>[[.str a.1.Name,.int a.1.Dcb.Org,.int a.1.Dcb.Format,.bool a.1.Dcb.Blocked,.bool a.1.Dcb.Asa,.int a.1.Dcb.Lrecl,.int a.1.Dcb.Blksize,.int a.1.Dcb.KeyLen,.int a.1.Dcb.KeyPos,.slice (List.map e_TExtent a.1.Extents),.int a.1.Used],[.str a.2]]) (fun a=>vtoc_Vtoc__index_1 n a.1 a.2) (fun r=>[.c (.int .i64) (.int r)]) (fun r=>[])
theorem cvtoc_Vtoc__index_1 (n:Nat):Contract Tryz.prog (xvtoc_Vtoc__index_1 n):=by
  have hΓ:=g1 (cstrings_Compare n) (@g0 (Contract Tryz.prog))
  refine contract_f (Tryz.f117.body.getD .skip) h00 Tryz.func117 rfl Tryz.call117 (by decide) (by intro _ r;exact ⟨rfl,by simp⟩) ?_
  rintro ⟨d,s⟩ r H
  try dsimp only at H
  unfold vtoc_Vtoc__index_1 at H
  simp only [Tryz.f117,Option.getD]
  refine rA ?_
  obtain ⟨r1,hr1,H⟩:=bind_some H
  have q:=And.intro @xstrings_Compare.eq_1 hr1
  refine rAq ?_
  refine Sm.ret ?_
  refine lf ?_
  obtain rfl:=Option.some.inj H
  exact rt []
abbrev slices_BinarySearchFunc_f116_M1_s1 (x_:List TDscb) (target:List UInt8) (n_:Int) (i:Int):S:=stB [(0,.c (.slice 41) (.slice (List.map e_TDscb x_))),(1,.c .str (.str target)),(2,.fnv 117 []),(8,.c (.int .i64) (.int n_)),(9,.c (.int .i64) (.int i))] []
def slices_BinarySearchFunc_f116_M1_k1 (n:Nat) (x_:List TDscb) (target:List UInt8) (n_:Int) (i:Int):Option (Int×Bool) :=
  gd (((decide (i < n_))=true→(0≤i∧i < (x_.length:Int)))∧((decide (i < n_))=true→(vtoc_Vtoc__index_1 n (gt x_ (Int.toNat i)) target).isSome=true)) <|
  some (i,(if (decide (i < n_))=true then (((vtoc_Vtoc__index_1 n (gt x_ (Int.toNat i)) target).getD default) == 0) else false))
abbrev slices_BinarySearchFunc_f116_M1_t2 (x_:List TDscb) (target:List UInt8) (n__1:Int) (i_1:Int) (j:Int):S:=stB [(0,.c (.slice 41) (.slice (List.map e_TDscb x_))),(1,.c .str (.str target)),(2,.fnv 117 []),(8,.c (.int .i64) (.int n__1)),(9,.c (.int .i64) (.int i_1)),(10,.c (.int .i64) (.int j))] []
def slices_BinarySearchFunc_f116_M1_b2 (n:Nat) (x_:List TDscb) (target:List UInt8) (n__1:Int) (i_1:Int) (j:Int):Option ((Int×Int) ⊕ ((Int))) :=
  bif (decide (i_1 < j)) then
    gd ((0≤(IntKind.wrap .i64 ((Int.fdiv (IntKind.wrap .u64 ((IntKind.wrap .i64 (i_1+j)))) (2 ^ min 1 (IntKind.bits .u64)))))∧(IntKind.wrap .i64 ((Int.fdiv (IntKind.wrap .u64 ((IntKind.wrap .i64 (i_1+j)))) (2 ^ min 1 (IntKind.bits .u64))))) < (x_.length:Int))) <|
    (vtoc_Vtoc__index_1 n (gt x_ (Int.toNat (IntKind.wrap .i64 ((Int.fdiv (IntKind.wrap .u64 ((IntKind.wrap .i64 (i_1+j)))) (2 ^ min 1 (IntKind.bits .u64))))))) target).bind fun r1 =>
    bif (decide (r1 < 0)) then
      some (.inl ((IntKind.wrap .i64 ((IntKind.wrap .i64 ((Int.fdiv (IntKind.wrap .u64 ((IntKind.wrap .i64 (i_1+j)))) (2 ^ min 1 (IntKind.bits .u64)))))+1)),j))
    else
      some (.inl (i_1,(IntKind.wrap .i64 ((Int.fdiv (IntKind.wrap .u64 ((IntKind.wrap .i64 (i_1+j)))) (2 ^ min 1 (IntKind.bits .u64)))))))
  else
    some (.inr i_1)
def slices_BinarySearchFunc_f116_M1 (n:Nat) (x_:List TDscb) (target:List UInt8):Option (Int×Bool) :=
  (loopF (fun (x:Int×Int)=>slices_BinarySearchFunc_f116_M1_b2 n x_ target (x_.length:Int) x.1 x.2) n (0,(x_.length:Int))).bind fun y7 =>
  slices_BinarySearchFunc_f116_M1_k1 n x_ target (x_.length:Int) y7
theorem cslices_BinarySearchFunc_f116_M1 (n:Nat) (x_:List TDscb) (target:List UInt8) (r:Int×Bool) (H:slices_BinarySearchFunc_f116_M1 n x_ target=some r):CallsM Tryz.prog 116 [.dat (false,[.slice 41]) [.slice (List.map e_TDscb x_)],.dat (false,[.str]) [.str target],.ref (.fnv 117 [])] [] [.c (.int .i64) (.int r.1),.c .bool (.bool r.2)] []:=by
  have hΓ:=g1 (cvtoc_Vtoc__index_1 n) (@g0 (Contract Tryz.prog))
  refine callsM_of (Tryz.f116.body.getD .skip) h00 Tryz.func116 rfl Tryz.call116 (Nat.le_of_ble_eq_true rfl) (Nat.le_of_ble_eq_true rfl) ?_
  unfold slices_BinarySearchFunc_f116_M1 at H
  simp only [Tryz.f116,Option.getD]
  refine rA ?_
  refine rA ?_
  refine rA ?_
  refine Sm.cut (fun (x:Int×Int)=>slices_BinarySearchFunc_f116_M1_s1 x_ target x.1 x.2) (fun x=>slices_BinarySearchFunc_f116_M1_k1 n x_ target x.1 x.2=some r) ?_ ?_
  · refine Sm.block ?_
    obtain ⟨y7,hy7,Ho7⟩:=bind_some H
    refine Sm.loopB _ (fun x=>slices_BinarySearchFunc_f116_M1_t2 x_ target (x_.length:Int) x.1 x.2) hy7 (wb []) ?_
    rintro ⟨i_1,j⟩ z7 H
    try dsimp only at H
    unfold slices_BinarySearchFunc_f116_M1_b2 at H
    refine Sm.st (slices_BinarySearchFunc_f116_M1_t2.eq_1 ..) ?_
    refine Sm.seqK fun K8 hK8=>?_
    refine rA ?_
    refine cnd H (fun h10 H=>?_) (fun h10 H=>?_)
    · refine Sm.skip ?_
      refine hK8 _ ?_
      refine Sm.block ?_
      refine sX fun K11 hK11=>?_
      iterate 4 refine oX ?_
      refine oE stepV_ok ?_
      iterate 2 refine oX ?_
      refine hK11 _ ?_
      obtain ⟨hg14,H⟩:=gd_some H
      obtain ⟨r1,hr1,H⟩:=bind_some H
      have q:=And.intro @xvtoc_Vtoc__index_1.eq_1 hr1
      refine rAq ?_
      refine cnd H (fun h13 H=>?_) (fun h13 H=>?_)
      · refine eA ?_
        refine lf ?_
        exact nx H (wb [])
      refine eA ?_
      refine lf ?_
      exact nx H (wb [])
    refine Sm.exit ?_
    refine lf ?_
    refine lx H fun hyy=>?_
    subst hyy
    have H:=Ho7
    try dsimp only at H
    refine lf ?_
    exact ⟨((x_.length:Int),i_1),H,wb []⟩
  rintro ⟨n_,i⟩ H
  try dsimp only at H
  unfold slices_BinarySearchFunc_f116_M1_k1 at H
  refine Sm.st (slices_BinarySearchFunc_f116_M1_s1.eq_1 ..) ?_
  obtain ⟨⟨hg5,hg6⟩,H⟩:=gd_some H
  have q:=@xvtoc_Vtoc__index_1.eq_1
  refine rAq ?_
  refine Sm.ret ?_
  refine lf ?_
  obtain rfl:=Option.some.inj H
  exact rtM []
def vtoc_Vtoc__index (n:Nat) (v:TVtoc) (name:List UInt8):Option (Int×Bool) :=
  (slices_BinarySearchFunc_f116_M1 n v.Sets name).bind fun r1 =>
  some (r1.1,r1.2)
def xvtoc_Vtoc__index (n:Nat):Go.AE.Fn:=mkFn (A:=TVtoc×(List UInt8)) (R:=Int×Bool) 56 [(true,[.str,.int .i64,.int .i64,.int .i64,.slice 41]),(false,[.str])] false (fun xs=>((⟨(cg (xs.getD 0 []) 0).toStr,(cg (xs.getD 0 []) 1).toInt,(cg (xs.getD 0 []) 2).toInt,(cg (xs.getD 0 []) 3).toInt,((cg (xs.getD 0 []) 4).toSl.map d_TDscb)⟩:TVtoc),(cg (xs.getD 1 []) 0).toStr)) (fun a=>[[.str a.1.Serial,.int a.1.Cyls,.int a.1.Heads,.int a.1.Size,.slice (List.map e_TDscb a.1.Sets)],[.str a.2]]) (fun a=>vtoc_Vtoc__index n a.1 a.2) (fun r=>[.c (.int .i64) (.int r.1),.c .bool (.bool r.2)]) (fun r=>[])
theorem cvtoc_Vtoc__index (n:Nat):Contract Tryz.prog (xvtoc_Vtoc__index n):=by
  have hΓ:=@g0 (Contract Tryz.prog)
  refine contract_f (Tryz.f56.body.getD .skip) h00 Tryz.func56 rfl Tryz.call56 (by decide) (by intro _ r;exact ⟨rfl,by simp⟩) ?_
  rintro ⟨v,name⟩ r H
  try dsimp only at H
  unfold vtoc_Vtoc__index at H
  simp only [Tryz.f56,Option.getD]
  refine rA ?_
  refine sX fun K2 hK2=>?_
  obtain ⟨r1,hr1,H⟩:=bind_some H
  have q:=hr1
  iterate 3 refine oX ?_
  refine oMq (cslices_BinarySearchFunc_f116_M1 n _ _ r1 hr1) [] [] ?_
  iterate 4 refine oXq ?_
  refine hK2 _ ?_
  refine Sm.ret ?_
  refine lf ?_
  obtain rfl:=Option.some.inj H
  exact rt []
abbrev extent_Free_s2 (out_1:List TExtent):S:=stB [(5,.own 9001 [.int .i64,.int .i64] 0 out_1.length)] [(9001,.row 80 (List.map e_TExtent out_1))]
def extent_Free_k2 (n:Nat) (out_1:List TExtent):Option (List TExtent) :=
  some out_1
abbrev extent_Free_s1 (n_:Int) (out:List TExtent) (at_:Int):S:=stB [(1,.c (.int .i64) (.int n_)),(5,.own 9000 [.int .i64,.int .i64] 0 out.length),(6,.c (.int .i64) (.int at_))] [(9000,.row 80 (List.map e_TExtent out))]
def extent_Free_k1 (n:Nat) (n_:Int) (out:List TExtent) (at_:Int):Option (List TExtent) :=
  bif (decide (n_ > at_)) then
    gd ((out.length+1)≤2147483648) <|
    extent_Free_k2 n (out ++ [(⟨at_,(IntKind.wrap .i64 (n_ - at_))⟩:TExtent)])
  else
    extent_Free_k2 n out
abbrev extent_Free_s4 (n_:Int) (out_3:List TExtent) (at__2:Int) (v22:List TExtent) (v23:Int) (v24:Int):S:=stB [(1,.c (.int .i64) (.int n_)),(5,.own 9004 [.int .i64,.int .i64] 0 out_3.length),(6,.c (.int .i64) (.int at__2)),(22,.c (.slice 80) (.slice (List.map e_TExtent v22))),(23,.c (.int .i64) (.int v23)),(24,.c (.int .i64) (.int v24))] [(9004,.row 80 (List.map e_TExtent out_3))]
def extent_Free_k4 (n:Nat) (n_:Int) (out_3:List TExtent) (at__2:Int) (v22:List TExtent) (v23:Int) (v24:Int):Option (((List TExtent)×Int×Int) ⊕ (((List TExtent)×Int))) :=
  some (.inl (out_3,at__2,(IntKind.wrap .i64 (v24+1))))
abbrev extent_Free_s5 (n_:Int) (out_4:List TExtent) (x_:Int) (x__1:Int) (v22:List TExtent) (v23:Int) (v24:Int):S:=stB [(1,.c (.int .i64) (.int n_)),(5,.own 9005 [.int .i64,.int .i64] 0 out_4.length),(8,.box 9006 0),(22,.c (.slice 80) (.slice (List.map e_TExtent v22))),(23,.c (.int .i64) (.int v23)),(24,.c (.int .i64) (.int v24))] [(9005,.row 80 (List.map e_TExtent out_4)),(9006,.box [.c (.int .i64) (.int x_),.c (.int .i64) (.int x__1)])]
def extent_Free_k5 (n:Nat) (n_:Int) (out_4:List TExtent) (x_:Int) (x__1:Int) (v22:List TExtent) (v23:Int) (v24:Int):Option (((List TExtent)×Int×Int) ⊕ (((List TExtent)×Int))) :=
  extent_Free_k4 n n_ out_4 (IntKind.wrap .i64 (x_+x__1)) v22 v23 v24
abbrev extent_Free_t3 (n_:Int) (v22:List TExtent) (v23:Int) (out_2:List TExtent) (at__1:Int) (v24:Int):S:=stB [(1,.c (.int .i64) (.int n_)),(5,.own 9003 [.int .i64,.int .i64] 0 out_2.length),(6,.c (.int .i64) (.int at__1)),(22,.c (.slice 80) (.slice (List.map e_TExtent v22))),(23,.c (.int .i64) (.int v23)),(24,.c (.int .i64) (.int v24))] [(9003,.row 80 (List.map e_TExtent out_2))]
def extent_Free_b3 (n:Nat) (n_:Int) (v22:List TExtent) (v23:Int) (out_2:List TExtent) (at__1:Int) (v24:Int):Option (((List TExtent)×Int×Int) ⊕ (((List TExtent)×Int))) :=
  bif (decide (v24 < v23)) then
    gd ((0≤v24∧v24 < (v22.length:Int))) <|
    bif (decide ((if n_ < ((gt v22 (Int.toNat v24)).At) then n_ else ((gt v22 (Int.toNat v24)).At)) > at__1)) then
      gd ((out_2.length+1)≤2147483648) <|
      extent_Free_k5 n n_ (out_2 ++ [(⟨at__1,(IntKind.wrap .i64 ((if n_ < ((gt v22 (Int.toNat v24)).At) then n_ else ((gt v22 (Int.toNat v24)).At)) - at__1))⟩:TExtent)]) ((gt v22 (Int.toNat v24)).At) ((gt v22 (Int.toNat v24)).Len) v22 v23 v24
    else
      extent_Free_k5 n n_ out_2 ((gt v22 (Int.toNat v24)).At) ((gt v22 (Int.toNat v24)).Len) v22 v23 v24
  else
    some (.inr (out_2,at__1))
def extent_Free (n:Nat) (used:List TExtent) (n_:Int):Option (List TExtent) :=
  (extent_Valid n used).bind fun r1 =>
  bif (if (if (!r1)=true then true else (decide (n_ < 0)))=true then true else (decide (n_ > 512))) then
    some []
  else
    (extent_sorted n used).bind fun r2 =>
    (loopF (fun (x:(List TExtent)×Int×Int)=>extent_Free_b3 n n_ r2 (r2.length:Int) x.1 x.2.1 x.2.2) n ([],0,0)).bind fun y13 =>
    extent_Free_k1 n n_ y13.1 y13.2
def xextent_Free (n:Nat):Go.AE.Fn:=mkFn (A:=(List TExtent)×Int) (R:=(List TExtent)) 76 [(false,[.slice 80]),(false,[.int .i64])] false (fun xs=>(((cg (xs.getD 0 []) 0).toSl.map d_TExtent),(cg (xs.getD 1 []) 0).toInt)) (fun a=>[[.slice (List.map e_TExtent a.1)],[.int a.2]]) (fun a=>extent_Free n a.1 a.2) (fun r=>[.own 0 [.int .i64,.int .i64] 0 r.length]) (fun r=>[.row 80 (List.map e_TExtent r)])
theorem cextent_Free (n:Nat):Contract Tryz.prog (xextent_Free n):=by
  have hΓ:=g1 (cextent_Valid n) (g1 (cextent_sorted n) (@g0 (Contract Tryz.prog)))
  refine contract_f (Tryz.f76.body.getD .skip) h00 Tryz.func76 rfl Tryz.call76 (by decide) (fun _ r=>⟨rfl,m1 ⟨80,_,_,rfl,ty80,rfl⟩ m0⟩) ?_
  rintro ⟨used,n_⟩ r H
  try dsimp only at H
  unfold extent_Free at H
  simp only [Tryz.f76,Option.getD]
  refine rA ?_
  refine Sm.seqK fun K2 hK2=>?_
  obtain ⟨r1,hr1,H⟩:=bind_some H
  have q:=And.intro @xextent_Valid.eq_1 hr1
  refine rAq ?_
  refine cnd H (fun h4 H=>?_) (fun h4 H=>?_)
  · refine rA ?_
    refine Sm.ret ?_
    refine lf ?_
    obtain rfl:=Option.some.inj H
    exact rto [none]
  refine Sm.skip ?_
  refine hK2 _ ?_
  refine rA ?_
  refine rA ?_
  refine Sm.cut (fun (x:(List TExtent)×Int)=>extent_Free_s1 n_ x.1 x.2) (fun x=>extent_Free_k1 n n_ x.1 x.2=some r) ?_ ?_
  · obtain ⟨r2,hr2,H⟩:=bind_some H
    have q:=And.intro @xextent_Valid.eq_1 (And.intro @xextent_sorted.eq_1 hr2)
    refine rAq ?_
    refine Sm.block ?_
    obtain ⟨y13,hy13,Ho13⟩:=bind_some H
    refine Sm.loopB _ (fun x=>extent_Free_t3 n_ r2 (r2.length:Int) x.1 x.2.1 x.2.2) hy13 (wb [none]) ?_
    rintro ⟨out_2,at__1,v24⟩ z13 H
    try dsimp only at H
    unfold extent_Free_b3 at H
    refine Sm.st (extent_Free_t3.eq_1 ..) ?_
    refine rA ?_
    refine Sm.seqK fun K15 hK15=>?_
    refine cnd H (fun h16 H=>?_) (fun h16 H=>?_)
    · refine Sm.skip ?_
      refine hK15 _ ?_
      refine Sm.cut (fun (x:(List TExtent)×Int)=>extent_Free_s4 n_ x.1 x.2 r2 (r2.length:Int) v24) (fun x=>extent_Free_k4 n n_ x.1 x.2 r2 (r2.length:Int) v24=some z13) ?_ ?_
      · refine Sm.block ?_
        obtain ⟨hg22,H⟩:=gd_some H
        refine rA ?_
        refine Sm.cut (fun (x:(List TExtent))=>extent_Free_s5 n_ x ((gt r2 (Int.toNat v24)).At) ((gt r2 (Int.toNat v24)).Len) r2 (r2.length:Int) v24) (fun x=>extent_Free_k5 n n_ x ((gt r2 (Int.toNat v24)).At) ((gt r2 (Int.toNat v24)).Len) r2 (r2.length:Int) v24=some z13) ?_ ?_
        · refine rA ?_
          refine rA ?_
          refine cnd H (fun h20 H=>?_) (fun h20 H=>?_)
          · obtain ⟨hg21,H⟩:=gd_some H
            refine eA ?_
            refine lf ?_
            exact ⟨_,H,wb [some 672,some 128]⟩
          refine Sm.skip ?_
          refine lf ?_
          exact ⟨_,H,wb [some 9003,some 128]⟩
        rintro out_4 H
        try dsimp only at H
        unfold extent_Free_k5 at H
        refine Sm.st (extent_Free_s5.eq_1 ..) ?_
        refine eA ?_
        refine lf ?_
        exact ⟨(out_4,(IntKind.wrap .i64 ((gt r2 (Int.toNat v24)).At+(gt r2 (Int.toNat v24)).Len))),H,wb [some 9005]⟩
      rintro ⟨out_3,at__2⟩ H
      try dsimp only at H
      unfold extent_Free_k4 at H
      refine Sm.st (extent_Free_s4.eq_1 ..) ?_
      refine eA ?_
      refine lf ?_
      exact nx H (wb [some 9004])
    refine Sm.exit ?_
    refine lf ?_
    refine lx H fun hyy=>?_
    subst hyy
    have H:=Ho13
    try dsimp only at H
    refine lf ?_
    exact ⟨(out_2,at__1),H,wb [some 9003]⟩
  rintro ⟨out,at_⟩ H
  try dsimp only at H
  unfold extent_Free_k1 at H
  refine Sm.st (extent_Free_s1.eq_1 ..) ?_
  refine Sm.cut (fun (x:(List TExtent))=>extent_Free_s2 x) (fun x=>extent_Free_k2 n x=some r) ?_ ?_
  · refine rA ?_
    refine cnd H (fun h10 H=>?_) (fun h10 H=>?_)
    · obtain ⟨hg11,H⟩:=gd_some H
      refine eA ?_
      refine lf ?_
      exact ⟨_,H,wb [some 944]⟩
    refine Sm.skip ?_
    refine lf ?_
    exact ⟨_,H,wb [some 9000]⟩
  rintro out_1 H
  try dsimp only at H
  unfold extent_Free_k2 at H
  refine Sm.st (extent_Free_s2.eq_1 ..) ?_
  refine rA ?_
  refine Sm.ret ?_
  refine lf ?_
  obtain rfl:=Option.some.inj H
  exact rto [some 9001]
abbrev vtoc_Free_s1 (v:TVtoc) (used:List TExtent):S:=stB [(1,.box 9000 0),(3,.own 9001 [.int .i64,.int .i64] 0 used.length)] [(9000,.box [.c .str (.str v.Serial),.c (.int .i64) (.int v.Cyls),.c (.int .i64) (.int v.Heads),.c (.int .i64) (.int v.Size),.c (.slice 41) (.slice (List.map e_TDscb v.Sets))]),(9001,.row 80 (List.map e_TExtent used))]
def vtoc_Free_k1 (n:Nat) (v:TVtoc) (used:List TExtent):Option (List TExtent) :=
  (extent_Free n used (IntKind.wrap .i64 (v.Cyls * v.Heads))).bind fun r2 =>
  some r2
abbrev vtoc_Free_t2 (v:TVtoc) (v16:Int) (used_1:List TExtent) (v17:Int):S:=stB [(1,.box 9004 0),(3,.own 9005 [.int .i64,.int .i64] 0 used_1.length),(15,.c (.slice 41) (.slice (List.map e_TDscb v.Sets))),(16,.c (.int .i64) (.int v16)),(17,.c (.int .i64) (.int v17))] [(9004,.box [.c .str (.str v.Serial),.c (.int .i64) (.int v.Cyls),.c (.int .i64) (.int v.Heads),.c (.int .i64) (.int v.Size),.c (.slice 41) (.slice (List.map e_TDscb v.Sets))]),(9005,.row 80 (List.map e_TExtent used_1))]
def vtoc_Free_b2 (n:Nat) (v:TVtoc) (v16:Int) (used_1:List TExtent) (v17:Int):Option (((List TExtent)×Int) ⊕ (((List TExtent)))) :=
  bif (decide (v17 < v16)) then
    gd ((0≤v17∧v17 < (v.Sets.length:Int))) <|
    gd ((used_1.length+((gt v.Sets (Int.toNat v17)).Extents).length)≤2147483648) <|
    some (.inl ((used_1 ++ (gt v.Sets (Int.toNat v17)).Extents),(IntKind.wrap .i64 (v17+1))))
  else
    some (.inr used_1)
def vtoc_Free (n:Nat) (v:TVtoc):Option (List TExtent) :=
  (vtoc_Check n v).bind fun r1 =>
  bif (r1 != 0) then
    some []
  else
    (loopF (fun (x:(List TExtent)×Int)=>vtoc_Free_b2 n v (v.Sets.length:Int) x.1 x.2) n ([(⟨0,(IntKind.wrap .i64 (v.Size+1))⟩:TExtent)],0)).bind fun y9 =>
    vtoc_Free_k1 n v y9
def xvtoc_Free (n:Nat):Go.AE.Fn:=mkFn (A:=TVtoc) (R:=(List TExtent)) 34 [(true,[.str,.int .i64,.int .i64,.int .i64,.slice 41])] false (fun xs=>(⟨(cg (xs.getD 0 []) 0).toStr,(cg (xs.getD 0 []) 1).toInt,(cg (xs.getD 0 []) 2).toInt,(cg (xs.getD 0 []) 3).toInt,((cg (xs.getD 0 []) 4).toSl.map d_TDscb)⟩:TVtoc)) (fun a=>[[.str a.Serial,.int a.Cyls,.int a.Heads,.int a.Size,.slice (List.map e_TDscb a.Sets)]]) (fun a=>vtoc_Free n a) (fun r=>[.own 0 [.int .i64,.int .i64] 0 r.length]) (fun r=>[.row 80 (List.map e_TExtent r)])
theorem cvtoc_Free (n:Nat):Contract Tryz.prog (xvtoc_Free n):=by
  have hΓ:=g1 (cvtoc_Check n) (g1 (cextent_Free n) (@g0 (Contract Tryz.prog)))
  refine contract_f (Tryz.f34.body.getD .skip) h00 Tryz.func34 rfl Tryz.call34 (by decide) (fun _ r=>⟨rfl,m1 ⟨80,_,_,rfl,ty80,rfl⟩ m0⟩) ?_
  rintro v r H
  try dsimp only at H
  unfold vtoc_Free at H
  simp only [Tryz.f34,Option.getD]
  refine rA ?_
  refine Sm.seqK fun K2 hK2=>?_
  obtain ⟨r1,hr1,H⟩:=bind_some H
  have q:=And.intro @xvtoc_Check.eq_1 hr1
  refine rAq ?_
  refine cnd H (fun h4 H=>?_) (fun h4 H=>?_)
  · refine rA ?_
    refine Sm.ret ?_
    refine lf ?_
    obtain rfl:=Option.some.inj H
    exact rto [none]
  refine Sm.skip ?_
  refine hK2 _ ?_
  refine rA ?_
  refine Sm.cut (fun (x:(List TExtent))=>vtoc_Free_s1 v x) (fun x=>vtoc_Free_k1 n v x=some r) ?_ ?_
  · refine rA ?_
    refine Sm.block ?_
    obtain ⟨y9,hy9,Ho9⟩:=bind_some H
    refine Sm.loopB _ (fun x=>vtoc_Free_t2 v (v.Sets.length:Int) x.1 x.2) hy9 (wb [some 16,some 208]) ?_
    rintro ⟨used_1,v17⟩ z9 H
    try dsimp only at H
    unfold vtoc_Free_b2 at H
    refine Sm.st (vtoc_Free_t2.eq_1 ..) ?_
    refine rA ?_
    refine Sm.seqK fun K11 hK11=>?_
    refine cnd H (fun h12 H=>?_) (fun h12 H=>?_)
    · refine Sm.skip ?_
      refine hK11 _ ?_
      refine Sm.seqK fun K13 hK13=>?_
      refine Sm.block ?_
      obtain ⟨hg16,H⟩:=gd_some H
      refine rA ?_
      obtain ⟨hg15,H⟩:=gd_some H
      refine eA ?_
      refine hK13 _ ?_
      refine eA ?_
      refine lf ?_
      exact nx H (wb [some 9004,some 384])
    refine Sm.exit ?_
    refine lf ?_
    refine lx H fun hyy=>?_
    subst hyy
    have H:=Ho9
    try dsimp only at H
    refine lf ?_
    exact ⟨_,H,wb [some 9004,some 9005]⟩
  rintro used H
  try dsimp only at H
  unfold vtoc_Free_k1 at H
  refine Sm.st (vtoc_Free_s1.eq_1 ..) ?_
  obtain ⟨r2,hr2,H⟩:=bind_some H
  have q:=And.intro @xvtoc_Check.eq_1 (And.intro @xextent_Free.eq_1 hr2)
  refine rAq ?_
  refine Sm.ret ?_
  refine lf ?_
  obtain rfl:=Option.some.inj H
  exact rto [some 512]
abbrev extent_Check_s1:S:=stB [] []
def extent_Check_k1 (n:Nat):Option Bool :=
  some true
abbrev extent_Check_t2 (n_:Int) (l:List TExtent) (v9:Int) (end_:Int) (v10:Int):S:=stB [(1,.c (.int .i64) (.int n_)),(5,.c (.int .i64) (.int end_)),(8,.c (.slice 80) (.slice (List.map e_TExtent l))),(9,.c (.int .i64) (.int v9)),(10,.c (.int .i64) (.int v10))] []
def extent_Check_b2 (n:Nat) (n_:Int) (l:List TExtent) (v9:Int) (end_:Int) (v10:Int):Option ((Int×Int) ⊕ (((Bool) ⊕ (Unit)))) :=
  bif (decide (v10 < v9)) then
    gd ((0≤v10∧v10 < (l.length:Int))) <|
    (extent_valid n (gt l (Int.toNat v10))).bind fun r1 =>
    bif (if (if (!r1)=true then true else (decide (((gt l (Int.toNat v10)).At)≤end_)))=true then true else (decide ((IntKind.wrap .i64 (((gt l (Int.toNat v10)).At)+((gt l (Int.toNat v10)).Len))) > n_))) then
      some (.inr (.inl false))
    else
      some (.inl ((IntKind.wrap .i64 (((gt l (Int.toNat v10)).At)+((gt l (Int.toNat v10)).Len))),(IntKind.wrap .i64 (v10+1))))
  else
    some (.inr (.inr ()))
def extent_Check (n:Nat) (l:List TExtent) (n_:Int):Option Bool :=
  (loopF (fun (x:Int×Int)=>extent_Check_b2 n n_ l (l.length:Int) x.1 x.2) n ((-1),0)).bind fun y5 =>
  match y5 with
  | .inl vv =>
    some vv
  | .inr vv =>
    extent_Check_k1 n
def xextent_Check (n:Nat):Go.AE.Fn:=mkFn (A:=(List TExtent)×Int) (R:=Bool) 137 [(false,[.slice 80]),(false,[.int .i64])] false (fun xs=>(((cg (xs.getD 0 []) 0).toSl.map d_TExtent),(cg (xs.getD 1 []) 0).toInt)) (fun a=>[[.slice (List.map e_TExtent a.1)],[.int a.2]]) (fun a=>extent_Check n a.1 a.2) (fun r=>[.c .bool (.bool r)]) (fun r=>[])
theorem cextent_Check (n:Nat):Contract Tryz.prog (xextent_Check n):=by
  have hΓ:=g1 (cextent_valid n) (@g0 (Contract Tryz.prog))
  refine contract_f (Tryz.f137.body.getD .skip) h00 Tryz.func137 rfl Tryz.call137 (by decide) (by intro _ r;exact ⟨rfl,by simp⟩) ?_
  rintro ⟨l,n_⟩ r H
  try dsimp only at H
  unfold extent_Check at H
  simp only [Tryz.f137,Option.getD]
  refine rA ?_
  refine rA ?_
  refine Sm.cut (fun (x:Unit)=>extent_Check_s1) (fun x=>extent_Check_k1 n=some r) ?_ ?_
  · refine rA ?_
    refine Sm.block ?_
    obtain ⟨y5,hy5,Ho5⟩:=bind_some H
    refine Sm.loopB _ (fun x=>extent_Check_t2 n_ l (l.length:Int) x.1 x.2) hy5 (wb []) ?_
    rintro ⟨end_,v10⟩ z5 H
    try dsimp only at H
    unfold extent_Check_b2 at H
    refine Sm.st (extent_Check_t2.eq_1 ..) ?_
    refine rA ?_
    refine Sm.seqK fun K7 hK7=>?_
    refine cnd H (fun h8 H=>?_) (fun h8 H=>?_)
    · refine Sm.skip ?_
      refine hK7 _ ?_
      refine Sm.seqK fun K9 hK9=>?_
      refine Sm.block ?_
      obtain ⟨hg15,H⟩:=gd_some H
      refine rA ?_
      refine Sm.seqK fun K11 hK11=>?_
      obtain ⟨r1,hr1,H⟩:=bind_some H
      have q:=And.intro @xextent_valid.eq_1 hr1
      refine rAq ?_
      refine cnd H (fun h13 H=>?_) (fun h13 H=>?_)
      · refine rA ?_
        refine Sm.ret ?_
        refine lf ?_
        refine lx H fun hyy=>?_
        subst hyy
        have H:=Ho5
        try dsimp only at H
        refine lf ?_
        obtain rfl:=Option.some.inj H
        exact rt []
      refine Sm.skip ?_
      refine hK11 _ ?_
      refine eA ?_
      refine hK9 _ ?_
      refine eA ?_
      refine lf ?_
      exact nx H (wb [])
    refine Sm.exit ?_
    refine lf ?_
    refine lx H fun hyy=>?_
    subst hyy
    have H:=Ho5
    try dsimp only at H
    refine lf ?_
    exact ⟨(),H,wb []⟩
  rintro ⟨⟩ H
  try dsimp only at H
  unfold extent_Check_k1 at H
  refine Sm.st (extent_Check_s1.eq_1 ..) ?_
  refine rA ?_
  refine Sm.ret ?_
  refine lf ?_
  obtain rfl:=Option.some.inj H
  exact rt []
def slices_Delete_f138_M2 (n:Nat) (s:List TExtent) (s_l:Nat) (i:Int) (j:Int):Option (Nat×(List TExtent)) :=
  gd ((0≤i∧i≤j∧j≤((s_l:Nat):Int)∧((s_l:Nat):Int)≤(s_l:Int))) <|
  bif (i == j) then
    some (s_l,s)
  else
    gd ((0≤i∧i≤(s.length:Int))∧(0≤j∧j≤(s_l:Int)∧(s_l:Int)≤(s.length:Int))∧((Int.toNat (i - 0))+(List.take (Int.toNat ((s_l:Int) - j)) (List.drop (Int.toNat j) s)).length)≤s.length) <|
    gd ((0≤((((Int.toNat (i - 0))+(List.take (Int.toNat ((s_l:Int) - j)) (List.drop (Int.toNat j) s)).length):Nat):Int)∧((((Int.toNat (i - 0))+(List.take (Int.toNat ((s_l:Int) - j)) (List.drop (Int.toNat j) s)).length):Nat):Int)≤((s_l:Nat):Int)∧((s_l:Nat):Int)≤(s.length:Int))∧(((Int.toNat (i - 0))+(List.take (Int.toNat ((s_l:Int) - j)) (List.drop (Int.toNat j) s)).length)+(Int.toNat (((s_l:Nat):Int) - ((((Int.toNat (i - 0))+(List.take (Int.toNat ((s_l:Int) - j)) (List.drop (Int.toNat j) s)).length):Nat):Int))))≤s.length) <|
    some (((Int.toNat (i - 0))+(List.take (Int.toNat ((s_l:Int) - j)) (List.drop (Int.toNat j) s)).length),(overL (overL s (Int.toNat (i - 0)) (List.take (Int.toNat ((s_l:Int) - j)) (List.drop (Int.toNat j) s))) ((Int.toNat (i - 0))+(List.take (Int.toNat ((s_l:Int) - j)) (List.drop (Int.toNat j) s)).length) (zreps (Int.toNat (((s_l:Nat):Int) - ((((Int.toNat (i - 0))+(List.take (Int.toNat ((s_l:Int) - j)) (List.drop (Int.toNat j) s)).length):Nat):Int))) (⟨0,0⟩:TExtent))))
theorem cslices_Delete_f138_M2 (n:Nat) (s:List TExtent) (s_l:Nat) (i:Int) (j:Int) (r:Nat×(List TExtent)) (H:slices_Delete_f138_M2 n s s_l i j=some r):CallsM Tryz.prog 138 [.ref (.own 0 [.int .i64,.int .i64] 0 s_l),.dat (false,[.int .i64]) [.int i],.dat (false,[.int .i64]) [.int j]] [.row 80 (List.map e_TExtent s)] [.own 0 [.int .i64,.int .i64] 0 r.1] [.row 80 (List.map e_TExtent r.2)]:=by
  have hΓ:=@g0 (Contract Tryz.prog)
  refine callsM_of (Tryz.f138.body.getD .skip) h00 Tryz.func138 rfl Tryz.call138 (Nat.le_of_ble_eq_true rfl) (Nat.le_of_ble_eq_true rfl) ?_
  unfold slices_Delete_f138_M2 at H
  simp only [Tryz.f138,Option.getD]
  refine rA ?_
  refine sX fun K2 hK2=>?_
  obtain ⟨hg3,H⟩:=gd_some H
  iterate 5 refine oX ?_
  refine oY ?_
  refine hK2 _ ?_
  refine Sm.seqK fun K4 hK4=>?_
  refine rA ?_
  refine cnd H (fun h6 H=>?_) (fun h6 H=>?_)
  · refine rA ?_
    refine Sm.ret ?_
    refine lf ?_
    obtain rfl:=Option.some.inj H
    exact rtM [some 0]
  refine Sm.skip ?_
  refine hK4 _ ?_
  refine rA ?_
  obtain ⟨⟨hg14,hg15,hg16⟩,H⟩:=gd_some H
  refine rD ?_
  refine sX fun K10 hK10=>?_
  obtain ⟨⟨hg11,hg12⟩,H⟩:=gd_some H
  iterate 5 refine oX ?_
  refine oY ?_
  refine hK10 _ ?_
  refine rA ?_
  refine Sm.ret ?_
  refine lf ?_
  obtain rfl:=Option.some.inj H
  exact rtM [some 0]
abbrev extent_Take_s1:S:=stB [] []
def extent_Take_k1 (n:Nat):Option ((List TExtent)×(List TExtent)×Int) :=
  some ([],[],200)
abbrev extent_Take_s3 (want_1:Int) (most:Int) (got:List TExtent) (rest:List TExtent) (rest_2:Nat) (longest:Int):S:=stB [(1,.c (.int .i64) (.int want_1)),(2,.c (.int .i64) (.int most)),(6,.own 9005 [.int .i64,.int .i64] 0 got.length),(7,.own 9006 [.int .i64,.int .i64] 0 rest_2),(9,.c (.int .i64) (.int longest))] [(9005,.row 80 (List.map e_TExtent got)),(9006,.row 80 (List.map e_TExtent rest))]
def extent_Take_k3 (n:Nat) (want_1:Int) (most:Int) (got:List TExtent) (rest:List TExtent) (rest_2:Nat) (longest:Int):Option ((Int×(List TExtent)×(List TExtent)×Nat) ⊕ ((((List TExtent)×(List TExtent)×Int) ⊕ (Unit)))) :=
  gd ((0≤longest∧longest < (rest_2:Int))∧(Int.toNat longest) < rest.length∧(got.length+1)≤2147483648) <|
  gd ((0≤longest∧longest < (rest_2:Int))∧(Int.toNat longest) < rest.length) <|
  (slices_Delete_f138_M2 n rest rest_2 longest (IntKind.wrap .i64 (longest+1))).bind fun r3 =>
  some (.inl ((IntKind.wrap .i64 (want_1 - ((gt rest (Int.toNat longest)).Len))),(got ++ [(gt rest (Int.toNat longest))]),r3.2,r3.1))
abbrev extent_Take_s5 (want_1:Int) (most:Int) (got:List TExtent) (rest:List TExtent) (rest_4:Nat) (longest_2:Int) (v35:Int) (v36:Int):S:=stB [(1,.c (.int .i64) (.int want_1)),(2,.c (.int .i64) (.int most)),(6,.own 9013 [.int .i64,.int .i64] 0 got.length),(7,.own 9014 [.int .i64,.int .i64] 0 rest_4),(9,.c (.int .i64) (.int longest_2)),(34,.own 9014 [.int .i64,.int .i64] 0 rest_4),(35,.c (.int .i64) (.int v35)),(36,.c (.int .i64) (.int v36))] [(9013,.row 80 (List.map e_TExtent got)),(9014,.row 80 (List.map e_TExtent rest))]
def extent_Take_k5 (n:Nat) (want_1:Int) (most:Int) (got:List TExtent) (rest:List TExtent) (rest_4:Nat) (longest_2:Int) (v35:Int) (v36:Int):Option ((Nat×Int×Int) ⊕ ((((List TExtent)×(List TExtent)×Int) ⊕ (Nat×Int)))) :=
  some (.inl (rest_4,longest_2,(IntKind.wrap .i64 (v36+1))))
abbrev extent_Take_t4 (want_1:Int) (most:Int) (got:List TExtent) (rest:List TExtent) (v35:Int) (rest_3:Nat) (longest_1:Int) (v36:Int):S:=stB [(1,.c (.int .i64) (.int want_1)),(2,.c (.int .i64) (.int most)),(6,.own 9011 [.int .i64,.int .i64] 0 got.length),(7,.own 9012 [.int .i64,.int .i64] 0 rest_3),(9,.c (.int .i64) (.int longest_1)),(34,.own 9012 [.int .i64,.int .i64] 0 rest_3),(35,.c (.int .i64) (.int v35)),(36,.c (.int .i64) (.int v36))] [(9011,.row 80 (List.map e_TExtent got)),(9012,.row 80 (List.map e_TExtent rest))]
def extent_Take_b4 (n:Nat) (want_1:Int) (most:Int) (got:List TExtent) (rest:List TExtent) (v35:Int) (rest_3:Nat) (longest_1:Int) (v36:Int):Option ((Nat×Int×Int) ⊕ ((((List TExtent)×(List TExtent)×Int) ⊕ (Nat×Int)))) :=
  bif (decide (v36 < v35)) then
    gd ((0≤v36∧v36 < (rest_3:Int))∧(Int.toNat v36) < rest.length) <|
    bif (decide (((gt rest (Int.toNat v36)).Len) > want_1)) then
      gd ((got.length+1)≤2147483648) <|
      gd ((0≤v36∧v36 < (rest_3:Int))∧(Int.toNat v36) < rest.length) <|
      some (.inr (.inl ((got ++ [(⟨(gt rest (Int.toNat v36)).At,want_1⟩:TExtent)]),(List.take rest_3 (List.set rest (Int.toNat v36) (⟨(IntKind.wrap .i64 (((gt rest (Int.toNat v36)).At)+want_1)),(IntKind.wrap .i64 (((gt rest (Int.toNat v36)).Len) - want_1))⟩:TExtent))),0)))
    else
      bif (((gt rest (Int.toNat v36)).Len) == want_1) then
        gd ((got.length+1)≤2147483648) <|
        (slices_Delete_f138_M2 n rest rest_3 v36 (IntKind.wrap .i64 (v36+1))).bind fun r4 =>
        some (.inr (.inl ((got ++ [(gt rest (Int.toNat v36))]),(List.take r4.1 r4.2),0)))
      else
        gd ((0≤longest_1∧longest_1 < (rest_3:Int))∧(Int.toNat longest_1) < rest.length) <|
        bif (decide (((gt rest (Int.toNat v36)).Len) > ((gt rest (Int.toNat longest_1)).Len))) then
          extent_Take_k5 n want_1 most got rest rest_3 v36 v35 v36
        else
          extent_Take_k5 n want_1 most got rest rest_3 longest_1 v35 v36
  else
    some (.inr (.inr (rest_3,longest_1)))
abbrev extent_Take_t2 (most:Int) (want_1:Int) (got:List TExtent) (rest:List TExtent) (rest_1:Nat):S:=stB [(1,.c (.int .i64) (.int want_1)),(2,.c (.int .i64) (.int most)),(6,.own 9003 [.int .i64,.int .i64] 0 got.length),(7,.own 9004 [.int .i64,.int .i64] 0 rest_1)] [(9003,.row 80 (List.map e_TExtent got)),(9004,.row 80 (List.map e_TExtent rest))]
def extent_Take_b2 (n:Nat) (most:Int) (want_1:Int) (got:List TExtent) (rest:List TExtent) (rest_1:Nat):Option ((Int×(List TExtent)×(List TExtent)×Nat) ⊕ ((((List TExtent)×(List TExtent)×Int) ⊕ (Unit)))) :=
  bif (if (decide (((got.length:Nat):Int) < most))=true then (decide (((rest_1:Nat):Int) > 0)) else false) then
    (loopF (fun (x:Nat×Int×Int)=>extent_Take_b4 n want_1 most got rest ((rest_1:Nat):Int) x.1 x.2.1 x.2.2) n (rest_1,0,0)).bind fun y23 =>
    match y23 with
    | .inl vv =>
      some (.inr (.inl (vv.1,vv.2.1,vv.2.2)))
    | .inr vv =>
      extent_Take_k3 n want_1 most got rest vv.1 vv.2
  else
    some (.inr (.inr ()))
def extent_Take (n:Nat) (free:List TExtent) (want:Int) (most:Int):Option ((List TExtent)×(List TExtent)×Int) :=
  (extent_Check n free 512).bind fun r1 =>
  bif (if (if (!r1)=true then true else (decide (want < 1)))=true then true else (decide (most < 1))) then
    some ([],[],1)
  else
    (slices_Clone_f118 n free).bind fun r2 =>
    (loopF (fun (x:Int×(List TExtent)×(List TExtent)×Nat)=>extent_Take_b2 n most x.1 x.2.1 x.2.2.1 x.2.2.2) n (want,[],r2,r2.length)).bind fun y9 =>
    match y9 with
    | .inl vv =>
      some (vv.1,vv.2.1,vv.2.2)
    | .inr vv =>
      extent_Take_k1 n
def xextent_Take (n:Nat):Go.AE.Fn:=mkFn (A:=(List TExtent)×Int×Int) (R:=(List TExtent)×(List TExtent)×Int) 85 [(false,[.slice 80]),(false,[.int .i64]),(false,[.int .i64])] true (fun xs=>(((cg (xs.getD 0 []) 0).toSl.map d_TExtent),(cg (xs.getD 1 []) 0).toInt,(cg (xs.getD 2 []) 0).toInt)) (fun a=>[[.slice (List.map e_TExtent a.1)],[.int a.2.1],[.int a.2.2]]) (fun a=>extent_Take n a.1 a.2.1 a.2.2) (fun r=>[.own 0 [.int .i64,.int .i64] 0 r.1.length,.c (.slice 80) (.slice (List.map e_TExtent r.2.1)),.c (.int .i64) (.int r.2.2)]) (fun r=>[.row 80 (List.map e_TExtent r.1)])
theorem cextent_Take (n:Nat):Contract Tryz.prog (xextent_Take n):=by
  have hΓ:=g1 (cextent_Check n) (g1 (cslices_Clone_f118 n) (@g0 (Contract Tryz.prog)))
  refine contract_f (Tryz.f85.body.getD .skip) h00 Tryz.func85 rfl Tryz.call85 (by decide) (by intro h;cases h) ?_
  rintro ⟨free,want,most⟩ r H
  try dsimp only at H
  unfold extent_Take at H
  simp only [Tryz.f85,Option.getD]
  refine rA ?_
  refine Sm.scope ?_
  refine Sm.seqK fun K2 hK2=>?_
  obtain ⟨r1,hr1,H⟩:=bind_some H
  have q:=And.intro @xextent_Check.eq_1 hr1
  refine rAq ?_
  refine cnd H (fun h4 H=>?_) (fun h4 H=>?_)
  · refine rA ?_
    refine Sm.ret ?_
    refine lf ?_
    obtain rfl:=Option.some.inj H
    exact rto [none]
  refine Sm.skip ?_
  refine hK2 _ ?_
  obtain ⟨r2,hr2,H⟩:=bind_some H
  have q:=And.intro @xextent_Check.eq_1 (And.intro @xslices_Clone_f118.eq_1 hr2)
  refine rAq ?_
  refine Sm.seqK fun K7 hK7=>?_
  refine Sm.of (Γ:=[]) h00 mixed (by simp) rfl ?_
  refine hK7 _ ?_
  refine Sm.cut (fun (x:Unit)=>extent_Take_s1) (fun x=>extent_Take_k1 n=some r) ?_ ?_
  · refine Sm.block ?_
    obtain ⟨y9,hy9,Ho9⟩:=bind_some H
    refine Sm.loopB _ (fun x=>extent_Take_t2 most x.1 x.2.1 x.2.2.1 x.2.2.2) hy9 (wb [none,some 384]) ?_
    rintro ⟨want_1,got,rest,rest_1⟩ z9 H
    try dsimp only at H
    unfold extent_Take_b2 at H
    refine Sm.st (extent_Take_t2.eq_1 ..) ?_
    refine Sm.seqK fun K10 hK10=>?_
    refine rA ?_
    refine cnd H (fun h12 H=>?_) (fun h12 H=>?_)
    · refine Sm.skip ?_
      refine hK10 _ ?_
      refine Sm.block ?_
      refine rA ?_
      refine Sm.cut (fun (x:Nat×Int)=>extent_Take_s3 want_1 most got rest x.1 x.2) (fun x=>extent_Take_k3 n want_1 most got rest x.1 x.2=some z9) ?_ ?_
      · refine rA ?_
        refine Sm.block ?_
        obtain ⟨y23,hy23,Ho23⟩:=bind_some H
        refine Sm.loopB _ (fun x=>extent_Take_t4 want_1 most got rest ((rest_1:Nat):Int) x.1 x.2.1 x.2.2) hy23 (wb [some 9003,some 9004]) ?_
        rintro ⟨rest_3,longest_1,v36⟩ z23 H
        try dsimp only at H
        unfold extent_Take_b4 at H
        refine Sm.st (extent_Take_t4.eq_1 ..) ?_
        refine rA ?_
        refine Sm.seqK fun K25 hK25=>?_
        refine cnd H (fun h26 H=>?_) (fun h26 H=>?_)
        · refine Sm.skip ?_
          refine hK25 _ ?_
          refine Sm.cut (fun (x:Int)=>extent_Take_s5 want_1 most got rest rest_3 x ((rest_1:Nat):Int) v36) (fun x=>extent_Take_k5 n want_1 most got rest rest_3 x ((rest_1:Nat):Int) v36=some z23) ?_ ?_
          · refine Sm.block ?_
            obtain ⟨⟨hg47,hg48⟩,H⟩:=gd_some H
            refine rA ?_
            refine Sm.seqK fun K28 hK28=>?_
            refine rA ?_
            refine cnd H (fun h30 H=>?_) (fun h30 H=>?_)
            · obtain ⟨hg36,H⟩:=gd_some H
              refine rA ?_
              obtain ⟨⟨hg34,hg35⟩,H⟩:=gd_some H
              refine rA ?_
              refine rA ?_
              refine Sm.ret ?_
              refine lf ?_
              refine lx H fun hyy=>?_
              subst hyy
              have H:=Ho23
              try dsimp only at H
              refine lf ?_
              refine lx H fun hyy=>?_
              subst hyy
              have H:=Ho9
              try dsimp only at H
              refine lf ?_
              obtain rfl:=Option.some.inj H
              exact rto [some 816]
            refine Sm.skip ?_
            refine hK28 _ ?_
            refine Sm.seqK fun K37 hK37=>?_
            refine rA ?_
            refine cnd H (fun h39 H=>?_) (fun h39 H=>?_)
            · obtain ⟨hg42,H⟩:=gd_some H
              refine rA ?_
              refine sX fun K41 hK41=>?_
              obtain ⟨r4,hr4,H⟩:=bind_some H
              have q:=hr4
              iterate 5 refine oX ?_
              refine oMq (cslices_Delete_f138_M2 n _ _ _ _ r4 hr4) [9012] [] ?_
              iterate 3 refine oXq ?_
              refine hK41 _ ?_
              refine Sm.ret ?_
              refine lf ?_
              refine lx H fun hyy=>?_
              subst hyy
              have H:=Ho23
              try dsimp only at H
              refine lf ?_
              refine lx H fun hyy=>?_
              subst hyy
              have H:=Ho9
              try dsimp only at H
              refine lf ?_
              obtain rfl:=Option.some.inj H
              exact rto [some 1168]
            refine Sm.skip ?_
            refine hK37 _ ?_
            obtain ⟨⟨hg45,hg46⟩,H⟩:=gd_some H
            refine rD ?_
            refine cnd H (fun h44 H=>?_) (fun h44 H=>?_)
            · refine eA ?_
              refine lf ?_
              exact ⟨_,H,wb [some 9011,some 9012]⟩
            refine Sm.skip ?_
            refine lf ?_
            exact ⟨_,H,wb [some 9011,some 9012]⟩
          rintro longest_2 H
          try dsimp only at H
          unfold extent_Take_k5 at H
          refine Sm.st (extent_Take_s5.eq_1 ..) ?_
          refine eA ?_
          refine lf ?_
          exact nx H (wb [some 9013,some 9014])
        refine Sm.exit ?_
        refine lf ?_
        refine lx H fun hyy=>?_
        subst hyy
        have H:=Ho23
        try dsimp only at H
        refine lf ?_
        exact ⟨(rest_3,longest_1),H,wb [some 9011,some 9012]⟩
      rintro ⟨rest_2,longest⟩ H
      try dsimp only at H
      unfold extent_Take_k3 at H
      refine Sm.st (extent_Take_s3.eq_1 ..) ?_
      obtain ⟨⟨hg19,hg20,hg21⟩,H⟩:=gd_some H
      refine rA ?_
      obtain ⟨⟨hg17,hg18⟩,H⟩:=gd_some H
      refine rA ?_
      refine sX fun K16 hK16=>?_
      obtain ⟨r3,hr3,H⟩:=bind_some H
      have q:=hr3
      iterate 4 refine oX ?_
      refine oMq (cslices_Delete_f138_M2 n _ _ _ _ r3 hr3) [9006] [] ?_
      refine oXq ?_
      refine hK16 _ ?_
      refine Sm.exit ?_
      refine lf ?_
      exact nx H (wb [some 1536,some 9006])
    refine Sm.exit ?_
    refine lf ?_
    refine lx H fun hyy=>?_
    subst hyy
    have H:=Ho9
    try dsimp only at H
    refine lf ?_
    exact ⟨(),H,wb []⟩
  rintro ⟨⟩ H
  try dsimp only at H
  unfold extent_Take_k1 at H
  refine Sm.st (extent_Take_s1.eq_1 ..) ?_
  refine rA ?_
  refine Sm.ret ?_
  refine lf ?_
  obtain rfl:=Option.some.inj H
  exact rto [none]
def vtoc_Vtoc__copied_k1 (n:Nat) (v:TVtoc) (l:List TDscb):Option TVtoc :=
  some (⟨v.Serial,v.Cyls,v.Heads,v.Size,l⟩:TVtoc)
def vtoc_Vtoc__copied_b2 (n:Nat) (v:TVtoc) (v16:Int) (l_1:List TDscb) (v17:Int):Option (((List TDscb)×Int) ⊕ (((List TDscb)))) :=
  bif (decide (v17 < v16)) then
    gd ((0≤v17∧v17 < (v.Sets.length:Int))) <|
    (slices_Clone_f118 n ((gt v.Sets (Int.toNat v17)).Extents)).bind fun r1 =>
    gd ((0≤v17∧v17 < (l_1.length:Int))∧(Int.toNat v17) < l_1.length) <|
    some (.inl ((List.set l_1 (Int.toNat v17) (⟨(gt v.Sets (Int.toNat v17)).Name,((gt v.Sets (Int.toNat v17)).Dcb),r1,(gt v.Sets (Int.toNat v17)).Used⟩:TDscb)),(IntKind.wrap .i64 (v17+1))))
  else
    some (.inr l_1)
def vtoc_Vtoc__copied (n:Nat) (v:TVtoc):Option TVtoc :=
  gd ((0≤(v.Sets.length:Int)∧(v.Sets.length:Int)≤(IntKind.wrap .i64 ((v.Sets.length:Int)+1))∧(IntKind.wrap .i64 ((v.Sets.length:Int)+1))≤2147483648)) <|
  (loopF (fun (x:(List TDscb)×Int)=>vtoc_Vtoc__copied_b2 n v (v.Sets.length:Int) x.1 x.2) n ((zreps (Int.toNat (v.Sets.length:Int)) (⟨[],(⟨0,0,false,false,0,0,0,0⟩:TDcb),[],0⟩:TDscb)),0)).bind fun y7 =>
  vtoc_Vtoc__copied_k1 n v y7
abbrev vtoc_Vtoc__copied_R_s1 (v:TVtoc) (l:List TDscb):S:=stB [(1,.box 9000 0),(2,.box 9001 0),(3,.own 9002 [.str,.int .i64,.int .i64,.bool,.bool,.int .i64,.int .i64,.int .i64,.int .i64,.slice 80,.int .i64] 0 l.length)] [(0,.reg),(9000,.box [.c .str (.str v.Serial),.c (.int .i64) (.int v.Cyls),.c (.int .i64) (.int v.Heads),.c (.int .i64) (.int v.Size),.rg 0 (.slice 41) (.slice (List.map e_TDscb v.Sets))]),(9001,.box [.c .str (.str []),.c (.int .i64) (.int 0),.c (.int .i64) (.int 0),.c (.int .i64) (.int 0),.nilsl]),(9002,.row 41 (List.map e_TDscb l))]
abbrev vtoc_Vtoc__copied_R_t2 (v:TVtoc) (v16:Int) (l_1:List TDscb) (v17:Int):S:=stB [(1,.box 9006 0),(2,.box 9007 0),(3,.own 9008 [.str,.int .i64,.int .i64,.bool,.bool,.int .i64,.int .i64,.int .i64,.int .i64,.slice 80,.int .i64] 0 l_1.length),(15,.rg 0 (.slice 41) (.slice (List.map e_TDscb v.Sets))),(16,.c (.int .i64) (.int v16)),(17,.c (.int .i64) (.int v17))] [(0,.reg),(9006,.box [.c .str (.str v.Serial),.c (.int .i64) (.int v.Cyls),.c (.int .i64) (.int v.Heads),.c (.int .i64) (.int v.Size),.rg 0 (.slice 41) (.slice (List.map e_TDscb v.Sets))]),(9007,.box [.c .str (.str []),.c (.int .i64) (.int 0),.c (.int .i64) (.int 0),.c (.int .i64) (.int 0),.nilsl]),(9008,.row 41 (List.map e_TDscb l_1))]
theorem cvtoc_Vtoc__copied_R (n:Nat) (v:TVtoc) (r:TVtoc) (H:vtoc_Vtoc__copied n v=some r):CallsM Tryz.prog 57 [.ref (.agg [.c .str (.str v.Serial),.c (.int .i64) (.int v.Cyls),.c (.int .i64) (.int v.Heads),.c (.int .i64) (.int v.Size),.rg 0 (.slice 41) (.slice (List.map e_TDscb v.Sets))])] [.reg] [.agg [.c .str (.str r.Serial),.c (.int .i64) (.int r.Cyls),.c (.int .i64) (.int r.Heads),.c (.int .i64) (.int r.Size),.own 1 [.str,.int .i64,.int .i64,.bool,.bool,.int .i64,.int .i64,.int .i64,.int .i64,.slice 80,.int .i64] 0 r.Sets.length]] [.reg,.row 41 (List.map e_TDscb r.Sets)]:=by
  have hΓ:=g1 (cslices_Clone_f118 n) (@g0 (Contract Tryz.prog))
  refine callsM_of (Tryz.f57.body.getD .skip) h00 Tryz.func57 rfl Tryz.call57 (Nat.le_of_ble_eq_true rfl) (Nat.le_of_ble_eq_true rfl) ?_
  unfold vtoc_Vtoc__copied at H
  simp only [Tryz.f57,Option.getD]
  refine rA ?_
  refine sX fun K2 hK2=>?_
  obtain ⟨hg3,H⟩:=gd_some H
  iterate 2 refine oX ?_
  refine oE stepRg_ok ?_
  iterate 2 refine oX ?_
  refine oE stepRg_ok ?_
  refine oX ?_
  refine oY ?_
  refine oX ?_
  refine hK2 _ ?_
  refine Sm.cut (fun (x:(List TDscb))=>vtoc_Vtoc__copied_R_s1 v x) (fun x=>vtoc_Vtoc__copied_k1 n v x=some r) ?_ ?_
  · refine sX fun K6 hK6=>?_
    iterate 2 refine oX ?_
    refine oE stepRg_ok ?_
    refine oX ?_
    refine hK6 _ ?_
    refine Sm.block ?_
    obtain ⟨y7,hy7,Ho7⟩:=bind_some H
    refine Sm.loopB _ (fun x=>vtoc_Vtoc__copied_R_t2 v (v.Sets.length:Int) x.1 x.2) hy7 (wb [some 0,some 16,some 32,some 208]) ?_
    rintro ⟨l_1,v17⟩ z7 H
    try dsimp only at H
    unfold vtoc_Vtoc__copied_b2 at H
    refine Sm.st (vtoc_Vtoc__copied_R_t2.eq_1 ..) ?_
    refine rA ?_
    refine Sm.seqK fun K9 hK9=>?_
    refine cnd H (fun h10 H=>?_) (fun h10 H=>?_)
    · refine Sm.skip ?_
      refine hK9 _ ?_
      refine Sm.seqK fun K11 hK11=>?_
      refine Sm.block ?_
      refine sX fun K12 hK12=>?_
      obtain ⟨hg13,H⟩:=gd_some H
      refine oX ?_
      refine oE stepRg_ok ?_
      refine oE stepRg_ok ?_
      iterate 3 refine oX ?_
      refine hK12 _ ?_
      obtain ⟨r1,hr1,H⟩:=bind_some H
      have q:=And.intro @xslices_Clone_f118.eq_1 hr1
      refine rAq ?_
      obtain ⟨⟨hg15,hg16⟩,H⟩:=gd_some H
      refine eA ?_
      refine hK11 _ ?_
      refine eA ?_
      refine lf ?_
      exact nx H (wb [some 0,some 9006,some 9007,some 9008])
    refine Sm.exit ?_
    refine lf ?_
    refine lx H fun hyy=>?_
    subst hyy
    have H:=Ho7
    try dsimp only at H
    refine lf ?_
    exact ⟨_,H,wb [some 0,some 9006,some 9007,some 9008]⟩
  rintro l H
  try dsimp only at H
  unfold vtoc_Vtoc__copied_k1 at H
  refine Sm.st (vtoc_Vtoc__copied_R_s1.eq_1 ..) ?_
  refine rA ?_
  refine rA ?_
  refine Sm.ret ?_
  refine lf ?_
  obtain rfl:=Option.some.inj H
  exact rtM [some 0,some 9002]
def xvtoc_Vtoc__copied (n:Nat):Go.AE.Fn:=mkFn (A:=TVtoc) (R:=TVtoc) 57 [(true,[.str,.int .i64,.int .i64,.int .i64,.slice 41])] false (fun xs=>(⟨(cg (xs.getD 0 []) 0).toStr,(cg (xs.getD 0 []) 1).toInt,(cg (xs.getD 0 []) 2).toInt,(cg (xs.getD 0 []) 3).toInt,((cg (xs.getD 0 []) 4).toSl.map d_TDscb)⟩:TVtoc)) (fun a=>[[.str a.Serial,.int a.Cyls,.int a.Heads,.int a.Size,.slice (List.map e_TDscb a.Sets)]]) (fun a=>vtoc_Vtoc__copied n a) (fun r=>[.agg [.c .str (.str r.Serial),.c (.int .i64) (.int r.Cyls),.c (.int .i64) (.int r.Heads),.c (.int .i64) (.int r.Size),.own 0 [.str,.int .i64,.int .i64,.bool,.bool,.int .i64,.int .i64,.int .i64,.int .i64,.slice 80,.int .i64] 0 r.Sets.length]]) (fun r=>[.row 41 (List.map e_TDscb r.Sets)])
theorem cvtoc_Vtoc__copied (n:Nat):Contract Tryz.prog (xvtoc_Vtoc__copied n):=contract_R Tryz.call57 fun a r h=>⟨_,_,cvtoc_Vtoc__copied_R n a r h,rfl,rfl,rfl,rfl⟩
def vtoc_Create (n:Nat) (v:TVtoc) (d:TDscb) (tracks:Int):Option (TVtoc×Int) :=
  (vtoc_Check n v).bind fun r1 =>
  bif (r1 != 0) then
    some ((⟨[],0,0,0,[]⟩:TVtoc),r1)
  else
    (vtoc_Name n d.Name).bind fun r2 =>
    gd (((!(!r2))=true→(vtoc_described n d.Dcb).isSome=true)) <|
    bif (if (if (!r2)=true then true else (!((vtoc_described n d.Dcb).getD default)))=true then true else (decide (tracks < 1))) then
      some ((⟨[],0,0,0,[]⟩:TVtoc),1)
    else
      (vtoc_Vtoc__index n v d.Name).bind fun r3 =>
      bif r3.2 then
        some ((⟨[],0,0,0,[]⟩:TVtoc),4)
      else
        bif ((v.Sets.length:Int) == (if (IntKind.wrap .i64 (14 * v.Size)) < 64 then (IntKind.wrap .i64 (14 * v.Size)) else 64)) then
          some ((⟨[],0,0,0,[]⟩:TVtoc),7)
        else
          (vtoc_Free n v).bind fun r4 =>
          (extent_Take n r4 tracks 8).bind fun r5 =>
          bif (r5.2.2 != 0) then
            some ((⟨[],0,0,0,[]⟩:TVtoc),r5.2.2)
          else
            (vtoc_Vtoc__copied n v).bind fun r6 =>
            (slices_Insert_h n r6.Sets r3.1 [(⟨d.Name,d.Dcb,r5.1,0⟩:TDscb)]).bind fun r7 =>
            some ((⟨r6.Serial,r6.Cyls,r6.Heads,r6.Size,r7⟩:TVtoc),0)
theorem cvtoc_Create_R (n:Nat) (v:TVtoc) (d:TDscb) (tracks:Int) (r:TVtoc×Int) (H:vtoc_Create n v d tracks=some r):CallsM Tryz.prog 41 [.ref (.agg [.c .str (.str v.Serial),.c (.int .i64) (.int v.Cyls),.c (.int .i64) (.int v.Heads),.c (.int .i64) (.int v.Size),.rg 0 (.slice 41) (.slice (List.map e_TDscb v.Sets))]),.ref (.agg [.c .str (.str d.Name),.c (.int .i64) (.int d.Dcb.Org),.c (.int .i64) (.int d.Dcb.Format),.c .bool (.bool d.Dcb.Blocked),.c .bool (.bool d.Dcb.Asa),.c (.int .i64) (.int d.Dcb.Lrecl),.c (.int .i64) (.int d.Dcb.Blksize),.c (.int .i64) (.int d.Dcb.KeyLen),.c (.int .i64) (.int d.Dcb.KeyPos),.rg 0 (.slice 80) (.slice (List.map e_TExtent d.Extents)),.c (.int .i64) (.int d.Used)]),.dat (false,[.int .i64]) [.int tracks]] [.reg] [.agg [.c .str (.str r.1.Serial),.c (.int .i64) (.int r.1.Cyls),.c (.int .i64) (.int r.1.Heads),.c (.int .i64) (.int r.1.Size),.own 1 [.str,.int .i64,.int .i64,.bool,.bool,.int .i64,.int .i64,.int .i64,.int .i64,.slice 80,.int .i64] 0 r.1.Sets.length],.c (.int .i64) (.int r.2)] [.reg,.row 41 (List.map e_TDscb r.1.Sets)]:=by
  have hΓ:=g1 (cvtoc_Check n) (g1 (cvtoc_Name n) (g1 (cvtoc_described n) (g1 (cvtoc_Vtoc__index n) (g1 (cvtoc_Free n) (g1 (cextent_Take n) (g1 (cvtoc_Vtoc__copied n) (@g0 (Contract Tryz.prog))))))))
  refine callsM_of (Tryz.f41.body.getD .skip) h00 Tryz.func41 rfl Tryz.call41 (Nat.le_of_ble_eq_true rfl) (Nat.le_of_ble_eq_true rfl) ?_
  unfold vtoc_Create at H
  simp only [Tryz.f41,Option.getD]
  refine rA ?_
  refine Sm.seqK fun K2 hK2=>?_
  obtain ⟨r1,hr1,H⟩:=bind_some H
  have q:=And.intro @xvtoc_Check.eq_1 hr1
  refine rAq ?_
  refine rA ?_
  refine cnd H (fun h5 H=>?_) (fun h5 H=>?_)
  · refine rA ?_
    refine Sm.ret ?_
    refine lf ?_
    obtain rfl:=Option.some.inj H
    exact rtM [some 0,none]
  refine Sm.skip ?_
  refine hK2 _ ?_
  refine Sm.seqK fun K7 hK7=>?_
  obtain ⟨r2,hr2,H⟩:=bind_some H
  obtain ⟨hg28,H⟩:=gd_some H
  have q:=And.intro @xvtoc_Check.eq_1 (And.intro @xvtoc_Name.eq_1 (And.intro @xvtoc_described.eq_1 hr2))
  refine rAq ?_
  refine cnd H (fun h9 H=>?_) (fun h9 H=>?_)
  · refine rA ?_
    refine Sm.ret ?_
    refine lf ?_
    obtain rfl:=Option.some.inj H
    exact rtM [some 0,none]
  refine Sm.skip ?_
  refine hK7 _ ?_
  obtain ⟨r3,hr3,H⟩:=bind_some H
  have q:=And.intro @xvtoc_Check.eq_1 (And.intro @xvtoc_Name.eq_1 (And.intro @xvtoc_described.eq_1 (And.intro @xvtoc_Vtoc__index.eq_1 hr3)))
  refine rAq ?_
  refine Sm.seqK fun K12 hK12=>?_
  refine rA ?_
  refine cnd H (fun h14 H=>?_) (fun h14 H=>?_)
  · refine rA ?_
    refine Sm.ret ?_
    refine lf ?_
    obtain rfl:=Option.some.inj H
    exact rtM [some 0,none]
  refine Sm.skip ?_
  refine hK12 _ ?_
  refine Sm.seqK fun K16 hK16=>?_
  refine sX fun K17 hK17=>?_
  iterate 2 refine oX ?_
  refine oE stepRg_ok ?_
  iterate 5 refine oX ?_
  refine hK17 _ ?_
  refine cnd H (fun h18 H=>?_) (fun h18 H=>?_)
  · refine rA ?_
    refine Sm.ret ?_
    refine lf ?_
    obtain rfl:=Option.some.inj H
    exact rtM [some 0,none]
  refine Sm.skip ?_
  refine hK16 _ ?_
  obtain ⟨r4,hr4,H⟩:=bind_some H
  obtain ⟨r5,hr5,H⟩:=bind_some H
  have q:=And.intro @xvtoc_Check.eq_1 (And.intro @xvtoc_Name.eq_1 (And.intro @xvtoc_described.eq_1 (And.intro @xvtoc_Vtoc__index.eq_1 (And.intro @xvtoc_Free.eq_1 (And.intro @xextent_Take.eq_1 (And.intro hr4 hr5))))))
  refine rAq ?_
  refine Sm.seqK fun K21 hK21=>?_
  refine rA ?_
  refine cnd H (fun h23 H=>?_) (fun h23 H=>?_)
  · refine rA ?_
    refine Sm.ret ?_
    refine lf ?_
    obtain rfl:=Option.some.inj H
    exact rtM [some 0,none]
  refine Sm.skip ?_
  refine hK21 _ ?_
  obtain ⟨r6,hr6,H⟩:=bind_some H
  have q:=And.intro @xvtoc_Check.eq_1 (And.intro @xvtoc_Name.eq_1 (And.intro @xvtoc_described.eq_1 (And.intro @xvtoc_Vtoc__index.eq_1 (And.intro @xvtoc_Free.eq_1 (And.intro @xextent_Take.eq_1 (And.intro @xvtoc_Vtoc__copied.eq_1 hr6))))))
  refine rAq ?_
  refine sX fun K26 hK26=>?_
  obtain ⟨r7,hr7,H⟩:=bind_some H
  have q:=hr7
  iterate 10 refine oX ?_
  refine oMq (cslices_Insert_h n _ _ _ r7 hr7) [1072,1232] [1248] ?_
  iterate 2 refine oXq ?_
  refine hK26 _ ?_
  refine rA ?_
  refine Sm.ret ?_
  refine lf ?_
  obtain rfl:=Option.some.inj H
  exact rtM [some 0,some 1248]
def xvtoc_Create (n:Nat):Go.AE.Fn:=mkFn (A:=TVtoc×TDscb×Int) (R:=TVtoc×Int) 41 [(true,[.str,.int .i64,.int .i64,.int .i64,.slice 41]),(true,[.str,.int .i64,.int .i64,.bool,.bool,.int .i64,.int .i64,.int .i64,.int .i64,.slice 80,.int .i64]),(false,[.int .i64])] false (fun xs=>((⟨(cg (xs.getD 0 []) 0).toStr,(cg (xs.getD 0 []) 1).toInt,(cg (xs.getD 0 []) 2).toInt,(cg (xs.getD 0 []) 3).toInt,((cg (xs.getD 0 []) 4).toSl.map d_TDscb)⟩:TVtoc),(⟨(cg (xs.getD 1 []) 0).toStr,(⟨(cg (xs.getD 1 []) 1).toInt,(cg (xs.getD 1 []) 2).toInt,(cg (xs.getD 1 []) 3).toBool,(cg (xs.getD 1 []) 4).toBool,(cg (xs.getD 1 []) 5).toInt,(cg (xs.getD 1 []) 6).toInt,(cg (xs.getD 1 []) 7).toInt,(cg (xs.getD 1 []) 8).toInt⟩:TDcb),((cg (xs.getD 1 []) 9).toSl.map d_TExtent),(cg (xs.getD 1 []) 10).toInt⟩:TDscb),(cg (xs.getD 2 []) 0).toInt)) (fun a=>[[.str a.1.Serial,.int a.1.Cyls,.int a.1.Heads,.int a.1.Size,.slice (List.map e_TDscb a.1.Sets)],[.str a.2.1.Name,.int a.2.1.Dcb.Org,.int a.2.1.Dcb.Format,.bool a.2.1.Dcb.Blocked,.bool a.2.1.Dcb.Asa,.int a.2.1.Dcb.Lrecl,.int a.2.1.Dcb.Blksize,.int a.2.1.Dcb.KeyLen,.int a.2.1.Dcb.KeyPos,.slice (List.map e_TExtent a.2.1.Extents),.int a.2.1.Used],[.int a.2.2]]) (fun a=>vtoc_Create n a.1 a.2.1 a.2.2) (fun r=>[.agg [.c .str (.str r.1.Serial),.c (.int .i64) (.int r.1.Cyls),.c (.int .i64) (.int r.1.Heads),.c (.int .i64) (.int r.1.Size),.own 0 [.str,.int .i64,.int .i64,.bool,.bool,.int .i64,.int .i64,.int .i64,.int .i64,.slice 80,.int .i64] 0 r.1.Sets.length],.c (.int .i64) (.int r.2)]) (fun r=>[.row 41 (List.map e_TDscb r.1.Sets)])
theorem cvtoc_Create (n:Nat):Contract Tryz.prog (xvtoc_Create n):=contract_R Tryz.call41 fun a r h=>⟨_,_,cvtoc_Create_R n a.1 a.2.1 a.2.2 r h,rfl,rfl,rfl,rfl⟩
abbrev law21_extents_s1:S:=stB [] []
def law21_extents_k1 (n:Nat):Option Bool :=
  some true
abbrev law21_extents_t2 (a:List TExtent) (b:List TExtent) (k:Int):S:=stB [(0,.c (.slice 80) (.slice (List.map e_TExtent a))),(1,.c (.slice 80) (.slice (List.map e_TExtent b))),(5,.c (.int .i64) (.int k))] []
def law21_extents_b2 (n:Nat) (a:List TExtent) (b:List TExtent) (k:Int):Option ((Int) ⊕ (((Bool) ⊕ (Unit)))) :=
  bif (decide (k < (a.length:Int))) then
    gd ((0≤k∧k < (a.length:Int))∧(0≤k∧k < (b.length:Int))) <|
    bif (!((((gt a (Int.toNat k)).At) == ((gt b (Int.toNat k)).At)) && (((gt a (Int.toNat k)).Len) == ((gt b (Int.toNat k)).Len)))) then
      some (.inr (.inl false))
    else
      some (.inl (IntKind.wrap .i64 (k+1)))
  else
    some (.inr (.inr ()))
def law21_extents (n:Nat) (a:List TExtent) (b:List TExtent):Option Bool :=
  bif ((a.length:Int) != (b.length:Int)) then
    some false
  else
    (loopF (fun (x:Int)=>law21_extents_b2 n a b x) n 0).bind fun y8 =>
    match y8 with
    | .inl vv =>
      some vv
    | .inr vv =>
      law21_extents_k1 n
def xlaw21_extents (n:Nat):Go.AE.Fn:=mkFn (A:=(List TExtent)×(List TExtent)) (R:=Bool) 49 [(false,[.slice 80]),(false,[.slice 80])] false (fun xs=>(((cg (xs.getD 0 []) 0).toSl.map d_TExtent),((cg (xs.getD 1 []) 0).toSl.map d_TExtent))) (fun a=>[[.slice (List.map e_TExtent a.1)],[.slice (List.map e_TExtent a.2)]]) (fun a=>law21_extents n a.1 a.2) (fun r=>[.c .bool (.bool r)]) (fun r=>[])
theorem claw21_extents (n:Nat):Contract Tryz.prog (xlaw21_extents n):=by
  have hΓ:=@g0 (Contract Tryz.prog)
  refine contract_f (Tryz.f49.body.getD .skip) h00 Tryz.func49 rfl Tryz.call49 (by decide) (by intro _ r;exact ⟨rfl,by simp⟩) ?_
  rintro ⟨a,b⟩ r H
  try dsimp only at H
  unfold law21_extents at H
  simp only [Tryz.f49,Option.getD]
  refine rA ?_
  refine Sm.seqK fun K2 hK2=>?_
  refine rA ?_
  refine cnd H (fun h4 H=>?_) (fun h4 H=>?_)
  · refine rA ?_
    refine Sm.ret ?_
    refine lf ?_
    obtain rfl:=Option.some.inj H
    exact rt []
  refine Sm.skip ?_
  refine hK2 _ ?_
  refine Sm.cut (fun (x:Unit)=>law21_extents_s1) (fun x=>law21_extents_k1 n=some r) ?_ ?_
  · refine rA ?_
    refine Sm.block ?_
    obtain ⟨y8,hy8,Ho8⟩:=bind_some H
    refine Sm.loopB _ (fun x=>law21_extents_t2 a b x) hy8 (wb []) ?_
    rintro k z8 H
    try dsimp only at H
    unfold law21_extents_b2 at H
    refine Sm.st (law21_extents_t2.eq_1 ..) ?_
    refine Sm.seqK fun K9 hK9=>?_
    refine rA ?_
    refine cnd H (fun h11 H=>?_) (fun h11 H=>?_)
    · refine Sm.skip ?_
      refine hK9 _ ?_
      refine Sm.seqK fun K12 hK12=>?_
      refine Sm.block ?_
      obtain ⟨⟨hg16,hg17⟩,H⟩:=gd_some H
      refine rD ?_
      refine cnd H (fun h14 H=>?_) (fun h14 H=>?_)
      · refine rA ?_
        refine Sm.ret ?_
        refine lf ?_
        refine lx H fun hyy=>?_
        subst hyy
        have H:=Ho8
        try dsimp only at H
        refine lf ?_
        obtain rfl:=Option.some.inj H
        exact rt []
      refine Sm.skip ?_
      refine hK12 _ ?_
      refine eA ?_
      refine lf ?_
      exact nx H (wb [])
    refine Sm.exit ?_
    refine lf ?_
    refine lx H fun hyy=>?_
    subst hyy
    have H:=Ho8
    try dsimp only at H
    refine lf ?_
    exact ⟨(),H,wb []⟩
  rintro ⟨⟩ H
  try dsimp only at H
  unfold law21_extents_k1 at H
  refine Sm.st (law21_extents_s1.eq_1 ..) ?_
  refine rA ?_
  refine Sm.ret ?_
  refine lf ?_
  obtain rfl:=Option.some.inj H
  exact rt []
def law21_works (n:Nat):Option Bool :=
  (vtoc_New n [86,49] 4 2 1).bind fun r1 =>
  (law21_plain n).bind fun r2 =>
  (vtoc_Create n (⟨r1.1.Serial,r1.1.Cyls,r1.1.Heads,r1.1.Size,[]⟩:TVtoc) (⟨[65],r2,[],0⟩:TDscb) 3).bind fun r3 =>
  (law21_plain n).bind fun r4 =>
  (vtoc_Create n r3.1 (⟨[66],r4,[],0⟩:TDscb) 2).bind fun r5 =>
  (vtoc_Free n r5.1).bind fun r6 =>
  gd (((if (if (if (r1.2 == 0)=true then (r3.2 == 0) else false)=true then (r5.2 == 0) else false)=true then (((r5.1.Sets.length:Nat):Int) == 2) else false)=true→0 < (r5.1.Sets.length:Int))∧((if (if (if (r1.2 == 0)=true then (r3.2 == 0) else false)=true then (r5.2 == 0) else false)=true then (((r5.1.Sets.length:Nat):Int) == 2) else false)=true→0 < r5.1.Sets.length)) <|
  bif (if (if (if (r1.2 == 0)=true then (r3.2 == 0) else false)=true then (r5.2 == 0) else false)=true then (((r5.1.Sets.length:Nat):Int) == 2) else false) then
    gd ((if (if (if (r1.2 == 0)=true then (r3.2 == 0) else false)=true then (r5.2 == 0) else false)=true then (((r5.1.Sets.length:Nat):Int) == 2) else false)=true∧(if (if (if (r1.2 == 0)=true then (r3.2 == 0) else false)=true then (r5.2 == 0) else false)=true then (((r5.1.Sets.length:Nat):Int) == 2) else false)=true) <|
    (law21_extents n ((gt r5.1.Sets 0).Extents) [(⟨2,3⟩:TExtent)]).bind fun r7 =>
    gd ((r7=true→1 < (r5.1.Sets.length:Int))∧(r7=true→1 < r5.1.Sets.length)) <|
    bif r7 then
      gd (r7=true∧r7=true) <|
      (law21_extents n ((gt r5.1.Sets 1).Extents) [(⟨5,2⟩:TExtent)]).bind fun r8 =>
      bif r8 then
        gd (r8=true∧r8=true) <|
        (law21_extents n r6 [(⟨7,1⟩:TExtent)]).bind fun r9 =>
        some r9
      else
        some false
    else
      some false
  else
    some false
def xlaw21_works (n:Nat):Go.AE.Fn:=mkFn (A:=Unit) (R:=Bool) 14 [] false (fun xs=>()) (fun a=>[]) (fun a=>law21_works n) (fun r=>[.c .bool (.bool r)]) (fun r=>[])
theorem claw21_works (n:Nat):Contract Tryz.prog (xlaw21_works n):=by
  have hΓ:=g1 (cvtoc_New n) (g1 (claw21_plain n) (g1 (cvtoc_Create n) (g1 (cvtoc_Free n) (g1 (claw21_extents n) (@g0 (Contract Tryz.prog))))))
  refine contract_f (Tryz.f14.body.getD .skip) h00 Tryz.func14 rfl Tryz.call14 (by decide) (by intro _ r;exact ⟨rfl,by simp⟩) ?_
  rintro ⟨⟩ r H
  try dsimp only at H
  unfold law21_works at H
  simp only [Tryz.f14,Option.getD]
  refine rA ?_
  obtain ⟨r1,hr1,H⟩:=bind_some H
  have q:=And.intro @xvtoc_New.eq_1 hr1
  refine rAq ?_
  obtain ⟨r2,hr2,H⟩:=bind_some H
  obtain ⟨r3,hr3,H⟩:=bind_some H
  refine sQ [0,1,2,3,4,5,6,7,8] [(none,[16],[]),(none,[],[207,206,205,204,203,202,201,200,199,198,197,196,195,194,193,192]),(none,[],[]),(none,[],[239,238,237,236,235,234,233,232,231,230,229,228,227,226,225,224]),(none,[],[]),(none,[],[]),(none,[],[]),(none,[16,224],[16]),(none,[],[])] fun K3 hK3=>?_
  have q:=And.intro @xvtoc_New.eq_1 (And.intro @xlaw21_plain.eq_1 (And.intro @xvtoc_Create.eq_1 (And.intro @xvtoc_Free.eq_1 (And.intro @xlaw21_extents.eq_1 (And.intro hr2 hr3)))))
  iterate 9 refine oQq ?_
  refine opsQ0 ?_
  refine hK3 _ ?_
  obtain ⟨r4,hr4,H⟩:=bind_some H
  obtain ⟨r5,hr5,H⟩:=bind_some H
  refine sQ [0,1,2,3,4,5,6,7,8] [(none,[16],[]),(none,[],[319,318,317,316,315,314,313,312,311,310,309,308,307,306,305,304]),(none,[],[]),(none,[224],[351,350,349,348,347,346,345,344,343,342,341,340,339,338,337,336,224]),(none,[],[]),(none,[],[]),(none,[],[]),(none,[16,336],[16]),(none,[],[])] fun K4 hK4=>?_
  have q:=And.intro @xvtoc_New.eq_1 (And.intro @xlaw21_plain.eq_1 (And.intro @xvtoc_Create.eq_1 (And.intro @xvtoc_Free.eq_1 (And.intro @xlaw21_extents.eq_1 (And.intro hr4 hr5)))))
  iterate 9 refine oQq ?_
  refine opsQ0 ?_
  refine hK4 _ ?_
  obtain ⟨r6,hr6,H⟩:=bind_some H
  have q:=And.intro @xvtoc_New.eq_1 (And.intro @xlaw21_plain.eq_1 (And.intro @xvtoc_Create.eq_1 (And.intro @xvtoc_Free.eq_1 hr6)))
  refine rAq ?_
  refine sX fun K6 hK6=>?_
  obtain ⟨⟨hg7,hg8⟩,H⟩:=gd_some H
  have q:=And.intro @xvtoc_New.eq_1 (And.intro @xlaw21_plain.eq_1 (And.intro @xvtoc_Create.eq_1 (And.intro @xvtoc_Free.eq_1 @xlaw21_extents.eq_1)))
  iterate 23 refine oXq ?_
  refine bif_cases H (fun hs9 H=>?_) (fun hs9 H=>?_)
  · try simp only [hs9,Bool.not_false,Bool.not_true,Bool.false_eq_true,true_implies,false_implies,forall_const] at hg7
    try simp only [hs9,Bool.not_false,Bool.not_true,Bool.false_eq_true,true_implies,false_implies,forall_const] at hg8
    obtain ⟨⟨hg10,hg11⟩,H⟩:=gd_some H
    obtain ⟨r7,hr7,H⟩:=bind_some H
    obtain ⟨⟨hg12,hg13⟩,H⟩:=gd_some H
    have q:=And.intro @xvtoc_New.eq_1 (And.intro @xlaw21_plain.eq_1 (And.intro @xvtoc_Create.eq_1 (And.intro @xvtoc_Free.eq_1 (And.intro @xlaw21_extents.eq_1 (And.intro hs9 hr7)))))
    refine oTG ?_
    refine oTG ?_
    refine oPl ?_
    iterate 7 refine oXq ?_
    refine bif_cases H (fun hs14 H=>?_) (fun hs14 H=>?_)
    · try simp only [z,seval,hs9,hr7] at hs14
      try simp only [hs14,Bool.not_false,Bool.not_true,Bool.false_eq_true,true_implies,false_implies,forall_const] at hg12
      try simp only [hs14,Bool.not_false,Bool.not_true,Bool.false_eq_true,true_implies,false_implies,forall_const] at hg13
      obtain ⟨⟨hg15,hg16⟩,H⟩:=gd_some H
      obtain ⟨r8,hr8,H⟩:=bind_some H
      have q:=And.intro @xvtoc_New.eq_1 (And.intro @xlaw21_plain.eq_1 (And.intro @xvtoc_Create.eq_1 (And.intro @xvtoc_Free.eq_1 (And.intro @xlaw21_extents.eq_1 (And.intro hs9 (And.intro hr7 (And.intro hs14 hr8)))))))
      refine oTG ?_
      refine oTG ?_
      refine oPl ?_
      iterate 3 refine oXq ?_
      refine bif_cases H (fun hs17 H=>?_) (fun hs17 H=>?_)
      · try simp only [z,seval,hs9,hr7,hs14,hr8] at hs17
        obtain ⟨⟨hg18,hg19⟩,H⟩:=gd_some H
        obtain ⟨r9,hr9,H⟩:=bind_some H
        have q:=And.intro @xvtoc_New.eq_1 (And.intro @xlaw21_plain.eq_1 (And.intro @xvtoc_Create.eq_1 (And.intro @xvtoc_Free.eq_1 (And.intro @xlaw21_extents.eq_1 (And.intro hs9 (And.intro hr7 (And.intro hs14 (And.intro hr8 (And.intro hs17 hr9)))))))))
        refine oTG ?_
        refine oTG ?_
        refine oPl ?_
        refine oXq ?_
        refine hK6 _ ?_
        refine Sm.ret ?_
        refine lf ?_
        obtain rfl:=Option.some.inj H
        exact rt []
      try simp only [z,seval,hs9,hr7,hs14,hr8] at hs17
      have q:=And.intro @xvtoc_New.eq_1 (And.intro @xlaw21_plain.eq_1 (And.intro @xvtoc_Create.eq_1 (And.intro @xvtoc_Free.eq_1 (And.intro @xlaw21_extents.eq_1 (And.intro hs9 (And.intro hr7 (And.intro hs14 (And.intro hr8 hs17))))))))
      refine oFq ?_
      refine oFq ?_
      refine oPr ?_
      refine oXq ?_
      refine hK6 _ ?_
      refine Sm.ret ?_
      refine lf ?_
      obtain rfl:=Option.some.inj H
      exact rt []
    try simp only [z,seval,hs9,hr7] at hs14
    try simp only [hs14,Bool.not_false,Bool.not_true,Bool.false_eq_true,true_implies,false_implies,forall_const] at hg12
    try simp only [hs14,Bool.not_false,Bool.not_true,Bool.false_eq_true,true_implies,false_implies,forall_const] at hg13
    have q:=And.intro @xvtoc_New.eq_1 (And.intro @xlaw21_plain.eq_1 (And.intro @xvtoc_Create.eq_1 (And.intro @xvtoc_Free.eq_1 (And.intro @xlaw21_extents.eq_1 (And.intro hs9 (And.intro hr7 hs14))))))
    refine oFq ?_
    refine oFq ?_
    refine oPr ?_
    refine oXq ?_
    refine oFq ?_
    refine oFq ?_
    refine oFq ?_
    refine oFq ?_
    refine oPr ?_
    refine oXq ?_
    refine hK6 _ ?_
    refine Sm.ret ?_
    refine lf ?_
    obtain rfl:=Option.some.inj H
    exact rt []
  try simp only [hs9,Bool.not_false,Bool.not_true,Bool.false_eq_true,true_implies,false_implies,forall_const] at hg7
  try simp only [hs9,Bool.not_false,Bool.not_true,Bool.false_eq_true,true_implies,false_implies,forall_const] at hg8
  have q:=And.intro @xvtoc_New.eq_1 (And.intro @xlaw21_plain.eq_1 (And.intro @xvtoc_Create.eq_1 (And.intro @xvtoc_Free.eq_1 (And.intro @xlaw21_extents.eq_1 hs9))))
  refine oFq ?_
  refine oFq ?_
  refine oPr ?_
  refine oXq ?_
  refine oFq ?_
  refine oFq ?_
  refine oFq ?_
  refine oFq ?_
  refine oFq ?_
  refine oFq ?_
  refine oFq ?_
  refine oFq ?_
  refine oPr ?_
  refine oXq ?_
  refine oFq ?_
  refine oFq ?_
  refine oFq ?_
  refine oFq ?_
  refine oPr ?_
  refine oXq ?_
  refine hK6 _ ?_
  refine Sm.ret ?_
  refine lf ?_
  obtain rfl:=Option.some.inj H
  exact rt []
abbrev law21_light_s1 (v:TVtoc):S:=stB [(1,.box 9000 0)] [(9000,.box [.c .str (.str v.Serial),.c (.int .i64) (.int v.Cyls),.c (.int .i64) (.int v.Heads),.c (.int .i64) (.int v.Size),.c (.slice 41) (.slice (List.map e_TDscb v.Sets))])]
def law21_light_k1 (n:Nat) (v:TVtoc):Option Bool :=
  some (if (decide ((v.Sets.length:Int)≤70))=true then (decide ((v.Serial.length:Int)≤100)) else false)
abbrev law21_light_t2 (v:TVtoc) (k:Int):S:=stB [(1,.box 9002 0),(3,.c (.int .i64) (.int k))] [(9002,.box [.c .str (.str v.Serial),.c (.int .i64) (.int v.Cyls),.c (.int .i64) (.int v.Heads),.c (.int .i64) (.int v.Size),.c (.slice 41) (.slice (List.map e_TDscb v.Sets))])]
def law21_light_b2 (n:Nat) (v:TVtoc) (k:Int):Option ((Int) ⊕ (((Bool) ⊕ (Unit)))) :=
  bif (decide (k < (v.Sets.length:Int))) then
    gd ((0≤k∧k < (v.Sets.length:Int))∧((!(decide ((((gt v.Sets (Int.toNat k)).Name).length:Int) > 100)))=true→(0≤k∧k < (v.Sets.length:Int)))) <|
    bif (if (decide ((((gt v.Sets (Int.toNat k)).Name).length:Int) > 100))=true then true else (decide ((((gt v.Sets (Int.toNat k)).Extents).length:Int) > 20))) then
      some (.inr (.inl false))
    else
      some (.inl (IntKind.wrap .i64 (k+1)))
  else
    some (.inr (.inr ()))
def law21_light (n:Nat) (v:TVtoc):Option Bool :=
  (loopF (fun (x:Int)=>law21_light_b2 n v x) n 0).bind fun y4 =>
  match y4 with
  | .inl vv =>
    some vv
  | .inr vv =>
    law21_light_k1 n v
def xlaw21_light (n:Nat):Go.AE.Fn:=mkFn (A:=TVtoc) (R:=Bool) 21 [(true,[.str,.int .i64,.int .i64,.int .i64,.slice 41])] false (fun xs=>(⟨(cg (xs.getD 0 []) 0).toStr,(cg (xs.getD 0 []) 1).toInt,(cg (xs.getD 0 []) 2).toInt,(cg (xs.getD 0 []) 3).toInt,((cg (xs.getD 0 []) 4).toSl.map d_TDscb)⟩:TVtoc)) (fun a=>[[.str a.Serial,.int a.Cyls,.int a.Heads,.int a.Size,.slice (List.map e_TDscb a.Sets)]]) (fun a=>law21_light n a) (fun r=>[.c .bool (.bool r)]) (fun r=>[])
theorem claw21_light (n:Nat):Contract Tryz.prog (xlaw21_light n):=by
  have hΓ:=@g0 (Contract Tryz.prog)
  refine contract_f (Tryz.f21.body.getD .skip) h00 Tryz.func21 rfl Tryz.call21 (by decide) (by intro _ r;exact ⟨rfl,by simp⟩) ?_
  rintro v r H
  try dsimp only at H
  unfold law21_light at H
  simp only [Tryz.f21,Option.getD]
  refine rA ?_
  refine Sm.cut (fun (x:Unit)=>law21_light_s1 v) (fun x=>law21_light_k1 n v=some r) ?_ ?_
  · refine rA ?_
    refine Sm.block ?_
    obtain ⟨y4,hy4,Ho4⟩:=bind_some H
    refine Sm.loopB _ (fun x=>law21_light_t2 v x) hy4 (wb [some 16]) ?_
    rintro k z4 H
    try dsimp only at H
    unfold law21_light_b2 at H
    refine Sm.st (law21_light_t2.eq_1 ..) ?_
    refine Sm.seqK fun K5 hK5=>?_
    refine rA ?_
    refine cnd H (fun h7 H=>?_) (fun h7 H=>?_)
    · refine Sm.skip ?_
      refine hK5 _ ?_
      refine Sm.seqK fun K8 hK8=>?_
      refine Sm.block ?_
      obtain ⟨⟨hg12,hg13⟩,H⟩:=gd_some H
      refine rA ?_
      refine cnd H (fun h10 H=>?_) (fun h10 H=>?_)
      · refine rA ?_
        refine Sm.ret ?_
        refine lf ?_
        refine lx H fun hyy=>?_
        subst hyy
        have H:=Ho4
        try dsimp only at H
        refine lf ?_
        obtain rfl:=Option.some.inj H
        exact rt []
      refine Sm.skip ?_
      refine hK8 _ ?_
      refine eA ?_
      refine lf ?_
      exact nx H (wb [some 9002])
    refine Sm.exit ?_
    refine lf ?_
    refine lx H fun hyy=>?_
    subst hyy
    have H:=Ho4
    try dsimp only at H
    refine lf ?_
    exact ⟨(),H,wb [some 9002]⟩
  rintro ⟨⟩ H
  try dsimp only at H
  unfold law21_light_k1 at H
  refine Sm.st (law21_light_s1.eq_1 ..) ?_
  refine rA ?_
  refine Sm.ret ?_
  refine lf ?_
  obtain rfl:=Option.some.inj H
  exact rt []
def law21_ref_k1 (n:Nat) (v:TVtoc) (w:List TDscb):Option TVtoc :=
  some (⟨v.Serial,v.Cyls,v.Heads,v.Size,w⟩:TVtoc)
def law21_ref_b2 (n:Nat) (v:TVtoc) (w_1:List TDscb) (k:Int):Option (((List TDscb)×Int) ⊕ (((List TDscb)))) :=
  bif (decide (k < (v.Sets.length:Int))) then
    gd ((0≤k∧k < (v.Sets.length:Int))) <|
    gd (((gt v.Sets (Int.toNat k)).Extents).length≤2147483648) <|
    gd ((w_1.length+1)≤2147483648) <|
    some (.inl ((w_1 ++ [(gt v.Sets (Int.toNat k))]),(IntKind.wrap .i64 (k+1))))
  else
    some (.inr w_1)
def law21_ref (n:Nat) (v:TVtoc):Option TVtoc :=
  (loopF (fun (x:(List TDscb)×Int)=>law21_ref_b2 n v x.1 x.2) n ([],0)).bind fun y5 =>
  law21_ref_k1 n v y5
abbrev law21_ref_R_s1 (v:TVtoc) (w:List TDscb):S:=stB [(2,.box 9000 0),(3,.box 9001 0)] [(0,.reg),(9000,.box [.c .str (.str []),.c (.int .i64) (.int 0),.c (.int .i64) (.int 0),.c (.int .i64) (.int 0),.nilsl]),(9001,.box [.c .str (.str v.Serial),.c (.int .i64) (.int v.Cyls),.c (.int .i64) (.int v.Heads),.c (.int .i64) (.int v.Size),.own 9002 [.str,.int .i64,.int .i64,.bool,.bool,.int .i64,.int .i64,.int .i64,.int .i64,.slice 80,.int .i64] 0 w.length]),(9002,.row 41 (List.map e_TDscb w))]
abbrev law21_ref_R_t2 (v:TVtoc) (w_1:List TDscb) (k:Int):S:=stB [(1,.box 9010 0),(2,.box 9011 0),(3,.box 9012 0),(4,.c (.int .i64) (.int k))] [(0,.reg),(9010,.box [.c .str (.str v.Serial),.c (.int .i64) (.int v.Cyls),.c (.int .i64) (.int v.Heads),.c (.int .i64) (.int v.Size),.rg 0 (.slice 41) (.slice (List.map e_TDscb v.Sets))]),(9011,.box [.c .str (.str []),.c (.int .i64) (.int 0),.c (.int .i64) (.int 0),.c (.int .i64) (.int 0),.nilsl]),(9012,.box [.c .str (.str v.Serial),.c (.int .i64) (.int v.Cyls),.c (.int .i64) (.int v.Heads),.c (.int .i64) (.int v.Size),.own 9013 [.str,.int .i64,.int .i64,.bool,.bool,.int .i64,.int .i64,.int .i64,.int .i64,.slice 80,.int .i64] 0 w_1.length]),(9013,.row 41 (List.map e_TDscb w_1))]
theorem claw21_ref_R (n:Nat) (v:TVtoc) (r:TVtoc) (H:law21_ref n v=some r):CallsM Tryz.prog 20 [.ref (.agg [.c .str (.str v.Serial),.c (.int .i64) (.int v.Cyls),.c (.int .i64) (.int v.Heads),.c (.int .i64) (.int v.Size),.rg 0 (.slice 41) (.slice (List.map e_TDscb v.Sets))])] [.reg] [.agg [.c .str (.str r.Serial),.c (.int .i64) (.int r.Cyls),.c (.int .i64) (.int r.Heads),.c (.int .i64) (.int r.Size),.own 1 [.str,.int .i64,.int .i64,.bool,.bool,.int .i64,.int .i64,.int .i64,.int .i64,.slice 80,.int .i64] 0 r.Sets.length]] [.reg,.row 41 (List.map e_TDscb r.Sets)]:=by
  have hΓ:=@g0 (Contract Tryz.prog)
  refine callsM_of (Tryz.f20.body.getD .skip) h00 Tryz.func20 rfl Tryz.call20 (Nat.le_of_ble_eq_true rfl) (Nat.le_of_ble_eq_true rfl) ?_
  unfold law21_ref at H
  simp only [Tryz.f20,Option.getD]
  refine rA ?_
  refine rA ?_
  refine Sm.cut (fun (x:(List TDscb))=>law21_ref_R_s1 v x) (fun x=>law21_ref_k1 n v x=some r) ?_ ?_
  · refine rA ?_
    refine Sm.block ?_
    obtain ⟨y5,hy5,Ho5⟩:=bind_some H
    refine Sm.loopB _ (fun x=>law21_ref_R_t2 v x.1 x.2) hy5 (wb [some 0,some 16,some 32,some 48,none]) ?_
    rintro ⟨w_1,k⟩ z5 H
    try dsimp only at H
    unfold law21_ref_b2 at H
    refine Sm.st (law21_ref_R_t2.eq_1 ..) ?_
    refine Sm.seqK fun K6 hK6=>?_
    refine sX fun K7 hK7=>?_
    iterate 3 refine oX ?_
    refine oE stepRg_ok ?_
    refine oX ?_
    refine hK7 _ ?_
    refine cnd H (fun h8 H=>?_) (fun h8 H=>?_)
    · refine Sm.skip ?_
      refine hK6 _ ?_
      refine Sm.seqK fun K9 hK9=>?_
      refine Sm.block ?_
      refine sX fun K10 hK10=>?_
      obtain ⟨hg11,H⟩:=gd_some H
      iterate 3 refine oX ?_
      refine oE stepRg_ok ?_
      refine oE stepRg_ok ?_
      iterate 2 refine oX ?_
      refine hK10 _ ?_
      obtain ⟨hg14,H⟩:=gd_some H
      refine rA ?_
      obtain ⟨hg13,H⟩:=gd_some H
      refine eA ?_
      refine hK9 _ ?_
      refine eA ?_
      refine lf ?_
      exact nx H (wb [some 0,some 9010,some 9011,some 9012,some 576])
    refine Sm.exit ?_
    refine lf ?_
    refine lx H fun hyy=>?_
    subst hyy
    have H:=Ho5
    try dsimp only at H
    refine lf ?_
    exact ⟨_,H,wb [some 0,some 9011,some 9012,some 9013]⟩
  rintro w H
  try dsimp only at H
  unfold law21_ref_k1 at H
  refine Sm.st (law21_ref_R_s1.eq_1 ..) ?_
  refine rA ?_
  refine Sm.ret ?_
  refine lf ?_
  obtain rfl:=Option.some.inj H
  exact rtM [some 0,some 9002]
def xlaw21_ref (n:Nat):Go.AE.Fn:=mkFn (A:=TVtoc) (R:=TVtoc) 20 [(true,[.str,.int .i64,.int .i64,.int .i64,.slice 41])] false (fun xs=>(⟨(cg (xs.getD 0 []) 0).toStr,(cg (xs.getD 0 []) 1).toInt,(cg (xs.getD 0 []) 2).toInt,(cg (xs.getD 0 []) 3).toInt,((cg (xs.getD 0 []) 4).toSl.map d_TDscb)⟩:TVtoc)) (fun a=>[[.str a.Serial,.int a.Cyls,.int a.Heads,.int a.Size,.slice (List.map e_TDscb a.Sets)]]) (fun a=>law21_ref n a) (fun r=>[.agg [.c .str (.str r.Serial),.c (.int .i64) (.int r.Cyls),.c (.int .i64) (.int r.Heads),.c (.int .i64) (.int r.Size),.own 0 [.str,.int .i64,.int .i64,.bool,.bool,.int .i64,.int .i64,.int .i64,.int .i64,.slice 80,.int .i64] 0 r.Sets.length]]) (fun r=>[.row 41 (List.map e_TDscb r.Sets)])
theorem claw21_ref (n:Nat):Contract Tryz.prog (xlaw21_ref n):=contract_R Tryz.call20 fun a r h=>⟨_,_,claw21_ref_R n a r h,rfl,rfl,rfl,rfl⟩
def vtoc_Find (n:Nat) (v:TVtoc) (name:List UInt8):Option (TDscb×Bool) :=
  (vtoc_Vtoc__index n v name).bind fun r1 =>
  (vtoc_Check n v).bind fun r2 =>
  bif (if (r2 != 0)=true then true else (!r1.2)) then
    some ((⟨[],(⟨0,0,false,false,0,0,0,0⟩:TDcb),[],0⟩:TDscb),false)
  else
    (vtoc_Vtoc__copied n v).bind fun r3 =>
    gd ((0≤r1.1∧r1.1 < (r3.Sets.length:Int))∧(Int.toNat r1.1) < r3.Sets.length) <|
    some ((gt r3.Sets (Int.toNat r1.1)),true)
theorem cvtoc_Find_R (n:Nat) (v:TVtoc) (name:List UInt8) (r:TDscb×Bool) (H:vtoc_Find n v name=some r):CallsM Tryz.prog 22 [.ref (.agg [.c .str (.str v.Serial),.c (.int .i64) (.int v.Cyls),.c (.int .i64) (.int v.Heads),.c (.int .i64) (.int v.Size),.rg 0 (.slice 41) (.slice (List.map e_TDscb v.Sets))]),.dat (false,[.str]) [.str name]] [.reg] [.agg [.c .str (.str r.1.Name),.c (.int .i64) (.int r.1.Dcb.Org),.c (.int .i64) (.int r.1.Dcb.Format),.c .bool (.bool r.1.Dcb.Blocked),.c .bool (.bool r.1.Dcb.Asa),.c (.int .i64) (.int r.1.Dcb.Lrecl),.c (.int .i64) (.int r.1.Dcb.Blksize),.c (.int .i64) (.int r.1.Dcb.KeyLen),.c (.int .i64) (.int r.1.Dcb.KeyPos),.c (.slice 80) (.slice (List.map e_TExtent r.1.Extents)),.c (.int .i64) (.int r.1.Used)],.c .bool (.bool r.2)] [.reg]:=by
  have hΓ:=g1 (cvtoc_Vtoc__index n) (g1 (cvtoc_Check n) (g1 (cvtoc_Vtoc__copied n) (@g0 (Contract Tryz.prog))))
  refine callsM_of (Tryz.f22.body.getD .skip) h00 Tryz.func22 rfl Tryz.call22 (Nat.le_of_ble_eq_true rfl) (Nat.le_of_ble_eq_true rfl) ?_
  unfold vtoc_Find at H
  simp only [Tryz.f22,Option.getD]
  refine rA ?_
  obtain ⟨r1,hr1,H⟩:=bind_some H
  have q:=And.intro @xvtoc_Vtoc__index.eq_1 hr1
  refine rAq ?_
  refine Sm.seqK fun K3 hK3=>?_
  obtain ⟨r2,hr2,H⟩:=bind_some H
  have q:=And.intro @xvtoc_Vtoc__index.eq_1 (And.intro @xvtoc_Check.eq_1 hr2)
  refine rAq ?_
  refine cnd H (fun h5 H=>?_) (fun h5 H=>?_)
  · refine rA ?_
    refine Sm.ret ?_
    refine lf ?_
    obtain rfl:=Option.some.inj H
    exact rtM [some 0]
  refine Sm.skip ?_
  refine hK3 _ ?_
  refine sX fun K7 hK7=>?_
  obtain ⟨r3,hr3,H⟩:=bind_some H
  obtain ⟨⟨hg8,hg9⟩,H⟩:=gd_some H
  have q:=And.intro @xvtoc_Vtoc__index.eq_1 (And.intro @xvtoc_Check.eq_1 (And.intro @xvtoc_Vtoc__copied.eq_1 hr3))
  iterate 2 refine oXq ?_
  refine oE stepFd_ok ?_ (by intro K hK;simp only [z,seval,q,stepFd,fieldV];(repeat first | refine gcI ?_ | intro (_:_≤_));exact hK)
  iterate 5 refine oXq ?_
  refine hK7 _ ?_
  refine Sm.ret ?_
  refine lf ?_
  obtain rfl:=Option.some.inj H
  exact rtM [some 0]
def ref21_letter (n:Nat) (c:Int):Option Bool :=
  some (if (decide (c ≥ 65))=true then (decide (c≤90)) else false)
def xref21_letter (n:Nat):Go.AE.Fn:=mkFn (A:=Int) (R:=Bool) 114 [(false,[.int .u8])] false (fun xs=>(cg (xs.getD 0 []) 0).toInt) (fun a=>[[.int a]]) (fun a=>ref21_letter n a) (fun r=>[.c .bool (.bool r)]) (fun r=>[])
theorem cref21_letter (n:Nat):Contract Tryz.prog (xref21_letter n):=by
  have hΓ:=@g0 (Contract Tryz.prog)
  refine contract_f (Tryz.f114.body.getD .skip) h00 Tryz.func114 rfl Tryz.call114 (by decide) (by intro _ r;exact ⟨rfl,by simp⟩) ?_
  rintro c r H
  try dsimp only at H
  unfold ref21_letter at H
  simp only [Tryz.f114,Option.getD]
  refine rA ?_
  refine rA ?_
  refine Sm.ret ?_
  refine lf ?_
  obtain rfl:=Option.some.inj H
  exact rt []
def ref21_digit (n:Nat) (c:Int):Option Bool :=
  some (if (decide (c ≥ 48))=true then (decide (c≤57)) else false)
def xref21_digit (n:Nat):Go.AE.Fn:=mkFn (A:=Int) (R:=Bool) 115 [(false,[.int .u8])] false (fun xs=>(cg (xs.getD 0 []) 0).toInt) (fun a=>[[.int a]]) (fun a=>ref21_digit n a) (fun r=>[.c .bool (.bool r)]) (fun r=>[])
theorem cref21_digit (n:Nat):Contract Tryz.prog (xref21_digit n):=by
  have hΓ:=@g0 (Contract Tryz.prog)
  refine contract_f (Tryz.f115.body.getD .skip) h00 Tryz.func115 rfl Tryz.call115 (by decide) (by intro _ r;exact ⟨rfl,by simp⟩) ?_
  rintro c r H
  try dsimp only at H
  unfold ref21_digit at H
  simp only [Tryz.f115,Option.getD]
  refine rA ?_
  refine rA ?_
  refine Sm.ret ?_
  refine lf ?_
  obtain rfl:=Option.some.inj H
  exact rt []
def ref21_in (n:Nat) (n_:Int) (lo:Int) (hi:Int):Option Bool :=
  some (if (decide (n_ ≥ lo))=true then (decide (n_≤hi)) else false)
def xref21_in (n:Nat):Go.AE.Fn:=mkFn (A:=Int×Int×Int) (R:=Bool) 71 [(false,[.int .i64]),(false,[.int .i64]),(false,[.int .i64])] false (fun xs=>((cg (xs.getD 0 []) 0).toInt,(cg (xs.getD 1 []) 0).toInt,(cg (xs.getD 2 []) 0).toInt)) (fun a=>[[.int a.1],[.int a.2.1],[.int a.2.2]]) (fun a=>ref21_in n a.1 a.2.1 a.2.2) (fun r=>[.c .bool (.bool r)]) (fun r=>[])
theorem cref21_in (n:Nat):Contract Tryz.prog (xref21_in n):=by
  have hΓ:=@g0 (Contract Tryz.prog)
  refine contract_f (Tryz.f71.body.getD .skip) h00 Tryz.func71 rfl Tryz.call71 (by decide) (by intro _ r;exact ⟨rfl,by simp⟩) ?_
  rintro ⟨n_,lo,hi⟩ r H
  try dsimp only at H
  unfold ref21_in at H
  simp only [Tryz.f71,Option.getD]
  refine rA ?_
  refine rA ?_
  refine Sm.ret ?_
  refine lf ?_
  obtain rfl:=Option.some.inj H
  exact rt []
abbrev ref21_serial_s1 (s:List UInt8):S:=stB [(0,.c .str (.str s))] []
def ref21_serial_k1 (n:Nat) (s:List UInt8):Option Bool :=
  (ref21_in n (s.length:Int) 1 6).bind fun r1 =>
  some r1
abbrev ref21_serial_t2 (s:List UInt8) (i:Int):S:=stB [(0,.c .str (.str s)),(3,.c (.int .i64) (.int i))] []
def ref21_serial_b2 (n:Nat) (s:List UInt8) (i:Int):Option ((Int) ⊕ (((Bool) ⊕ (Unit)))) :=
  bif (decide (i < (s.length:Int))) then
    gd ((0≤i∧i < (s.length:Int))) <|
    (ref21_letter n (((s.getD (Int.toNat i) 0).toNat:Nat):Int)).bind fun r2 =>
    gd (((!r2)=true→(0≤i∧i < (s.length:Int)))∧((!r2)=true→(ref21_digit n (((s.getD (Int.toNat i) 0).toNat:Nat):Int)).isSome=true)) <|
    bif (if (!r2)=true then (!((ref21_digit n (((s.getD (Int.toNat i) 0).toNat:Nat):Int)).getD default)) else false) then
      some (.inr (.inl false))
    else
      some (.inl (IntKind.wrap .i64 (i+1)))
  else
    some (.inr (.inr ()))
def ref21_serial (n:Nat) (s:List UInt8):Option Bool :=
  (loopF (fun (x:Int)=>ref21_serial_b2 n s x) n 0).bind fun y4 =>
  match y4 with
  | .inl vv =>
    some vv
  | .inr vv =>
    ref21_serial_k1 n s
def xref21_serial (n:Nat):Go.AE.Fn:=mkFn (A:=(List UInt8)) (R:=Bool) 70 [(false,[.str])] false (fun xs=>(cg (xs.getD 0 []) 0).toStr) (fun a=>[[.str a]]) (fun a=>ref21_serial n a) (fun r=>[.c .bool (.bool r)]) (fun r=>[])
theorem cref21_serial (n:Nat):Contract Tryz.prog (xref21_serial n):=by
  have hΓ:=g1 (cref21_letter n) (g1 (cref21_digit n) (g1 (cref21_in n) (@g0 (Contract Tryz.prog))))
  refine contract_f (Tryz.f70.body.getD .skip) h00 Tryz.func70 rfl Tryz.call70 (by decide) (by intro _ r;exact ⟨rfl,by simp⟩) ?_
  rintro s r H
  try dsimp only at H
  unfold ref21_serial at H
  simp only [Tryz.f70,Option.getD]
  refine rA ?_
  refine Sm.cut (fun (x:Unit)=>ref21_serial_s1 s) (fun x=>ref21_serial_k1 n s=some r) ?_ ?_
  · refine rA ?_
    refine Sm.block ?_
    obtain ⟨y4,hy4,Ho4⟩:=bind_some H
    refine Sm.loopB _ (fun x=>ref21_serial_t2 s x) hy4 (wb []) ?_
    rintro i z4 H
    try dsimp only at H
    unfold ref21_serial_b2 at H
    refine Sm.st (ref21_serial_t2.eq_1 ..) ?_
    refine Sm.seqK fun K5 hK5=>?_
    refine rA ?_
    refine cnd H (fun h7 H=>?_) (fun h7 H=>?_)
    · refine Sm.skip ?_
      refine hK5 _ ?_
      refine Sm.seqK fun K8 hK8=>?_
      refine Sm.block ?_
      obtain ⟨hg12,H⟩:=gd_some H
      obtain ⟨r2,hr2,H⟩:=bind_some H
      obtain ⟨⟨hg13,hg14⟩,H⟩:=gd_some H
      have q:=And.intro @xref21_letter.eq_1 (And.intro @xref21_digit.eq_1 hr2)
      refine rAq ?_
      refine cnd H (fun h10 H=>?_) (fun h10 H=>?_)
      · refine rA ?_
        refine Sm.ret ?_
        refine lf ?_
        refine lx H fun hyy=>?_
        subst hyy
        have H:=Ho4
        try dsimp only at H
        refine lf ?_
        obtain rfl:=Option.some.inj H
        exact rt []
      refine Sm.skip ?_
      refine hK8 _ ?_
      refine eA ?_
      refine lf ?_
      exact nx H (wb [])
    refine Sm.exit ?_
    refine lf ?_
    refine lx H fun hyy=>?_
    subst hyy
    have H:=Ho4
    try dsimp only at H
    refine lf ?_
    exact ⟨(),H,wb []⟩
  rintro ⟨⟩ H
  try dsimp only at H
  unfold ref21_serial_k1 at H
  refine Sm.st (ref21_serial_s1.eq_1 ..) ?_
  obtain ⟨r1,hr1,H⟩:=bind_some H
  have q:=And.intro @xref21_letter.eq_1 (And.intro @xref21_digit.eq_1 (And.intro @xref21_in.eq_1 hr1))
  refine rAq ?_
  refine Sm.ret ?_
  refine lf ?_
  obtain rfl:=Option.some.inj H
  exact rt []
abbrev ref21_simple_s1 (s:List UInt8):S:=stB [(0,.c .str (.str s))] []
def ref21_simple_k1 (n:Nat) (s:List UInt8):Option Bool :=
  some (if (decide ((s.length:Int) ≥ 1))=true then (decide ((s.length:Int)≤8)) else false)
abbrev ref21_simple_t2 (s:List UInt8) (i:Int):S:=stB [(0,.c .str (.str s)),(3,.c (.int .i64) (.int i))] []
def ref21_simple_b2 (n:Nat) (s:List UInt8) (i:Int):Option ((Int) ⊕ (((Bool) ⊕ (Unit)))) :=
  bif (decide (i < (s.length:Int))) then
    gd ((0≤i∧i < (s.length:Int))∧((!((((s.getD (Int.toNat i) 0).toNat:Nat):Int) == 64))=true→(0≤i∧i < (s.length:Int)))∧((!(if ((((s.getD (Int.toNat i) 0).toNat:Nat):Int) == 64)=true then true else ((((s.getD (Int.toNat i) 0).toNat:Nat):Int) == 35)))=true→(0≤i∧i < (s.length:Int)))) <|
    gd ((0≤i∧i < (s.length:Int))) <|
    (ref21_letter n (((s.getD (Int.toNat i) 0).toNat:Nat):Int)).bind fun r1 =>
    gd ((((if (!r1)=true then (!(if (if ((((s.getD (Int.toNat i) 0).toNat:Nat):Int) == 64)=true then true else ((((s.getD (Int.toNat i) 0).toNat:Nat):Int) == 35))=true then true else ((((s.getD (Int.toNat i) 0).toNat:Nat):Int) == 36))) else false) && (!(i == 0)))=true→(0≤i∧i < (s.length:Int)))∧(((if (!r1)=true then (!(if (if ((((s.getD (Int.toNat i) 0).toNat:Nat):Int) == 64)=true then true else ((((s.getD (Int.toNat i) 0).toNat:Nat):Int) == 35))=true then true else ((((s.getD (Int.toNat i) 0).toNat:Nat):Int) == 36))) else false) && (!(i == 0)))=true→(ref21_digit n (((s.getD (Int.toNat i) 0).toNat:Nat):Int)).isSome=true)∧(((if (!r1)=true then (!(if (if ((((s.getD (Int.toNat i) 0).toNat:Nat):Int) == 64)=true then true else ((((s.getD (Int.toNat i) 0).toNat:Nat):Int) == 35))=true then true else ((((s.getD (Int.toNat i) 0).toNat:Nat):Int) == 36))) else false) && !(i == 0))=true→((if (!r1)=true then (!(if (if ((((s.getD (Int.toNat i) 0).toNat:Nat):Int) == 64)=true then true else ((((s.getD (Int.toNat i) 0).toNat:Nat):Int) == 35))=true then true else ((((s.getD (Int.toNat i) 0).toNat:Nat):Int) == 36))) else false) && (!(i == 0)))=true)) <|
    bif (if (if (!r1)=true then (!(if (if ((((s.getD (Int.toNat i) 0).toNat:Nat):Int) == 64)=true then true else ((((s.getD (Int.toNat i) 0).toNat:Nat):Int) == 35))=true then true else ((((s.getD (Int.toNat i) 0).toNat:Nat):Int) == 36))) else false)=true then (if (i == 0)=true then true else (!((ref21_digit n (((s.getD (Int.toNat i) 0).toNat:Nat):Int)).getD default))) else false) then
      some (.inr (.inl false))
    else
      some (.inl (IntKind.wrap .i64 (i+1)))
  else
    some (.inr (.inr ()))
def ref21_simple (n:Nat) (s:List UInt8):Option Bool :=
  (loopF (fun (x:Int)=>ref21_simple_b2 n s x) n 0).bind fun y4 =>
  match y4 with
  | .inl vv =>
    some vv
  | .inr vv =>
    ref21_simple_k1 n s
def xref21_simple (n:Nat):Go.AE.Fn:=mkFn (A:=(List UInt8)) (R:=Bool) 55 [(false,[.str])] false (fun xs=>(cg (xs.getD 0 []) 0).toStr) (fun a=>[[.str a]]) (fun a=>ref21_simple n a) (fun r=>[.c .bool (.bool r)]) (fun r=>[])
theorem cref21_simple (n:Nat):Contract Tryz.prog (xref21_simple n):=by
  have hΓ:=g1 (cref21_letter n) (g1 (cref21_digit n) (@g0 (Contract Tryz.prog)))
  refine contract_f (Tryz.f55.body.getD .skip) h00 Tryz.func55 rfl Tryz.call55 (by decide) (by intro _ r;exact ⟨rfl,by simp⟩) ?_
  rintro s r H
  try dsimp only at H
  unfold ref21_simple at H
  simp only [Tryz.f55,Option.getD]
  refine rA ?_
  refine Sm.cut (fun (x:Unit)=>ref21_simple_s1 s) (fun x=>ref21_simple_k1 n s=some r) ?_ ?_
  · refine rA ?_
    refine Sm.block ?_
    obtain ⟨y4,hy4,Ho4⟩:=bind_some H
    refine Sm.loopB _ (fun x=>ref21_simple_t2 s x) hy4 (wb []) ?_
    rintro i z4 H
    try dsimp only at H
    unfold ref21_simple_b2 at H
    refine Sm.st (ref21_simple_t2.eq_1 ..) ?_
    refine Sm.seqK fun K5 hK5=>?_
    refine rA ?_
    refine cnd H (fun h7 H=>?_) (fun h7 H=>?_)
    · refine Sm.skip ?_
      refine hK5 _ ?_
      refine Sm.seqK fun K8 hK8=>?_
      refine Sm.block ?_
      obtain ⟨⟨hg17,hg18,hg19⟩,H⟩:=gd_some H
      refine rA ?_
      obtain ⟨hg13,H⟩:=gd_some H
      obtain ⟨r1,hr1,H⟩:=bind_some H
      obtain ⟨⟨hg14,hg15,hg16⟩,H⟩:=gd_some H
      have q:=And.intro @xref21_letter.eq_1 (And.intro @xref21_digit.eq_1 hr1)
      refine rAq ?_
      refine cnd H (fun h11 H=>?_) (fun h11 H=>?_)
      · refine rA ?_
        refine Sm.ret ?_
        refine lf ?_
        refine lx H fun hyy=>?_
        subst hyy
        have H:=Ho4
        try dsimp only at H
        refine lf ?_
        obtain rfl:=Option.some.inj H
        exact rt []
      refine Sm.skip ?_
      refine hK8 _ ?_
      refine eA ?_
      refine lf ?_
      exact nx H (wb [])
    refine Sm.exit ?_
    refine lf ?_
    refine lx H fun hyy=>?_
    subst hyy
    have H:=Ho4
    try dsimp only at H
    refine lf ?_
    exact ⟨(),H,wb []⟩
  rintro ⟨⟩ H
  try dsimp only at H
  unfold ref21_simple_k1 at H
  refine Sm.st (ref21_simple_s1.eq_1 ..) ?_
  refine rA ?_
  refine Sm.ret ?_
  refine lf ?_
  obtain rfl:=Option.some.inj H
  exact rt []
abbrev ref21_Name_s1 (s:List UInt8):S:=stB [(0,.c .str (.str s))] []
def ref21_Name_k1 (n:Nat) (s:List UInt8):Option Bool :=
  some (decide ((s.length:Int)≤44))
abbrev ref21_Name_s3 (s:List UInt8) (from__1:Int) (i:Int):S:=stB [(0,.c .str (.str s)),(3,.c (.int .i64) (.int from__1)),(4,.c (.int .i64) (.int i))] []
def ref21_Name_k3 (n:Nat) (s:List UInt8) (from__1:Int) (i:Int):Option ((Int×Int) ⊕ (((Bool) ⊕ (Unit)))) :=
  some (.inl (from__1,(IntKind.wrap .i64 (i+1))))
abbrev ref21_Name_t2 (s:List UInt8) (from_:Int) (i:Int):S:=stB [(0,.c .str (.str s)),(3,.c (.int .i64) (.int from_)),(4,.c (.int .i64) (.int i))] []
def ref21_Name_b2 (n:Nat) (s:List UInt8) (from_:Int) (i:Int):Option ((Int×Int) ⊕ (((Bool) ⊕ (Unit)))) :=
  bif (decide (i≤(s.length:Int))) then
    gd (((!(i == (s.length:Int)))=true→(0≤i∧i < (s.length:Int)))) <|
    bif (if (i == (s.length:Int))=true then true else ((((s.getD (Int.toNat i) 0).toNat:Nat):Int) == 46)) then
      gd ((0≤from_∧from_≤i∧i≤(s.length:Int))) <|
      (ref21_simple n (List.drop (Int.toNat from_) (List.take (Int.toNat i) s))).bind fun r1 =>
      bif (!r1) then
        some (.inr (.inl false))
      else
        ref21_Name_k3 n s (IntKind.wrap .i64 (i+1)) i
    else
      ref21_Name_k3 n s from_ i
  else
    some (.inr (.inr ()))
def ref21_Name (n:Nat) (s:List UInt8):Option Bool :=
  (loopF (fun (x:Int×Int)=>ref21_Name_b2 n s x.1 x.2) n (0,0)).bind fun y5 =>
  match y5 with
  | .inl vv =>
    some vv
  | .inr vv =>
    ref21_Name_k1 n s
def xref21_Name (n:Nat):Go.AE.Fn:=mkFn (A:=(List UInt8)) (R:=Bool) 18 [(false,[.str])] false (fun xs=>(cg (xs.getD 0 []) 0).toStr) (fun a=>[[.str a]]) (fun a=>ref21_Name n a) (fun r=>[.c .bool (.bool r)]) (fun r=>[])
theorem cref21_Name (n:Nat):Contract Tryz.prog (xref21_Name n):=by
  have hΓ:=g1 (cref21_simple n) (@g0 (Contract Tryz.prog))
  refine contract_f (Tryz.f18.body.getD .skip) h00 Tryz.func18 rfl Tryz.call18 (by decide) (by intro _ r;exact ⟨rfl,by simp⟩) ?_
  rintro s r H
  try dsimp only at H
  unfold ref21_Name at H
  simp only [Tryz.f18,Option.getD]
  refine rA ?_
  refine rA ?_
  refine Sm.cut (fun (x:Unit)=>ref21_Name_s1 s) (fun x=>ref21_Name_k1 n s=some r) ?_ ?_
  · refine rA ?_
    refine Sm.block ?_
    obtain ⟨y5,hy5,Ho5⟩:=bind_some H
    refine Sm.loopB _ (fun x=>ref21_Name_t2 s x.1 x.2) hy5 (wb []) ?_
    rintro ⟨from_,i⟩ z5 H
    try dsimp only at H
    unfold ref21_Name_b2 at H
    refine Sm.st (ref21_Name_t2.eq_1 ..) ?_
    refine Sm.seqK fun K6 hK6=>?_
    refine rA ?_
    refine cnd H (fun h8 H=>?_) (fun h8 H=>?_)
    · refine Sm.skip ?_
      refine hK6 _ ?_
      refine Sm.cut (fun (x:Int)=>ref21_Name_s3 s x i) (fun x=>ref21_Name_k3 n s x i=some z5) ?_ ?_
      · refine Sm.block ?_
        obtain ⟨hg16,H⟩:=gd_some H
        refine rA ?_
        refine cnd H (fun h10 H=>?_) (fun h10 H=>?_)
        · refine Sm.seqK fun K11 hK11=>?_
          obtain ⟨hg15,H⟩:=gd_some H
          obtain ⟨r1,hr1,H⟩:=bind_some H
          have q:=And.intro @xref21_simple.eq_1 hr1
          refine rAq ?_
          refine cnd H (fun h13 H=>?_) (fun h13 H=>?_)
          · refine rA ?_
            refine Sm.ret ?_
            refine lf ?_
            refine lx H fun hyy=>?_
            subst hyy
            have H:=Ho5
            try dsimp only at H
            refine lf ?_
            obtain rfl:=Option.some.inj H
            exact rt []
          refine Sm.skip ?_
          refine hK11 _ ?_
          refine eA ?_
          refine lf ?_
          exact ⟨_,H,wb []⟩
        refine Sm.skip ?_
        refine lf ?_
        exact ⟨_,H,wb []⟩
      rintro from__1 H
      try dsimp only at H
      unfold ref21_Name_k3 at H
      refine Sm.st (ref21_Name_s3.eq_1 ..) ?_
      refine eA ?_
      refine lf ?_
      exact nx H (wb [])
    refine Sm.exit ?_
    refine lf ?_
    refine lx H fun hyy=>?_
    subst hyy
    have H:=Ho5
    try dsimp only at H
    refine lf ?_
    exact ⟨(),H,wb []⟩
  rintro ⟨⟩ H
  try dsimp only at H
  unfold ref21_Name_k1 at H
  refine Sm.st (ref21_Name_s1.eq_1 ..) ?_
  refine rA ?_
  refine Sm.ret ?_
  refine lf ?_
  obtain rfl:=Option.some.inj H
  exact rt []
def ref21_Described (n:Nat) (d:TDcb):Option Bool :=
  (ref21_in n d.Org 1 3).bind fun r1 =>
  gd ((r1=true→(ref21_in n d.Format 1 3).isSome=true)∧((if r1=true then ((ref21_in n d.Format 1 3).getD default) else false)=true→(ref21_in n d.Lrecl 0 1024).isSome=true)∧((if (if r1=true then ((ref21_in n d.Format 1 3).getD default) else false)=true then ((ref21_in n d.Lrecl 0 1024).getD default) else false)=true→(ref21_in n d.Blksize 0 1024).isSome=true)∧((if (if (if r1=true then ((ref21_in n d.Format 1 3).getD default) else false)=true then ((ref21_in n d.Lrecl 0 1024).getD default) else false)=true then ((ref21_in n d.Blksize 0 1024).getD default) else false)=true→(ref21_in n d.KeyPos 0 1024).isSome=true)∧((if (if (if (if r1=true then ((ref21_in n d.Format 1 3).getD default) else false)=true then ((ref21_in n d.Lrecl 0 1024).getD default) else false)=true then ((ref21_in n d.Blksize 0 1024).getD default) else false)=true then ((ref21_in n d.KeyPos 0 1024).getD default) else false)=true→(ref21_in n d.KeyLen 0 64).isSome=true)) <|
  some (if (if (if (if (if r1=true then ((ref21_in n d.Format 1 3).getD default) else false)=true then ((ref21_in n d.Lrecl 0 1024).getD default) else false)=true then ((ref21_in n d.Blksize 0 1024).getD default) else false)=true then ((ref21_in n d.KeyPos 0 1024).getD default) else false)=true then ((ref21_in n d.KeyLen 0 64).getD default) else false)
def xref21_Described (n:Nat):Go.AE.Fn:=mkFn (A:=TDcb) (R:=Bool) 127 [(true,[.int .i64,.int .i64,.bool,.bool,.int .i64,.int .i64,.int .i64,.int .i64])] false (fun xs=>(⟨(cg (xs.getD 0 []) 0).toInt,(cg (xs.getD 0 []) 1).toInt,(cg (xs.getD 0 []) 2).toBool,(cg (xs.getD 0 []) 3).toBool,(cg (xs.getD 0 []) 4).toInt,(cg (xs.getD 0 []) 5).toInt,(cg (xs.getD 0 []) 6).toInt,(cg (xs.getD 0 []) 7).toInt⟩:TDcb)) (fun a=>[[.int a.Org,.int a.Format,.bool a.Blocked,.bool a.Asa,.int a.Lrecl,.int a.Blksize,.int a.KeyLen,.int a.KeyPos]]) (fun a=>ref21_Described n a) (fun r=>[.c .bool (.bool r)]) (fun r=>[])
theorem cref21_Described (n:Nat):Contract Tryz.prog (xref21_Described n):=by
  have hΓ:=g1 (cref21_in n) (@g0 (Contract Tryz.prog))
  refine contract_f (Tryz.f127.body.getD .skip) h00 Tryz.func127 rfl Tryz.call127 (by decide) (by intro _ r;exact ⟨rfl,by simp⟩) ?_
  rintro d r H
  try dsimp only at H
  unfold ref21_Described at H
  simp only [Tryz.f127,Option.getD]
  refine rA ?_
  obtain ⟨r1,hr1,H⟩:=bind_some H
  obtain ⟨⟨hg3,hg4,hg5,hg6,hg7⟩,H⟩:=gd_some H
  have q:=And.intro @xref21_in.eq_1 hr1
  refine rAq ?_
  refine Sm.ret ?_
  refine lf ?_
  obtain rfl:=Option.some.inj H
  exact rt []
def ref20_one (n:Nat) (x_:TExtent):Option Bool :=
  some (if (if (if (decide (x_.At ≥ 0))=true then (decide (x_.Len ≥ 1)) else false)=true then (decide (x_.At < 512)) else false)=true then (decide (x_.Len≤(IntKind.wrap .i64 (512 - x_.At)))) else false)
def xref20_one (n:Nat):Go.AE.Fn:=mkFn (A:=TExtent) (R:=Bool) 161 [(true,[.int .i64,.int .i64])] false (fun xs=>(⟨(cg (xs.getD 0 []) 0).toInt,(cg (xs.getD 0 []) 1).toInt⟩:TExtent)) (fun a=>[[.int a.At,.int a.Len]]) (fun a=>ref20_one n a) (fun r=>[.c .bool (.bool r)]) (fun r=>[])
theorem cref20_one (n:Nat):Contract Tryz.prog (xref20_one n):=by
  have hΓ:=@g0 (Contract Tryz.prog)
  refine contract_f (Tryz.f161.body.getD .skip) h00 Tryz.func161 rfl Tryz.call161 (by decide) (by intro _ r;exact ⟨rfl,by simp⟩) ?_
  rintro x_ r H
  try dsimp only at H
  unfold ref20_one at H
  simp only [Tryz.f161,Option.getD]
  refine rA ?_
  refine rA ?_
  refine Sm.ret ?_
  refine lf ?_
  obtain rfl:=Option.some.inj H
  exact rt []
abbrev ref20_Tracks_s1 (out:List Int):S:=stB [(5,.own 9000 [.int .i64] 0 out.length)] [(9000,.row 3 (List.map e_Int out))]
def ref20_Tracks_k1 (n:Nat) (out:List Int):Option ((List Int)×Bool) :=
  some (out,true)
abbrev ref20_Tracks_s3 (l:List TExtent) (seen_1:List Bool) (out_2:List Int) (i:Int):S:=stB [(0,.c (.slice 80) (.slice (List.map e_TExtent l))),(4,.elt 9006 1 [.bool] 0 0),(5,.own 9007 [.int .i64] 0 out_2.length),(6,.c (.int .i64) (.int i))] [(9006,.row 4 (List.map e_Bool seen_1)),(9007,.row 3 (List.map e_Int out_2))]
def ref20_Tracks_k3 (n:Nat) (l:List TExtent) (seen_1:List Bool) (out_2:List Int) (i:Int):Option (((List Bool)×(List Int)×Int) ⊕ ((((List Int)×Bool) ⊕ ((List Int))))) :=
  some (.inl (seen_1,out_2,(IntKind.wrap .i64 (i+1))))
abbrev ref20_Tracks_t4 (l:List TExtent) (i:Int) (seen_2:List Bool) (out_3:List Int) (k:Int):S:=stB [(0,.c (.slice 80) (.slice (List.map e_TExtent l))),(4,.elt 9010 1 [.bool] 0 0),(5,.own 9011 [.int .i64] 0 out_3.length),(6,.c (.int .i64) (.int i)),(7,.c (.int .i64) (.int k))] [(9010,.row 4 (List.map e_Bool seen_2)),(9011,.row 3 (List.map e_Int out_3))]
def ref20_Tracks_b4 (n:Nat) (l:List TExtent) (i:Int) (seen_2:List Bool) (out_3:List Int) (k:Int):Option (((List Bool)×(List Int)×Int) ⊕ ((((List Int)×Bool) ⊕ ((List Bool)×(List Int))))) :=
  gd ((0≤i∧i < (l.length:Int))∧(0≤i∧i < (l.length:Int))) <|
  bif (decide (k < (IntKind.wrap .i64 (((gt l (Int.toNat i)).At)+((gt l (Int.toNat i)).Len))))) then
    gd ((0≤k∧k < 512∧seen_2.length=512)∧(Int.toNat k) < seen_2.length) <|
    bif (gt seen_2 (Int.toNat k)) then
      some (.inr (.inl ([],false)))
    else
      gd ((0≤k∧k < 512∧seen_2.length=512)∧(Int.toNat k) < seen_2.length) <|
      gd ((out_3.length+1)≤2147483648) <|
      some (.inl ((List.set seen_2 (Int.toNat k) true),(out_3 ++ [k]),(IntKind.wrap .i64 (k+1))))
  else
    some (.inr (.inr (seen_2,out_3)))
abbrev ref20_Tracks_t2 (l:List TExtent) (seen:List Bool) (out_1:List Int) (i:Int):S:=stB [(0,.c (.slice 80) (.slice (List.map e_TExtent l))),(4,.elt 9004 1 [.bool] 0 0),(5,.own 9005 [.int .i64] 0 out_1.length),(6,.c (.int .i64) (.int i))] [(9004,.row 4 (List.map e_Bool seen)),(9005,.row 3 (List.map e_Int out_1))]
def ref20_Tracks_b2 (n:Nat) (l:List TExtent) (seen:List Bool) (out_1:List Int) (i:Int):Option (((List Bool)×(List Int)×Int) ⊕ ((((List Int)×Bool) ⊕ ((List Int))))) :=
  bif (decide (i < (l.length:Int))) then
    gd ((0≤i∧i < (l.length:Int))) <|
    (ref20_one n (gt l (Int.toNat i))).bind fun r1 =>
    bif (!r1) then
      some (.inr (.inl ([],false)))
    else
      gd ((0≤i∧i < (l.length:Int))) <|
      (loopF (fun (x:(List Bool)×(List Int)×Int)=>ref20_Tracks_b4 n l i x.1 x.2.1 x.2.2) n (seen,out_1,(gt l (Int.toNat i)).At)).bind fun y15 =>
      match y15 with
      | .inl vv =>
        some (.inr (.inl (vv.1,vv.2)))
      | .inr vv =>
        ref20_Tracks_k3 n l vv.1 vv.2 i
  else
    some (.inr (.inr out_1))
def ref20_Tracks (n:Nat) (l:List TExtent):Option ((List Int)×Bool) :=
  (loopF (fun (x:(List Bool)×(List Int)×Int)=>ref20_Tracks_b2 n l x.1 x.2.1 x.2.2) n ((zreps 512 false),[],0)).bind fun y6 =>
  match y6 with
  | .inl vv =>
    some (vv.1,vv.2)
  | .inr vv =>
    ref20_Tracks_k1 n vv
def xref20_Tracks (n:Nat):Go.AE.Fn:=mkFn (A:=(List TExtent)) (R:=(List Int)×Bool) 120 [(false,[.slice 80])] false (fun xs=>((cg (xs.getD 0 []) 0).toSl.map d_TExtent)) (fun a=>[[.slice (List.map e_TExtent a)]]) (fun a=>ref20_Tracks n a) (fun r=>[.own 0 [.int .i64] 0 r.1.length,.c .bool (.bool r.2)]) (fun r=>[.row 3 (List.map e_Int r.1)])
theorem cref20_Tracks (n:Nat):Contract Tryz.prog (xref20_Tracks n):=by
  have hΓ:=g1 (cref20_one n) (@g0 (Contract Tryz.prog))
  refine contract_f (Tryz.f120.body.getD .skip) h00 Tryz.func120 rfl Tryz.call120 (by decide) (fun _ r=>⟨rfl,m1 ⟨3,_,_,rfl,ty3,rfl⟩ m0⟩) ?_
  rintro l r H
  try dsimp only at H
  unfold ref20_Tracks at H
  simp only [Tryz.f120,Option.getD]
  refine rA ?_
  refine sX fun K2 hK2=>?_
  refine oY ?_
  refine hK2 _ ?_
  refine rA ?_
  refine Sm.cut (fun (x:(List Int))=>ref20_Tracks_s1 x) (fun x=>ref20_Tracks_k1 n x=some r) ?_ ?_
  · refine rA ?_
    refine Sm.block ?_
    obtain ⟨y6,hy6,Ho6⟩:=bind_some H
    refine Sm.loopB _ (fun x=>ref20_Tracks_t2 l x.1 x.2.1 x.2.2) hy6 (wb [some 64,none]) ?_
    rintro ⟨seen,out_1,i⟩ z6 H
    try dsimp only at H
    unfold ref20_Tracks_b2 at H
    refine Sm.st (ref20_Tracks_t2.eq_1 ..) ?_
    refine Sm.seqK fun K7 hK7=>?_
    refine rA ?_
    refine cnd H (fun h9 H=>?_) (fun h9 H=>?_)
    · refine Sm.skip ?_
      refine hK7 _ ?_
      refine Sm.cut (fun (x:(List Bool)×(List Int))=>ref20_Tracks_s3 l x.1 x.2 i) (fun x=>ref20_Tracks_k3 n l x.1 x.2 i=some z6) ?_ ?_
      · refine Sm.block ?_
        refine Sm.seqK fun K10 hK10=>?_
        obtain ⟨hg33,H⟩:=gd_some H
        obtain ⟨r1,hr1,H⟩:=bind_some H
        have q:=And.intro @xref20_one.eq_1 hr1
        refine rAq ?_
        refine cnd H (fun h12 H=>?_) (fun h12 H=>?_)
        · refine rA ?_
          refine Sm.ret ?_
          refine lf ?_
          refine lx H fun hyy=>?_
          subst hyy
          have H:=Ho6
          try dsimp only at H
          refine lf ?_
          obtain rfl:=Option.some.inj H
          exact rto [none]
        refine Sm.skip ?_
        refine hK10 _ ?_
        obtain ⟨hg32,H⟩:=gd_some H
        refine rA ?_
        refine Sm.block ?_
        obtain ⟨y15,hy15,Ho15⟩:=bind_some H
        refine Sm.loopB _ (fun x=>ref20_Tracks_t4 l i x.1 x.2.1 x.2.2) hy15 (wb [some 9004,some 9005]) ?_
        rintro ⟨seen_2,out_3,k⟩ z15 H
        try dsimp only at H
        unfold ref20_Tracks_b4 at H
        refine Sm.st (ref20_Tracks_t4.eq_1 ..) ?_
        refine Sm.seqK fun K16 hK16=>?_
        obtain ⟨⟨hg30,hg31⟩,H⟩:=gd_some H
        refine rD ?_
        refine cnd H (fun h18 H=>?_) (fun h18 H=>?_)
        · refine Sm.skip ?_
          refine hK16 _ ?_
          refine Sm.seqK fun K19 hK19=>?_
          refine Sm.block ?_
          refine Sm.seqK fun K20 hK20=>?_
          obtain ⟨⟨hg28,hg29⟩,H⟩:=gd_some H
          refine rA ?_
          refine cnd H (fun h22 H=>?_) (fun h22 H=>?_)
          · refine rA ?_
            refine Sm.ret ?_
            refine lf ?_
            refine lx H fun hyy=>?_
            subst hyy
            have H:=Ho15
            try dsimp only at H
            refine lf ?_
            refine lx H fun hyy=>?_
            subst hyy
            have H:=Ho6
            try dsimp only at H
            refine lf ?_
            obtain rfl:=Option.some.inj H
            exact rto [none]
          refine Sm.skip ?_
          refine hK20 _ ?_
          obtain ⟨⟨hg26,hg27⟩,H⟩:=gd_some H
          refine rA ?_
          obtain ⟨hg25,H⟩:=gd_some H
          refine eA ?_
          refine hK19 _ ?_
          refine eA ?_
          refine lf ?_
          exact nx H (wb [some 9010,some 768])
        refine Sm.exit ?_
        refine lf ?_
        refine lx H fun hyy=>?_
        subst hyy
        have H:=Ho15
        try dsimp only at H
        refine lf ?_
        exact ⟨(seen_2,out_3),H,wb [some 9010,some 9011]⟩
      rintro ⟨seen_1,out_2⟩ H
      try dsimp only at H
      unfold ref20_Tracks_k3 at H
      refine Sm.st (ref20_Tracks_s3.eq_1 ..) ?_
      refine eA ?_
      refine lf ?_
      exact nx H (wb [some 9006,some 9007])
    refine Sm.exit ?_
    refine lf ?_
    refine lx H fun hyy=>?_
    subst hyy
    have H:=Ho6
    try dsimp only at H
    refine lf ?_
    exact ⟨_,H,wb [some 9005]⟩
  rintro out H
  try dsimp only at H
  unfold ref20_Tracks_k1 at H
  refine Sm.st (ref20_Tracks_s1.eq_1 ..) ?_
  refine rA ?_
  refine Sm.ret ?_
  refine lf ?_
  obtain rfl:=Option.some.inj H
  exact rto [some 9000]
def ref20_Valid (n:Nat) (l:List TExtent):Option Bool :=
  (ref20_Tracks n l).bind fun r1 =>
  some r1.2
def xref20_Valid (n:Nat):Go.AE.Fn:=mkFn (A:=(List TExtent)) (R:=Bool) 73 [(false,[.slice 80])] false (fun xs=>((cg (xs.getD 0 []) 0).toSl.map d_TExtent)) (fun a=>[[.slice (List.map e_TExtent a)]]) (fun a=>ref20_Valid n a) (fun r=>[.c .bool (.bool r)]) (fun r=>[])
theorem cref20_Valid (n:Nat):Contract Tryz.prog (xref20_Valid n):=by
  have hΓ:=g1 (cref20_Tracks n) (@g0 (Contract Tryz.prog))
  refine contract_f (Tryz.f73.body.getD .skip) h00 Tryz.func73 rfl Tryz.call73 (by decide) (by intro _ r;exact ⟨rfl,by simp⟩) ?_
  rintro l r H
  try dsimp only at H
  unfold ref20_Valid at H
  simp only [Tryz.f73,Option.getD]
  refine rA ?_
  obtain ⟨r1,hr1,H⟩:=bind_some H
  have q:=And.intro @xref20_Tracks.eq_1 hr1
  refine rAq ?_
  refine rA ?_
  refine Sm.ret ?_
  refine lf ?_
  obtain rfl:=Option.some.inj H
  exact rt []
def ref20_Total (n:Nat) (l:List TExtent):Option Int :=
  (ref20_Tracks n l).bind fun r1 =>
  some ((r1.1.length:Nat):Int)
def xref20_Total (n:Nat):Go.AE.Fn:=mkFn (A:=(List TExtent)) (R:=Int) 128 [(false,[.slice 80])] false (fun xs=>((cg (xs.getD 0 []) 0).toSl.map d_TExtent)) (fun a=>[[.slice (List.map e_TExtent a)]]) (fun a=>ref20_Total n a) (fun r=>[.c (.int .i64) (.int r)]) (fun r=>[])
theorem cref20_Total (n:Nat):Contract Tryz.prog (xref20_Total n):=by
  have hΓ:=g1 (cref20_Tracks n) (@g0 (Contract Tryz.prog))
  refine contract_f (Tryz.f128.body.getD .skip) h00 Tryz.func128 rfl Tryz.call128 (by decide) (by intro _ r;exact ⟨rfl,by simp⟩) ?_
  rintro l r H
  try dsimp only at H
  unfold ref20_Total at H
  simp only [Tryz.f128,Option.getD]
  refine rA ?_
  obtain ⟨r1,hr1,H⟩:=bind_some H
  have q:=And.intro @xref20_Tracks.eq_1 hr1
  refine rAq ?_
  refine rA ?_
  refine Sm.ret ?_
  refine lf ?_
  obtain rfl:=Option.some.inj H
  exact rt []
abbrev ref21_label_s1 (d:TDscb):S:=stB [(3,.box 9000 0)] [(9000,.box [.c .str (.str d.Name),.c (.int .i64) (.int d.Dcb.Org),.c (.int .i64) (.int d.Dcb.Format),.c .bool (.bool d.Dcb.Blocked),.c .bool (.bool d.Dcb.Asa),.c (.int .i64) (.int d.Dcb.Lrecl),.c (.int .i64) (.int d.Dcb.Blksize),.c (.int .i64) (.int d.Dcb.KeyLen),.c (.int .i64) (.int d.Dcb.KeyPos),.c (.slice 80) (.slice (List.map e_TExtent d.Extents)),.c (.int .i64) (.int d.Used)])]
def ref21_label_k1 (n:Nat) (d:TDscb):Option Bool :=
  (ref21_Name n d.Name).bind fun r1 =>
  gd ((r1=true→(ref21_Described n d.Dcb).isSome=true)∧((if r1=true then ((ref21_Described n d.Dcb).getD default) else false)=true→(ref21_in n (d.Extents.length:Int) 1 8).isSome=true)∧((if (if r1=true then ((ref21_Described n d.Dcb).getD default) else false)=true then ((ref21_in n (d.Extents.length:Int) 1 8).getD default) else false)=true→(ref20_Valid n d.Extents).isSome=true)∧((if (if (if r1=true then ((ref21_Described n d.Dcb).getD default) else false)=true then ((ref21_in n (d.Extents.length:Int) 1 8).getD default) else false)=true then ((ref20_Valid n d.Extents).getD default) else false)=true→(ref20_Total n d.Extents).isSome=true)∧((if (if (if r1=true then ((ref21_Described n d.Dcb).getD default) else false)=true then ((ref21_in n (d.Extents.length:Int) 1 8).getD default) else false)=true then ((ref20_Valid n d.Extents).getD default) else false)=true→(ref21_in n d.Used 0 ((ref20_Total n d.Extents).getD default)).isSome=true)) <|
  some (if (if (if (if r1=true then ((ref21_Described n d.Dcb).getD default) else false)=true then ((ref21_in n (d.Extents.length:Int) 1 8).getD default) else false)=true then ((ref20_Valid n d.Extents).getD default) else false)=true then ((ref21_in n d.Used 0 ((ref20_Total n d.Extents).getD default)).getD default) else false)
abbrev ref21_label_t2 (v:TVtoc) (d:TDscb) (k:Int):S:=stB [(2,.box 9003 0),(3,.box 9004 0),(5,.c (.int .i64) (.int k))] [(9003,.box [.c .str (.str v.Serial),.c (.int .i64) (.int v.Cyls),.c (.int .i64) (.int v.Heads),.c (.int .i64) (.int v.Size),.c (.slice 41) (.slice (List.map e_TDscb v.Sets))]),(9004,.box [.c .str (.str d.Name),.c (.int .i64) (.int d.Dcb.Org),.c (.int .i64) (.int d.Dcb.Format),.c .bool (.bool d.Dcb.Blocked),.c .bool (.bool d.Dcb.Asa),.c (.int .i64) (.int d.Dcb.Lrecl),.c (.int .i64) (.int d.Dcb.Blksize),.c (.int .i64) (.int d.Dcb.KeyLen),.c (.int .i64) (.int d.Dcb.KeyPos),.c (.slice 80) (.slice (List.map e_TExtent d.Extents)),.c (.int .i64) (.int d.Used)])]
def ref21_label_b2 (n:Nat) (v:TVtoc) (d:TDscb) (k:Int):Option ((Int) ⊕ (((Bool) ⊕ (Unit)))) :=
  bif (decide (k < (d.Extents.length:Int))) then
    gd ((0≤k∧k < (d.Extents.length:Int))) <|
    bif (if (decide (((gt d.Extents (Int.toNat k)).At)≤v.Size))=true then true else (decide ((IntKind.wrap .i64 (((gt d.Extents (Int.toNat k)).At)+((gt d.Extents (Int.toNat k)).Len))) > (IntKind.wrap .i64 (v.Cyls * v.Heads))))) then
      some (.inr (.inl false))
    else
      some (.inl (IntKind.wrap .i64 (k+1)))
  else
    some (.inr (.inr ()))
def ref21_label (n:Nat) (v:TVtoc) (d:TDscb):Option Bool :=
  (loopF (fun (x:Int)=>ref21_label_b2 n v d x) n 0).bind fun y9 =>
  match y9 with
  | .inl vv =>
    some vv
  | .inr vv =>
    ref21_label_k1 n d
def xref21_label (n:Nat):Go.AE.Fn:=mkFn (A:=TVtoc×TDscb) (R:=Bool) 72 [(true,[.str,.int .i64,.int .i64,.int .i64,.slice 41]),(true,[.str,.int .i64,.int .i64,.bool,.bool,.int .i64,.int .i64,.int .i64,.int .i64,.slice 80,.int .i64])] false (fun xs=>((⟨(cg (xs.getD 0 []) 0).toStr,(cg (xs.getD 0 []) 1).toInt,(cg (xs.getD 0 []) 2).toInt,(cg (xs.getD 0 []) 3).toInt,((cg (xs.getD 0 []) 4).toSl.map d_TDscb)⟩:TVtoc),(⟨(cg (xs.getD 1 []) 0).toStr,(⟨(cg (xs.getD 1 []) 1).toInt,(cg (xs.getD 1 []) 2).toInt,(cg (xs.getD 1 []) 3).toBool,(cg (xs.getD 1 []) 4).toBool,(cg (xs.getD 1 []) 5).toInt,(cg (xs.getD 1 []) 6).toInt,(cg (xs.getD 1 []) 7).toInt,(cg (xs.getD 1 []) 8).toInt⟩:TDcb),((cg (xs.getD 1 []) 9).toSl.map d_TExtent),(cg (xs.getD 1 []) 10).toInt⟩:TDscb))) (fun a=>[[.str a.1.Serial,.int a.1.Cyls,.int a.1.Heads,.int a.1.Size,.slice (List.map e_TDscb a.1.Sets)],[.str a.2.Name,.int a.2.Dcb.Org,.int a.2.Dcb.Format,.bool a.2.Dcb.Blocked,.bool a.2.Dcb.Asa,.int a.2.Dcb.Lrecl,.int a.2.Dcb.Blksize,.int a.2.Dcb.KeyLen,.int a.2.Dcb.KeyPos,.slice (List.map e_TExtent a.2.Extents),.int a.2.Used]]) (fun a=>ref21_label n a.1 a.2) (fun r=>[.c .bool (.bool r)]) (fun r=>[])
theorem cref21_label (n:Nat):Contract Tryz.prog (xref21_label n):=by
  have hΓ:=g1 (cref21_Name n) (g1 (cref21_Described n) (g1 (cref21_in n) (g1 (cref20_Valid n) (g1 (cref20_Total n) (@g0 (Contract Tryz.prog))))))
  refine contract_f (Tryz.f72.body.getD .skip) h00 Tryz.func72 rfl Tryz.call72 (by decide) (by intro _ r;exact ⟨rfl,by simp⟩) ?_
  rintro ⟨v,d⟩ r H
  try dsimp only at H
  unfold ref21_label at H
  simp only [Tryz.f72,Option.getD]
  refine rA ?_
  refine Sm.cut (fun (x:Unit)=>ref21_label_s1 d) (fun x=>ref21_label_k1 n d=some r) ?_ ?_
  · refine rA ?_
    refine Sm.block ?_
    obtain ⟨y9,hy9,Ho9⟩:=bind_some H
    refine Sm.loopB _ (fun x=>ref21_label_t2 v d x) hy9 (wb [some 32,some 48]) ?_
    rintro k z9 H
    try dsimp only at H
    unfold ref21_label_b2 at H
    refine Sm.st (ref21_label_t2.eq_1 ..) ?_
    refine Sm.seqK fun K10 hK10=>?_
    refine rA ?_
    refine cnd H (fun h12 H=>?_) (fun h12 H=>?_)
    · refine Sm.skip ?_
      refine hK10 _ ?_
      refine Sm.seqK fun K13 hK13=>?_
      refine Sm.block ?_
      obtain ⟨hg18,H⟩:=gd_some H
      refine rA ?_
      refine rA ?_
      refine cnd H (fun h16 H=>?_) (fun h16 H=>?_)
      · refine rA ?_
        refine Sm.ret ?_
        refine lf ?_
        refine lx H fun hyy=>?_
        subst hyy
        have H:=Ho9
        try dsimp only at H
        refine lf ?_
        obtain rfl:=Option.some.inj H
        exact rt []
      refine Sm.skip ?_
      refine hK13 _ ?_
      refine eA ?_
      refine lf ?_
      exact nx H (wb [some 9003,some 9004])
    refine Sm.exit ?_
    refine lf ?_
    refine lx H fun hyy=>?_
    subst hyy
    have H:=Ho9
    try dsimp only at H
    refine lf ?_
    exact ⟨(),H,wb [some 9004]⟩
  rintro ⟨⟩ H
  try dsimp only at H
  unfold ref21_label_k1 at H
  refine Sm.st (ref21_label_s1.eq_1 ..) ?_
  obtain ⟨r1,hr1,H⟩:=bind_some H
  obtain ⟨⟨hg3,hg4,hg5,hg6,hg7⟩,H⟩:=gd_some H
  have q:=And.intro @xref21_Name.eq_1 (And.intro @xref21_Described.eq_1 (And.intro @xref21_in.eq_1 (And.intro @xref20_Valid.eq_1 (And.intro @xref20_Total.eq_1 hr1))))
  refine rDq ?_
  refine Sm.ret ?_
  refine lf ?_
  obtain rfl:=Option.some.inj H
  exact rt []
abbrev ref21_all_s1 (l:List TExtent):S:=stB [(3,.own 9000 [.int .i64,.int .i64] 0 l.length)] [(9000,.row 80 (List.map e_TExtent l))]
def ref21_all_k1 (n:Nat) (l:List TExtent):Option (List TExtent) :=
  some l
abbrev ref21_all_t2 (v:TVtoc) (l_1:List TExtent) (k:Int):S:=stB [(1,.box 9004 0),(3,.own 9005 [.int .i64,.int .i64] 0 l_1.length),(4,.c (.int .i64) (.int k))] [(9004,.box [.c .str (.str v.Serial),.c (.int .i64) (.int v.Cyls),.c (.int .i64) (.int v.Heads),.c (.int .i64) (.int v.Size),.c (.slice 41) (.slice (List.map e_TDscb v.Sets))]),(9005,.row 80 (List.map e_TExtent l_1))]
def ref21_all_b2 (n:Nat) (v:TVtoc) (l_1:List TExtent) (k:Int):Option (((List TExtent)×Int) ⊕ (((List TExtent)))) :=
  bif (decide (k < (v.Sets.length:Int))) then
    gd ((0≤k∧k < (v.Sets.length:Int))∧(l_1.length+((gt v.Sets (Int.toNat k)).Extents).length)≤2147483648) <|
    some (.inl ((l_1 ++ (gt v.Sets (Int.toNat k)).Extents),(IntKind.wrap .i64 (k+1))))
  else
    some (.inr l_1)
def ref21_all (n:Nat) (v:TVtoc):Option (List TExtent) :=
  (loopF (fun (x:(List TExtent)×Int)=>ref21_all_b2 n v x.1 x.2) n ([],0)).bind fun y5 =>
  ref21_all_k1 n y5
def xref21_all (n:Nat):Go.AE.Fn:=mkFn (A:=TVtoc) (R:=(List TExtent)) 74 [(true,[.str,.int .i64,.int .i64,.int .i64,.slice 41])] false (fun xs=>(⟨(cg (xs.getD 0 []) 0).toStr,(cg (xs.getD 0 []) 1).toInt,(cg (xs.getD 0 []) 2).toInt,(cg (xs.getD 0 []) 3).toInt,((cg (xs.getD 0 []) 4).toSl.map d_TDscb)⟩:TVtoc)) (fun a=>[[.str a.Serial,.int a.Cyls,.int a.Heads,.int a.Size,.slice (List.map e_TDscb a.Sets)]]) (fun a=>ref21_all n a) (fun r=>[.own 0 [.int .i64,.int .i64] 0 r.length]) (fun r=>[.row 80 (List.map e_TExtent r)])
theorem cref21_all (n:Nat):Contract Tryz.prog (xref21_all n):=by
  have hΓ:=@g0 (Contract Tryz.prog)
  refine contract_f (Tryz.f74.body.getD .skip) h00 Tryz.func74 rfl Tryz.call74 (by decide) (fun _ r=>⟨rfl,m1 ⟨80,_,_,rfl,ty80,rfl⟩ m0⟩) ?_
  rintro v r H
  try dsimp only at H
  unfold ref21_all at H
  simp only [Tryz.f74,Option.getD]
  refine rA ?_
  refine rA ?_
  refine Sm.cut (fun (x:(List TExtent))=>ref21_all_s1 x) (fun x=>ref21_all_k1 n x=some r) ?_ ?_
  · refine rA ?_
    refine Sm.block ?_
    obtain ⟨y5,hy5,Ho5⟩:=bind_some H
    refine Sm.loopB _ (fun x=>ref21_all_t2 v x.1 x.2) hy5 (wb [some 16,none]) ?_
    rintro ⟨l_1,k⟩ z5 H
    try dsimp only at H
    unfold ref21_all_b2 at H
    refine Sm.st (ref21_all_t2.eq_1 ..) ?_
    refine Sm.seqK fun K6 hK6=>?_
    refine rA ?_
    refine cnd H (fun h8 H=>?_) (fun h8 H=>?_)
    · refine Sm.skip ?_
      refine hK6 _ ?_
      refine Sm.seqK fun K9 hK9=>?_
      refine Sm.block ?_
      obtain ⟨⟨hg10,hg11⟩,H⟩:=gd_some H
      refine eA ?_
      refine hK9 _ ?_
      refine eA ?_
      refine lf ?_
      exact nx H (wb [some 9004,some 304])
    refine Sm.exit ?_
    refine lf ?_
    refine lx H fun hyy=>?_
    subst hyy
    have H:=Ho5
    try dsimp only at H
    refine lf ?_
    exact ⟨_,H,wb [some 9005]⟩
  rintro l H
  try dsimp only at H
  unfold ref21_all_k1 at H
  refine Sm.st (ref21_all_s1.eq_1 ..) ?_
  refine rA ?_
  refine Sm.ret ?_
  refine lf ?_
  obtain rfl:=Option.some.inj H
  exact rto [some 9000]
abbrev ref21_Valid_s1 (v:TVtoc):S:=stB [(1,.box 9000 0)] [(9000,.box [.c .str (.str v.Serial),.c (.int .i64) (.int v.Cyls),.c (.int .i64) (.int v.Heads),.c (.int .i64) (.int v.Size),.c (.slice 41) (.slice (List.map e_TDscb v.Sets))])]
def ref21_Valid_k1 (n:Nat) (v:TVtoc):Option Bool :=
  (ref21_all n v).bind fun r2 =>
  (ref20_Valid n r2).bind fun r3 =>
  some r3
abbrev ref21_Valid_t2 (v:TVtoc) (k:Int):S:=stB [(1,.box 9002 0),(3,.c (.int .i64) (.int k))] [(9002,.box [.c .str (.str v.Serial),.c (.int .i64) (.int v.Cyls),.c (.int .i64) (.int v.Heads),.c (.int .i64) (.int v.Size),.c (.slice 41) (.slice (List.map e_TDscb v.Sets))])]
def ref21_Valid_b2 (n:Nat) (v:TVtoc) (k:Int):Option ((Int) ⊕ (((Bool) ⊕ (Unit)))) :=
  bif (decide (k < (v.Sets.length:Int))) then
    gd ((0≤k∧k < (v.Sets.length:Int))) <|
    (ref21_label n v (gt v.Sets (Int.toNat k))).bind fun r4 =>
    gd ((((!(!r4)) && (decide (k > 0)))=true→(0≤(IntKind.wrap .i64 (k - 1))∧(IntKind.wrap .i64 (k - 1)) < (v.Sets.length:Int)))∧(((!(!r4)) && (decide (k > 0)))=true→(0≤k∧k < (v.Sets.length:Int)))) <|
    bif (if (!r4)=true then true else (if (decide (k > 0))=true then (!Op.bytesLess ((gt v.Sets (Int.toNat (IntKind.wrap .i64 (k - 1)))).Name) ((gt v.Sets (Int.toNat k)).Name)) else false)) then
      some (.inr (.inl false))
    else
      some (.inl (IntKind.wrap .i64 (k+1)))
  else
    some (.inr (.inr ()))
def ref21_Valid (n:Nat) (v:TVtoc):Option Bool :=
  (ref21_serial n v.Serial).bind fun r1 =>
  gd (((!(!r1))=true→(ref21_in n v.Cyls 1 64).isSome=true)∧((!(if (!r1)=true then true else (!((ref21_in n v.Cyls 1 64).getD default))))=true→(ref21_in n v.Heads 1 8).isSome=true)∧((!(if (if (!r1)=true then true else (!((ref21_in n v.Cyls 1 64).getD default)))=true then true else (!((ref21_in n v.Heads 1 8).getD default))))=true→(ref21_in n v.Size 1 (IntKind.wrap .i64 ((IntKind.wrap .i64 (v.Cyls * v.Heads)) - 1))).isSome=true)) <|
  bif (if (if (if (if (if (!r1)=true then true else (!((ref21_in n v.Cyls 1 64).getD default)))=true then true else (!((ref21_in n v.Heads 1 8).getD default)))=true then true else (!((ref21_in n v.Size 1 (IntKind.wrap .i64 ((IntKind.wrap .i64 (v.Cyls * v.Heads)) - 1))).getD default)))=true then true else (decide ((v.Sets.length:Int) > 64)))=true then true else (decide ((v.Sets.length:Int) > (IntKind.wrap .i64 (14 * v.Size))))) then
    some false
  else
    (loopF (fun (x:Int)=>ref21_Valid_b2 n v x) n 0).bind fun y8 =>
    match y8 with
    | .inl vv =>
      some vv
    | .inr vv =>
      ref21_Valid_k1 n v
def xref21_Valid (n:Nat):Go.AE.Fn:=mkFn (A:=TVtoc) (R:=Bool) 31 [(true,[.str,.int .i64,.int .i64,.int .i64,.slice 41])] false (fun xs=>(⟨(cg (xs.getD 0 []) 0).toStr,(cg (xs.getD 0 []) 1).toInt,(cg (xs.getD 0 []) 2).toInt,(cg (xs.getD 0 []) 3).toInt,((cg (xs.getD 0 []) 4).toSl.map d_TDscb)⟩:TVtoc)) (fun a=>[[.str a.Serial,.int a.Cyls,.int a.Heads,.int a.Size,.slice (List.map e_TDscb a.Sets)]]) (fun a=>ref21_Valid n a) (fun r=>[.c .bool (.bool r)]) (fun r=>[])
theorem cref21_Valid (n:Nat):Contract Tryz.prog (xref21_Valid n):=by
  have hΓ:=g1 (cref21_serial n) (g1 (cref21_in n) (g1 (cref21_label n) (g1 (cref21_all n) (g1 (cref20_Valid n) (@g0 (Contract Tryz.prog))))))
  refine contract_f (Tryz.f31.body.getD .skip) h00 Tryz.func31 rfl Tryz.call31 (by decide) (by intro _ r;exact ⟨rfl,by simp⟩) ?_
  rintro v r H
  try dsimp only at H
  unfold ref21_Valid at H
  simp only [Tryz.f31,Option.getD]
  refine rA ?_
  refine Sm.seqK fun K2 hK2=>?_
  obtain ⟨r1,hr1,H⟩:=bind_some H
  obtain ⟨⟨hg19,hg20,hg21⟩,H⟩:=gd_some H
  have q:=And.intro @xref21_serial.eq_1 (And.intro @xref21_in.eq_1 hr1)
  refine rAq ?_
  refine cnd H (fun h4 H=>?_) (fun h4 H=>?_)
  · refine rA ?_
    refine Sm.ret ?_
    refine lf ?_
    obtain rfl:=Option.some.inj H
    exact rt []
  refine Sm.skip ?_
  refine hK2 _ ?_
  refine Sm.cut (fun (x:Unit)=>ref21_Valid_s1 v) (fun x=>ref21_Valid_k1 n v=some r) ?_ ?_
  · refine rA ?_
    refine Sm.block ?_
    obtain ⟨y8,hy8,Ho8⟩:=bind_some H
    refine Sm.loopB _ (fun x=>ref21_Valid_t2 v x) hy8 (wb [some 16]) ?_
    rintro k z8 H
    try dsimp only at H
    unfold ref21_Valid_b2 at H
    refine Sm.st (ref21_Valid_t2.eq_1 ..) ?_
    refine Sm.seqK fun K9 hK9=>?_
    refine rA ?_
    refine cnd H (fun h11 H=>?_) (fun h11 H=>?_)
    · refine Sm.skip ?_
      refine hK9 _ ?_
      refine Sm.seqK fun K12 hK12=>?_
      refine Sm.block ?_
      obtain ⟨hg16,H⟩:=gd_some H
      obtain ⟨r4,hr4,H⟩:=bind_some H
      obtain ⟨⟨hg17,hg18⟩,H⟩:=gd_some H
      have q:=And.intro @xref21_serial.eq_1 (And.intro @xref21_in.eq_1 (And.intro @xref21_label.eq_1 hr4))
      refine rDq ?_
      refine cnd H (fun h14 H=>?_) (fun h14 H=>?_)
      · refine rA ?_
        refine Sm.ret ?_
        refine lf ?_
        refine lx H fun hyy=>?_
        subst hyy
        have H:=Ho8
        try dsimp only at H
        refine lf ?_
        obtain rfl:=Option.some.inj H
        exact rt []
      refine Sm.skip ?_
      refine hK12 _ ?_
      refine eA ?_
      refine lf ?_
      exact nx H (wb [some 9002])
    refine Sm.exit ?_
    refine lf ?_
    refine lx H fun hyy=>?_
    subst hyy
    have H:=Ho8
    try dsimp only at H
    refine lf ?_
    exact ⟨(),H,wb [some 9002]⟩
  rintro ⟨⟩ H
  try dsimp only at H
  unfold ref21_Valid_k1 at H
  refine Sm.st (ref21_Valid_s1.eq_1 ..) ?_
  obtain ⟨r2,hr2,H⟩:=bind_some H
  obtain ⟨r3,hr3,H⟩:=bind_some H
  have q:=And.intro @xref21_serial.eq_1 (And.intro @xref21_in.eq_1 (And.intro @xref21_label.eq_1 (And.intro @xref21_all.eq_1 (And.intro @xref20_Valid.eq_1 (And.intro hr2 hr3)))))
  refine rAq ?_
  refine Sm.ret ?_
  refine lf ?_
  obtain rfl:=Option.some.inj H
  exact rt []
abbrev ref21_place_s1:S:=stB [] []
def ref21_place_k1 (n:Nat):Option Int :=
  some (-1)
abbrev ref21_place_t2 (name:List UInt8) (v:TVtoc) (k:Int):S:=stB [(1,.c .str (.str name)),(2,.box 9001 0),(5,.c (.int .i64) (.int k))] [(9001,.box [.c .str (.str v.Serial),.c (.int .i64) (.int v.Cyls),.c (.int .i64) (.int v.Heads),.c (.int .i64) (.int v.Size),.c (.slice 41) (.slice (List.map e_TDscb v.Sets))])]
def ref21_place_b2 (n:Nat) (name:List UInt8) (v:TVtoc) (k:Int):Option ((Int) ⊕ (((Int) ⊕ (Unit)))) :=
  bif (decide (k < (v.Sets.length:Int))) then
    gd ((0≤k∧k < (v.Sets.length:Int))) <|
    bif (((gt v.Sets (Int.toNat k)).Name) == name) then
      some (.inr (.inl k))
    else
      some (.inl (IntKind.wrap .i64 (k+1)))
  else
    some (.inr (.inr ()))
def ref21_place (n:Nat) (v:TVtoc) (name:List UInt8):Option Int :=
  (loopF (fun (x:Int)=>ref21_place_b2 n name v x) n 0).bind fun y4 =>
  match y4 with
  | .inl vv =>
    some vv
  | .inr vv =>
    ref21_place_k1 n
def xref21_place (n:Nat):Go.AE.Fn:=mkFn (A:=TVtoc×(List UInt8)) (R:=Int) 58 [(true,[.str,.int .i64,.int .i64,.int .i64,.slice 41]),(false,[.str])] false (fun xs=>((⟨(cg (xs.getD 0 []) 0).toStr,(cg (xs.getD 0 []) 1).toInt,(cg (xs.getD 0 []) 2).toInt,(cg (xs.getD 0 []) 3).toInt,((cg (xs.getD 0 []) 4).toSl.map d_TDscb)⟩:TVtoc),(cg (xs.getD 1 []) 0).toStr)) (fun a=>[[.str a.1.Serial,.int a.1.Cyls,.int a.1.Heads,.int a.1.Size,.slice (List.map e_TDscb a.1.Sets)],[.str a.2]]) (fun a=>ref21_place n a.1 a.2) (fun r=>[.c (.int .i64) (.int r)]) (fun r=>[])
theorem cref21_place (n:Nat):Contract Tryz.prog (xref21_place n):=by
  have hΓ:=@g0 (Contract Tryz.prog)
  refine contract_f (Tryz.f58.body.getD .skip) h00 Tryz.func58 rfl Tryz.call58 (by decide) (by intro _ r;exact ⟨rfl,by simp⟩) ?_
  rintro ⟨v,name⟩ r H
  try dsimp only at H
  unfold ref21_place at H
  simp only [Tryz.f58,Option.getD]
  refine rA ?_
  refine Sm.cut (fun (x:Unit)=>ref21_place_s1) (fun x=>ref21_place_k1 n=some r) ?_ ?_
  · refine rA ?_
    refine Sm.block ?_
    obtain ⟨y4,hy4,Ho4⟩:=bind_some H
    refine Sm.loopB _ (fun x=>ref21_place_t2 name v x) hy4 (wb [some 32]) ?_
    rintro k z4 H
    try dsimp only at H
    unfold ref21_place_b2 at H
    refine Sm.st (ref21_place_t2.eq_1 ..) ?_
    refine Sm.seqK fun K5 hK5=>?_
    refine rA ?_
    refine cnd H (fun h7 H=>?_) (fun h7 H=>?_)
    · refine Sm.skip ?_
      refine hK5 _ ?_
      refine Sm.seqK fun K8 hK8=>?_
      refine Sm.block ?_
      obtain ⟨hg12,H⟩:=gd_some H
      refine rA ?_
      refine cnd H (fun h10 H=>?_) (fun h10 H=>?_)
      · refine rA ?_
        refine Sm.ret ?_
        refine lf ?_
        refine lx H fun hyy=>?_
        subst hyy
        have H:=Ho4
        try dsimp only at H
        refine lf ?_
        obtain rfl:=Option.some.inj H
        exact rt []
      refine Sm.skip ?_
      refine hK8 _ ?_
      refine eA ?_
      refine lf ?_
      exact nx H (wb [some 9001])
    refine Sm.exit ?_
    refine lf ?_
    refine lx H fun hyy=>?_
    subst hyy
    have H:=Ho4
    try dsimp only at H
    refine lf ?_
    exact ⟨(),H,wb []⟩
  rintro ⟨⟩ H
  try dsimp only at H
  unfold ref21_place_k1 at H
  refine Sm.st (ref21_place_s1.eq_1 ..) ?_
  refine rA ?_
  refine Sm.ret ?_
  refine lf ?_
  obtain rfl:=Option.some.inj H
  exact rt []
def ref21_Find (n:Nat) (v:TVtoc) (name:List UInt8):Option (TDscb×Bool) :=
  (ref21_Valid n v).bind fun r1 =>
  gd (((!(!r1))=true→(ref21_place n v name).isSome=true)) <|
  bif (if (!r1)=true then true else (decide (((ref21_place n v name).getD default) < 0))) then
    some ((⟨[],(⟨0,0,false,false,0,0,0,0⟩:TDcb),[],0⟩:TDscb),false)
  else
    (ref21_place n v name).bind fun r2 =>
    gd ((0≤r2∧r2 < (v.Sets.length:Int))) <|
    some ((gt v.Sets (Int.toNat r2)),true)
def xref21_Find (n:Nat):Go.AE.Fn:=mkFn (A:=TVtoc×(List UInt8)) (R:=TDscb×Bool) 23 [(true,[.str,.int .i64,.int .i64,.int .i64,.slice 41]),(false,[.str])] true (fun xs=>((⟨(cg (xs.getD 0 []) 0).toStr,(cg (xs.getD 0 []) 1).toInt,(cg (xs.getD 0 []) 2).toInt,(cg (xs.getD 0 []) 3).toInt,((cg (xs.getD 0 []) 4).toSl.map d_TDscb)⟩:TVtoc),(cg (xs.getD 1 []) 0).toStr)) (fun a=>[[.str a.1.Serial,.int a.1.Cyls,.int a.1.Heads,.int a.1.Size,.slice (List.map e_TDscb a.1.Sets)],[.str a.2]]) (fun a=>ref21_Find n a.1 a.2) (fun r=>[.agg [.c .str (.str r.1.Name),.c (.int .i64) (.int r.1.Dcb.Org),.c (.int .i64) (.int r.1.Dcb.Format),.c .bool (.bool r.1.Dcb.Blocked),.c .bool (.bool r.1.Dcb.Asa),.c (.int .i64) (.int r.1.Dcb.Lrecl),.c (.int .i64) (.int r.1.Dcb.Blksize),.c (.int .i64) (.int r.1.Dcb.KeyLen),.c (.int .i64) (.int r.1.Dcb.KeyPos),.c (.slice 80) (.slice (List.map e_TExtent r.1.Extents)),.c (.int .i64) (.int r.1.Used)],.c .bool (.bool r.2)]) (fun r=>[])
theorem cref21_Find (n:Nat):Contract Tryz.prog (xref21_Find n):=by
  have hΓ:=g1 (cref21_Valid n) (g1 (cref21_place n) (@g0 (Contract Tryz.prog)))
  refine contract_f (Tryz.f23.body.getD .skip) h00 Tryz.func23 rfl Tryz.call23 (by decide) (by intro h;cases h) ?_
  rintro ⟨v,name⟩ r H
  try dsimp only at H
  unfold ref21_Find at H
  simp only [Tryz.f23,Option.getD]
  refine rA ?_
  refine Sm.seqK fun K2 hK2=>?_
  obtain ⟨r1,hr1,H⟩:=bind_some H
  obtain ⟨hg8,H⟩:=gd_some H
  have q:=And.intro @xref21_Valid.eq_1 (And.intro @xref21_place.eq_1 hr1)
  refine rAq ?_
  refine cnd H (fun h4 H=>?_) (fun h4 H=>?_)
  · refine rA ?_
    refine Sm.ret ?_
    refine lf ?_
    obtain rfl:=Option.some.inj H
    exact rt []
  refine Sm.skip ?_
  refine hK2 _ ?_
  obtain ⟨r2,hr2,H⟩:=bind_some H
  obtain ⟨hg7,H⟩:=gd_some H
  have q:=And.intro @xref21_Valid.eq_1 (And.intro @xref21_place.eq_1 hr2)
  refine rDq ?_
  refine Sm.ret ?_
  refine lf ?_
  obtain rfl:=Option.some.inj H
  exact rt []
abbrev ref20_Index_s1:S:=stB [] []
def ref20_Index_k1 (n:Nat):Option (Int×Bool) :=
  some (0,false)
abbrev ref20_Index_t2 (track:Int) (t:List Int) (i:Int):S:=stB [(1,.c (.int .i64) (.int track)),(6,.own 9001 [.int .i64] 0 t.length),(8,.c (.int .i64) (.int i))] [(9001,.row 3 (List.map e_Int t))]
def ref20_Index_b2 (n:Nat) (track:Int) (t:List Int) (i:Int):Option ((Int) ⊕ (((Int×Bool) ⊕ (Unit)))) :=
  bif (decide (i < ((t.length:Nat):Int))) then
    gd ((0≤i∧i < (t.length:Int))∧(Int.toNat i) < t.length) <|
    bif ((gt t (Int.toNat i)) == track) then
      some (.inr (.inl (i,true)))
    else
      some (.inl (IntKind.wrap .i64 (i+1)))
  else
    some (.inr (.inr ()))
def ref20_Index (n:Nat) (l:List TExtent) (track:Int):Option (Int×Bool) :=
  (ref20_Tracks n l).bind fun r1 =>
  (loopF (fun (x:Int)=>ref20_Index_b2 n track r1.1 x) n 0).bind fun y5 =>
  match y5 with
  | .inl vv =>
    some (vv.1,vv.2)
  | .inr vv =>
    ref20_Index_k1 n
def xref20_Index (n:Nat):Go.AE.Fn:=mkFn (A:=(List TExtent)×Int) (R:=Int×Bool) 60 [(false,[.slice 80]),(false,[.int .i64])] false (fun xs=>(((cg (xs.getD 0 []) 0).toSl.map d_TExtent),(cg (xs.getD 1 []) 0).toInt)) (fun a=>[[.slice (List.map e_TExtent a.1)],[.int a.2]]) (fun a=>ref20_Index n a.1 a.2) (fun r=>[.c (.int .i64) (.int r.1),.c .bool (.bool r.2)]) (fun r=>[])
theorem cref20_Index (n:Nat):Contract Tryz.prog (xref20_Index n):=by
  have hΓ:=g1 (cref20_Tracks n) (@g0 (Contract Tryz.prog))
  refine contract_f (Tryz.f60.body.getD .skip) h00 Tryz.func60 rfl Tryz.call60 (by decide) (by intro _ r;exact ⟨rfl,by simp⟩) ?_
  rintro ⟨l,track⟩ r H
  try dsimp only at H
  unfold ref20_Index at H
  simp only [Tryz.f60,Option.getD]
  refine rA ?_
  obtain ⟨r1,hr1,H⟩:=bind_some H
  have q:=And.intro @xref20_Tracks.eq_1 hr1
  refine rAq ?_
  refine Sm.cut (fun (x:Unit)=>ref20_Index_s1) (fun x=>ref20_Index_k1 n=some r) ?_ ?_
  · refine rA ?_
    refine Sm.block ?_
    obtain ⟨y5,hy5,Ho5⟩:=bind_some H
    refine Sm.loopB _ (fun x=>ref20_Index_t2 track r1.1 x) hy5 (wb [some 176]) ?_
    rintro i z5 H
    try dsimp only at H
    unfold ref20_Index_b2 at H
    refine Sm.st (ref20_Index_t2.eq_1 ..) ?_
    refine Sm.seqK fun K6 hK6=>?_
    refine rA ?_
    refine cnd H (fun h8 H=>?_) (fun h8 H=>?_)
    · refine Sm.skip ?_
      refine hK6 _ ?_
      refine Sm.seqK fun K9 hK9=>?_
      refine Sm.block ?_
      obtain ⟨⟨hg13,hg14⟩,H⟩:=gd_some H
      refine rA ?_
      refine cnd H (fun h11 H=>?_) (fun h11 H=>?_)
      · refine rA ?_
        refine Sm.ret ?_
        refine lf ?_
        refine lx H fun hyy=>?_
        subst hyy
        have H:=Ho5
        try dsimp only at H
        refine lf ?_
        obtain rfl:=Option.some.inj H
        exact rt []
      refine Sm.skip ?_
      refine hK9 _ ?_
      refine eA ?_
      refine lf ?_
      exact nx H (wb [some 9001])
    refine Sm.exit ?_
    refine lf ?_
    refine lx H fun hyy=>?_
    subst hyy
    have H:=Ho5
    try dsimp only at H
    refine lf ?_
    exact ⟨(),H,wb []⟩
  rintro ⟨⟩ H
  try dsimp only at H
  unfold ref20_Index_k1 at H
  refine Sm.st (ref20_Index_s1.eq_1 ..) ?_
  refine rA ?_
  refine Sm.ret ?_
  refine lf ?_
  obtain rfl:=Option.some.inj H
  exact rt []
abbrev ref21_Owner_s1:S:=stB [] []
def ref21_Owner_k1 (n:Nat):Option ((List UInt8)×Int×Bool) :=
  some ([],0,false)
abbrev ref21_Owner_t2 (track:Int) (v:TVtoc) (k:Int):S:=stB [(1,.c (.int .i64) (.int track)),(2,.box 9001 0),(7,.c (.int .i64) (.int k))] [(9001,.box [.c .str (.str v.Serial),.c (.int .i64) (.int v.Cyls),.c (.int .i64) (.int v.Heads),.c (.int .i64) (.int v.Size),.c (.slice 41) (.slice (List.map e_TDscb v.Sets))])]
def ref21_Owner_b2 (n:Nat) (track:Int) (v:TVtoc) (k:Int):Option ((Int) ⊕ ((((List UInt8)×Int×Bool) ⊕ (Unit)))) :=
  gd (((decide (k < (v.Sets.length:Int)))=true→(ref21_Valid n v).isSome=true)) <|
  bif (if (decide (k < (v.Sets.length:Int)))=true then ((ref21_Valid n v).getD default) else false) then
    gd ((0≤k∧k < (v.Sets.length:Int))) <|
    (ref20_Index n ((gt v.Sets (Int.toNat k)).Extents) track).bind fun r1 =>
    bif r1.2 then
      gd ((0≤k∧k < (v.Sets.length:Int))) <|
      some (.inr (.inl ((gt v.Sets (Int.toNat k)).Name,r1.1,true)))
    else
      some (.inl (IntKind.wrap .i64 (k+1)))
  else
    some (.inr (.inr ()))
def ref21_Owner (n:Nat) (v:TVtoc) (track:Int):Option ((List UInt8)×Int×Bool) :=
  (loopF (fun (x:Int)=>ref21_Owner_b2 n track v x) n 0).bind fun y4 =>
  match y4 with
  | .inl vv =>
    some (vv.1,vv.2.1,vv.2.2)
  | .inr vv =>
    ref21_Owner_k1 n
def xref21_Owner (n:Nat):Go.AE.Fn:=mkFn (A:=TVtoc×Int) (R:=(List UInt8)×Int×Bool) 25 [(true,[.str,.int .i64,.int .i64,.int .i64,.slice 41]),(false,[.int .i64])] false (fun xs=>((⟨(cg (xs.getD 0 []) 0).toStr,(cg (xs.getD 0 []) 1).toInt,(cg (xs.getD 0 []) 2).toInt,(cg (xs.getD 0 []) 3).toInt,((cg (xs.getD 0 []) 4).toSl.map d_TDscb)⟩:TVtoc),(cg (xs.getD 1 []) 0).toInt)) (fun a=>[[.str a.1.Serial,.int a.1.Cyls,.int a.1.Heads,.int a.1.Size,.slice (List.map e_TDscb a.1.Sets)],[.int a.2]]) (fun a=>ref21_Owner n a.1 a.2) (fun r=>[.c .str (.str r.1),.c (.int .i64) (.int r.2.1),.c .bool (.bool r.2.2)]) (fun r=>[])
theorem cref21_Owner (n:Nat):Contract Tryz.prog (xref21_Owner n):=by
  have hΓ:=g1 (cref21_Valid n) (g1 (cref20_Index n) (@g0 (Contract Tryz.prog)))
  refine contract_f (Tryz.f25.body.getD .skip) h00 Tryz.func25 rfl Tryz.call25 (by decide) (by intro _ r;exact ⟨rfl,by simp⟩) ?_
  rintro ⟨v,track⟩ r H
  try dsimp only at H
  unfold ref21_Owner at H
  simp only [Tryz.f25,Option.getD]
  refine rA ?_
  refine Sm.cut (fun (x:Unit)=>ref21_Owner_s1) (fun x=>ref21_Owner_k1 n=some r) ?_ ?_
  · refine rA ?_
    refine Sm.block ?_
    obtain ⟨y4,hy4,Ho4⟩:=bind_some H
    refine Sm.loopB _ (fun x=>ref21_Owner_t2 track v x) hy4 (wb [some 32]) ?_
    rintro k z4 H
    try dsimp only at H
    unfold ref21_Owner_b2 at H
    refine Sm.st (ref21_Owner_t2.eq_1 ..) ?_
    refine Sm.seqK fun K5 hK5=>?_
    obtain ⟨hg15,H⟩:=gd_some H
    have q:=@xref21_Valid.eq_1
    refine rAq ?_
    refine cnd H (fun h7 H=>?_) (fun h7 H=>?_)
    · refine Sm.skip ?_
      refine hK5 _ ?_
      refine Sm.seqK fun K8 hK8=>?_
      refine Sm.block ?_
      obtain ⟨hg14,H⟩:=gd_some H
      obtain ⟨r1,hr1,H⟩:=bind_some H
      have q:=And.intro @xref21_Valid.eq_1 (And.intro @xref20_Index.eq_1 hr1)
      refine rAq ?_
      refine rA ?_
      refine cnd H (fun h11 H=>?_) (fun h11 H=>?_)
      · obtain ⟨hg13,H⟩:=gd_some H
        refine rA ?_
        refine Sm.ret ?_
        refine lf ?_
        refine lx H fun hyy=>?_
        subst hyy
        have H:=Ho4
        try dsimp only at H
        refine lf ?_
        obtain rfl:=Option.some.inj H
        exact rt []
      refine Sm.skip ?_
      refine hK8 _ ?_
      refine eA ?_
      refine lf ?_
      exact nx H (wb [some 9001])
    refine Sm.exit ?_
    refine lf ?_
    refine lx H fun hyy=>?_
    subst hyy
    have H:=Ho4
    try dsimp only at H
    refine lf ?_
    exact ⟨(),H,wb []⟩
  rintro ⟨⟩ H
  try dsimp only at H
  unfold ref21_Owner_k1 at H
  refine Sm.st (ref21_Owner_s1.eq_1 ..) ?_
  refine rA ?_
  refine Sm.ret ?_
  refine lf ?_
  obtain rfl:=Option.some.inj H
  exact rt []
abbrev ref21_SameSet_s1:S:=stB [] []
def ref21_SameSet_k1 (n:Nat):Option Bool :=
  some true
abbrev ref21_SameSet_t2 (a:TDscb) (b:TDscb) (k:Int):S:=stB [(2,.box 9002 0),(3,.box 9003 0),(5,.c (.int .i64) (.int k))] [(9002,.box [.c .str (.str a.Name),.c (.int .i64) (.int a.Dcb.Org),.c (.int .i64) (.int a.Dcb.Format),.c .bool (.bool a.Dcb.Blocked),.c .bool (.bool a.Dcb.Asa),.c (.int .i64) (.int a.Dcb.Lrecl),.c (.int .i64) (.int a.Dcb.Blksize),.c (.int .i64) (.int a.Dcb.KeyLen),.c (.int .i64) (.int a.Dcb.KeyPos),.c (.slice 80) (.slice (List.map e_TExtent a.Extents)),.c (.int .i64) (.int a.Used)]),(9003,.box [.c .str (.str b.Name),.c (.int .i64) (.int b.Dcb.Org),.c (.int .i64) (.int b.Dcb.Format),.c .bool (.bool b.Dcb.Blocked),.c .bool (.bool b.Dcb.Asa),.c (.int .i64) (.int b.Dcb.Lrecl),.c (.int .i64) (.int b.Dcb.Blksize),.c (.int .i64) (.int b.Dcb.KeyLen),.c (.int .i64) (.int b.Dcb.KeyPos),.c (.slice 80) (.slice (List.map e_TExtent b.Extents)),.c (.int .i64) (.int b.Used)])]
def ref21_SameSet_b2 (n:Nat) (a:TDscb) (b:TDscb) (k:Int):Option ((Int) ⊕ (((Bool) ⊕ (Unit)))) :=
  bif (decide (k < (a.Extents.length:Int))) then
    gd ((0≤k∧k < (a.Extents.length:Int))∧(0≤k∧k < (b.Extents.length:Int))) <|
    bif (!((((gt a.Extents (Int.toNat k)).At) == ((gt b.Extents (Int.toNat k)).At)) && (((gt a.Extents (Int.toNat k)).Len) == ((gt b.Extents (Int.toNat k)).Len)))) then
      some (.inr (.inl false))
    else
      some (.inl (IntKind.wrap .i64 (k+1)))
  else
    some (.inr (.inr ()))
def ref21_SameSet (n:Nat) (a:TDscb) (b:TDscb):Option Bool :=
  bif (if (if (if (a.Name != b.Name)=true then true else (!((a.Dcb.Org == b.Dcb.Org) && ((a.Dcb.Format == b.Dcb.Format) && ((a.Dcb.Blocked == b.Dcb.Blocked) && ((a.Dcb.Asa == b.Dcb.Asa) && ((a.Dcb.Lrecl == b.Dcb.Lrecl) && ((a.Dcb.Blksize == b.Dcb.Blksize) && ((a.Dcb.KeyLen == b.Dcb.KeyLen) && (a.Dcb.KeyPos == b.Dcb.KeyPos))))))))))=true then true else (a.Used != b.Used))=true then true else ((a.Extents.length:Int) != (b.Extents.length:Int))) then
    some false
  else
    (loopF (fun (x:Int)=>ref21_SameSet_b2 n a b x) n 0).bind fun y8 =>
    match y8 with
    | .inl vv =>
      some vv
    | .inr vv =>
      ref21_SameSet_k1 n
def xref21_SameSet (n:Nat):Go.AE.Fn:=mkFn (A:=TDscb×TDscb) (R:=Bool) 26 [(true,[.str,.int .i64,.int .i64,.bool,.bool,.int .i64,.int .i64,.int .i64,.int .i64,.slice 80,.int .i64]),(true,[.str,.int .i64,.int .i64,.bool,.bool,.int .i64,.int .i64,.int .i64,.int .i64,.slice 80,.int .i64])] false (fun xs=>((⟨(cg (xs.getD 0 []) 0).toStr,(⟨(cg (xs.getD 0 []) 1).toInt,(cg (xs.getD 0 []) 2).toInt,(cg (xs.getD 0 []) 3).toBool,(cg (xs.getD 0 []) 4).toBool,(cg (xs.getD 0 []) 5).toInt,(cg (xs.getD 0 []) 6).toInt,(cg (xs.getD 0 []) 7).toInt,(cg (xs.getD 0 []) 8).toInt⟩:TDcb),((cg (xs.getD 0 []) 9).toSl.map d_TExtent),(cg (xs.getD 0 []) 10).toInt⟩:TDscb),(⟨(cg (xs.getD 1 []) 0).toStr,(⟨(cg (xs.getD 1 []) 1).toInt,(cg (xs.getD 1 []) 2).toInt,(cg (xs.getD 1 []) 3).toBool,(cg (xs.getD 1 []) 4).toBool,(cg (xs.getD 1 []) 5).toInt,(cg (xs.getD 1 []) 6).toInt,(cg (xs.getD 1 []) 7).toInt,(cg (xs.getD 1 []) 8).toInt⟩:TDcb),((cg (xs.getD 1 []) 9).toSl.map d_TExtent),(cg (xs.getD 1 []) 10).toInt⟩:TDscb))) (fun a=>[[.str a.1.Name,.int a.1.Dcb.Org,.int a.1.Dcb.Format,.bool a.1.Dcb.Blocked,.bool a.1.Dcb.Asa,.int a.1.Dcb.Lrecl,.int a.1.Dcb.Blksize,.int a.1.Dcb.KeyLen,.int a.1.Dcb.KeyPos,.slice (List.map e_TExtent a.1.Extents),.int a.1.Used],[.str a.2.Name,.int a.2.Dcb.Org,.int a.2.Dcb.Format,.bool a.2.Dcb.Blocked,.bool a.2.Dcb.Asa,.int a.2.Dcb.Lrecl,.int a.2.Dcb.Blksize,.int a.2.Dcb.KeyLen,.int a.2.Dcb.KeyPos,.slice (List.map e_TExtent a.2.Extents),.int a.2.Used]]) (fun a=>ref21_SameSet n a.1 a.2) (fun r=>[.c .bool (.bool r)]) (fun r=>[])
theorem cref21_SameSet (n:Nat):Contract Tryz.prog (xref21_SameSet n):=by
  have hΓ:=@g0 (Contract Tryz.prog)
  refine contract_f (Tryz.f26.body.getD .skip) h00 Tryz.func26 rfl Tryz.call26 (by decide) (by intro _ r;exact ⟨rfl,by simp⟩) ?_
  rintro ⟨a,b⟩ r H
  try dsimp only at H
  unfold ref21_SameSet at H
  simp only [Tryz.f26,Option.getD]
  refine rA ?_
  refine Sm.seqK fun K2 hK2=>?_
  refine rA ?_
  refine cnd H (fun h4 H=>?_) (fun h4 H=>?_)
  · refine rA ?_
    refine Sm.ret ?_
    refine lf ?_
    obtain rfl:=Option.some.inj H
    exact rt []
  refine Sm.skip ?_
  refine hK2 _ ?_
  refine Sm.cut (fun (x:Unit)=>ref21_SameSet_s1) (fun x=>ref21_SameSet_k1 n=some r) ?_ ?_
  · refine rA ?_
    refine Sm.block ?_
    obtain ⟨y8,hy8,Ho8⟩:=bind_some H
    refine Sm.loopB _ (fun x=>ref21_SameSet_t2 a b x) hy8 (wb [some 32,some 48]) ?_
    rintro k z8 H
    try dsimp only at H
    unfold ref21_SameSet_b2 at H
    refine Sm.st (ref21_SameSet_t2.eq_1 ..) ?_
    refine Sm.seqK fun K9 hK9=>?_
    refine rA ?_
    refine cnd H (fun h11 H=>?_) (fun h11 H=>?_)
    · refine Sm.skip ?_
      refine hK9 _ ?_
      refine Sm.seqK fun K12 hK12=>?_
      refine Sm.block ?_
      obtain ⟨⟨hg16,hg17⟩,H⟩:=gd_some H
      refine rD ?_
      refine cnd H (fun h14 H=>?_) (fun h14 H=>?_)
      · refine rA ?_
        refine Sm.ret ?_
        refine lf ?_
        refine lx H fun hyy=>?_
        subst hyy
        have H:=Ho8
        try dsimp only at H
        refine lf ?_
        obtain rfl:=Option.some.inj H
        exact rt []
      refine Sm.skip ?_
      refine hK12 _ ?_
      refine eA ?_
      refine lf ?_
      exact nx H (wb [some 9002,some 9003])
    refine Sm.exit ?_
    refine lf ?_
    refine lx H fun hyy=>?_
    subst hyy
    have H:=Ho8
    try dsimp only at H
    refine lf ?_
    exact ⟨(),H,wb []⟩
  rintro ⟨⟩ H
  try dsimp only at H
  unfold ref21_SameSet_k1 at H
  refine Sm.st (ref21_SameSet_s1.eq_1 ..) ?_
  refine rA ?_
  refine Sm.ret ?_
  refine lf ?_
  obtain rfl:=Option.some.inj H
  exact rt []
abbrev law21_spoil_R_s2 (v:TVtoc) (k:Int):S:=stB [(1,.box 9002 0),(2,.c (.int .i64) (.int k))] [(0,.wob),(9002,.box [.c .str (.str v.Serial),.c (.int .i64) (.int v.Cyls),.c (.int .i64) (.int v.Heads),.c (.int .i64) (.int v.Size),.rg 0 (.slice 41) (.slice (List.map e_TDscb v.Sets))])]
def law21_spoil_R_k2 (n:Nat) (v:TVtoc) (k:Int):Option ((Int) ⊕ ((Unit))) :=
  some (.inl (IntKind.wrap .i64 (k+1)))
abbrev law21_spoil_R_s3 (v:TVtoc) (k:Int):S:=stB [(1,.box 9003 0),(2,.c (.int .i64) (.int k))] [(0,.wob),(9003,.box [.c .str (.str v.Serial),.c (.int .i64) (.int v.Cyls),.c (.int .i64) (.int v.Heads),.c (.int .i64) (.int v.Size),.rg 0 (.slice 41) (.slice (List.map e_TDscb v.Sets))])]
def law21_spoil_R_k3 (n:Nat) (v:TVtoc) (k:Int):Option ((Int) ⊕ ((Unit))) :=
  gd ((0≤k∧k < (v.Sets.length:Int))) <|
  law21_spoil_R_k2 n v k
abbrev law21_spoil_R_t4 (v:TVtoc) (k:Int) (i:Int):S:=stB [(1,.box 9005 0),(2,.c (.int .i64) (.int k)),(3,.c (.int .i64) (.int i))] [(0,.wob),(9005,.box [.c .str (.str v.Serial),.c (.int .i64) (.int v.Cyls),.c (.int .i64) (.int v.Heads),.c (.int .i64) (.int v.Size),.rg 0 (.slice 41) (.slice (List.map e_TDscb v.Sets))])]
def law21_spoil_R_b4 (n:Nat) (v:TVtoc) (k:Int) (i:Int):Option ((Int) ⊕ ((Unit))) :=
  gd ((0≤k∧k < (v.Sets.length:Int))) <|
  bif (decide (i < (((gt v.Sets (Int.toNat k)).Extents).length:Int))) then
    gd ((0≤k∧k < (v.Sets.length:Int))∧(0≤i∧i < (((gt v.Sets (Int.toNat k)).Extents).length:Int))) <|
    some (.inl (IntKind.wrap .i64 (i+1)))
  else
    some (.inr ())
abbrev law21_spoil_R_t1 (v:TVtoc) (k:Int):S:=stB [(1,.box 9001 0),(2,.c (.int .i64) (.int k))] [(0,.wob),(9001,.box [.c .str (.str v.Serial),.c (.int .i64) (.int v.Cyls),.c (.int .i64) (.int v.Heads),.c (.int .i64) (.int v.Size),.rg 0 (.slice 41) (.slice (List.map e_TDscb v.Sets))])]
def law21_spoil_R_b1 (n:Nat) (v:TVtoc) (k:Int):Option ((Int) ⊕ ((Unit))) :=
  bif (decide (k < (v.Sets.length:Int))) then
    (loopF (fun (x:Int)=>law21_spoil_R_b4 n v k x) n 0).bind fun y9 =>
    law21_spoil_R_k3 n v k
  else
    some (.inr ())
def law21_spoil_R (n:Nat) (v:TVtoc):Option Unit :=
  (loopF (fun (x:Int)=>law21_spoil_R_b1 n v x) n 0).bind fun y3 =>
  some ()
theorem claw21_spoil_R (n:Nat) (v:TVtoc) (r:Unit) (H:law21_spoil_R n v=some r):CallsM Tryz.prog 27 [.ref (.agg [.c .str (.str v.Serial),.c (.int .i64) (.int v.Cyls),.c (.int .i64) (.int v.Heads),.c (.int .i64) (.int v.Size),.rg 0 (.slice 41) (.slice (List.map e_TDscb v.Sets))])] [.reg] [] [.wob]:=by
  have hΓ:=@g0 (Contract Tryz.prog)
  refine callsM_of (Tryz.f27.body.getD .skip) h00 Tryz.func27 rfl Tryz.call27 (Nat.le_of_ble_eq_true rfl) (Nat.le_of_ble_eq_true rfl) ?_
  unfold law21_spoil_R at H
  simp only [Tryz.f27,Option.getD]
  refine rA ?_
  refine rA ?_
  refine Sm.block ?_
  obtain ⟨y3,hy3,Ho3⟩:=bind_some H
  refine Sm.loopB _ (fun x=>law21_spoil_R_t1 v x) hy3 (wb [some 0,some 16]) ?_
  rintro k z3 H
  try dsimp only at H
  unfold law21_spoil_R_b1 at H
  refine Sm.st (law21_spoil_R_t1.eq_1 ..) ?_
  refine Sm.seqK fun K4 hK4=>?_
  refine sX fun K5 hK5=>?_
  iterate 3 refine oX ?_
  refine oE stepW_ok ?_
  refine oX ?_
  refine hK5 _ ?_
  refine cnd H (fun h6 H=>?_) (fun h6 H=>?_)
  · refine Sm.skip ?_
    refine hK4 _ ?_
    refine Sm.cut (fun (x:Unit)=>law21_spoil_R_s2 v k) (fun x=>law21_spoil_R_k2 n v k=some z3) ?_ ?_
    · refine Sm.block ?_
      refine Sm.cut (fun (x:Unit)=>law21_spoil_R_s3 v k) (fun x=>law21_spoil_R_k3 n v k=some z3) ?_ ?_
      · refine rA ?_
        refine Sm.block ?_
        obtain ⟨y9,hy9,Ho9⟩:=bind_some H
        refine Sm.loopB _ (fun x=>law21_spoil_R_t4 v k x) hy9 (wb [some 0,some 9001]) ?_
        rintro i z9 H
        try dsimp only at H
        unfold law21_spoil_R_b4 at H
        refine Sm.st (law21_spoil_R_t4.eq_1 ..) ?_
        refine Sm.seqK fun K10 hK10=>?_
        refine sX fun K11 hK11=>?_
        obtain ⟨hg12,H⟩:=gd_some H
        iterate 4 refine oX ?_
        refine oE stepW_ok ?_
        refine oE stepW_ok ?_
        refine oE stepW_ok ?_
        refine oE stepW_ok ?_
        refine oX ?_
        refine hK11 _ ?_
        refine cnd H (fun h13 H=>?_) (fun h13 H=>?_)
        · refine Sm.skip ?_
          refine hK10 _ ?_
          refine Sm.seqK fun K14 hK14=>?_
          refine Sm.block ?_
          refine eX ?_
          obtain ⟨⟨hg15,hg16⟩,H⟩:=gd_some H
          iterate 3 refine oX ?_
          refine oE stepW_ok ?_
          refine oE stepW_ok ?_
          refine oE stepW_ok ?_
          iterate 2 refine oX ?_
          refine oE stepW_ok ?_
          refine oE stepW_ok ?_
          refine opsX0 ?_
          refine hK14 _ ?_
          refine eA ?_
          refine lf ?_
          exact nx H (wb [some 0,some 9005])
        refine Sm.exit ?_
        refine lf ?_
        refine lx H fun hyy=>?_
        subst hyy
        have H:=Ho9
        try dsimp only at H
        refine lf ?_
        exact ⟨(),H,wb [some 0,some 9005]⟩
      rintro ⟨⟩ H
      try dsimp only at H
      unfold law21_spoil_R_k3 at H
      refine Sm.st (law21_spoil_R_s3.eq_1 ..) ?_
      refine eX ?_
      obtain ⟨hg7,H⟩:=gd_some H
      iterate 3 refine oX ?_
      refine oE stepW_ok ?_
      refine oE stepW_ok ?_
      refine oE stepW_ok ?_
      refine opsX0 ?_
      refine lf ?_
      exact ⟨(),H,wb [some 0,some 9003]⟩
    rintro ⟨⟩ H
    try dsimp only at H
    unfold law21_spoil_R_k2 at H
    refine Sm.st (law21_spoil_R_s2.eq_1 ..) ?_
    refine eA ?_
    refine lf ?_
    exact nx H (wb [some 0,some 9002])
  refine Sm.exit ?_
  refine lf ?_
  refine lx H fun hyy=>?_
  subst hyy
  have H:=Ho3
  try dsimp only at H
  refine lf ?_
  obtain rfl:=Option.some.inj H
  exact rtM [some 0]
abbrev ref21_Same_s1:S:=stB [] []
def ref21_Same_k1 (n:Nat):Option Bool :=
  some true
abbrev ref21_Same_t2 (a:TVtoc) (b:TVtoc) (k:Int):S:=stB [(2,.box 9002 0),(3,.box 9003 0),(5,.c (.int .i64) (.int k))] [(9002,.box [.c .str (.str a.Serial),.c (.int .i64) (.int a.Cyls),.c (.int .i64) (.int a.Heads),.c (.int .i64) (.int a.Size),.c (.slice 41) (.slice (List.map e_TDscb a.Sets))]),(9003,.box [.c .str (.str b.Serial),.c (.int .i64) (.int b.Cyls),.c (.int .i64) (.int b.Heads),.c (.int .i64) (.int b.Size),.c (.slice 41) (.slice (List.map e_TDscb b.Sets))])]
def ref21_Same_b2 (n:Nat) (a:TVtoc) (b:TVtoc) (k:Int):Option ((Int) ⊕ (((Bool) ⊕ (Unit)))) :=
  bif (decide (k < (a.Sets.length:Int))) then
    gd ((0≤k∧k < (a.Sets.length:Int))∧(0≤k∧k < (b.Sets.length:Int))) <|
    (ref21_SameSet n (gt a.Sets (Int.toNat k)) (gt b.Sets (Int.toNat k))).bind fun r1 =>
    bif (!r1) then
      some (.inr (.inl false))
    else
      some (.inl (IntKind.wrap .i64 (k+1)))
  else
    some (.inr (.inr ()))
def ref21_Same (n:Nat) (a:TVtoc) (b:TVtoc):Option Bool :=
  bif (if (if (if (if (a.Serial != b.Serial)=true then true else (a.Cyls != b.Cyls))=true then true else (a.Heads != b.Heads))=true then true else (a.Size != b.Size))=true then true else ((a.Sets.length:Int) != (b.Sets.length:Int))) then
    some false
  else
    (loopF (fun (x:Int)=>ref21_Same_b2 n a b x) n 0).bind fun y8 =>
    match y8 with
    | .inl vv =>
      some vv
    | .inr vv =>
      ref21_Same_k1 n
def xref21_Same (n:Nat):Go.AE.Fn:=mkFn (A:=TVtoc×TVtoc) (R:=Bool) 19 [(true,[.str,.int .i64,.int .i64,.int .i64,.slice 41]),(true,[.str,.int .i64,.int .i64,.int .i64,.slice 41])] false (fun xs=>((⟨(cg (xs.getD 0 []) 0).toStr,(cg (xs.getD 0 []) 1).toInt,(cg (xs.getD 0 []) 2).toInt,(cg (xs.getD 0 []) 3).toInt,((cg (xs.getD 0 []) 4).toSl.map d_TDscb)⟩:TVtoc),(⟨(cg (xs.getD 1 []) 0).toStr,(cg (xs.getD 1 []) 1).toInt,(cg (xs.getD 1 []) 2).toInt,(cg (xs.getD 1 []) 3).toInt,((cg (xs.getD 1 []) 4).toSl.map d_TDscb)⟩:TVtoc))) (fun a=>[[.str a.1.Serial,.int a.1.Cyls,.int a.1.Heads,.int a.1.Size,.slice (List.map e_TDscb a.1.Sets)],[.str a.2.Serial,.int a.2.Cyls,.int a.2.Heads,.int a.2.Size,.slice (List.map e_TDscb a.2.Sets)]]) (fun a=>ref21_Same n a.1 a.2) (fun r=>[.c .bool (.bool r)]) (fun r=>[])
theorem cref21_Same (n:Nat):Contract Tryz.prog (xref21_Same n):=by
  have hΓ:=g1 (cref21_SameSet n) (@g0 (Contract Tryz.prog))
  refine contract_f (Tryz.f19.body.getD .skip) h00 Tryz.func19 rfl Tryz.call19 (by decide) (by intro _ r;exact ⟨rfl,by simp⟩) ?_
  rintro ⟨a,b⟩ r H
  try dsimp only at H
  unfold ref21_Same at H
  simp only [Tryz.f19,Option.getD]
  refine rA ?_
  refine Sm.seqK fun K2 hK2=>?_
  refine rA ?_
  refine cnd H (fun h4 H=>?_) (fun h4 H=>?_)
  · refine rA ?_
    refine Sm.ret ?_
    refine lf ?_
    obtain rfl:=Option.some.inj H
    exact rt []
  refine Sm.skip ?_
  refine hK2 _ ?_
  refine Sm.cut (fun (x:Unit)=>ref21_Same_s1) (fun x=>ref21_Same_k1 n=some r) ?_ ?_
  · refine rA ?_
    refine Sm.block ?_
    obtain ⟨y8,hy8,Ho8⟩:=bind_some H
    refine Sm.loopB _ (fun x=>ref21_Same_t2 a b x) hy8 (wb [some 32,some 48]) ?_
    rintro k z8 H
    try dsimp only at H
    unfold ref21_Same_b2 at H
    refine Sm.st (ref21_Same_t2.eq_1 ..) ?_
    refine Sm.seqK fun K9 hK9=>?_
    refine rA ?_
    refine cnd H (fun h11 H=>?_) (fun h11 H=>?_)
    · refine Sm.skip ?_
      refine hK9 _ ?_
      refine Sm.seqK fun K12 hK12=>?_
      refine Sm.block ?_
      obtain ⟨⟨hg16,hg17⟩,H⟩:=gd_some H
      obtain ⟨r1,hr1,H⟩:=bind_some H
      have q:=And.intro @xref21_SameSet.eq_1 hr1
      refine rDq ?_
      refine cnd H (fun h14 H=>?_) (fun h14 H=>?_)
      · refine rA ?_
        refine Sm.ret ?_
        refine lf ?_
        refine lx H fun hyy=>?_
        subst hyy
        have H:=Ho8
        try dsimp only at H
        refine lf ?_
        obtain rfl:=Option.some.inj H
        exact rt []
      refine Sm.skip ?_
      refine hK12 _ ?_
      refine eA ?_
      refine lf ?_
      exact nx H (wb [some 9002,some 9003])
    refine Sm.exit ?_
    refine lf ?_
    refine lx H fun hyy=>?_
    subst hyy
    have H:=Ho8
    try dsimp only at H
    refine lf ?_
    exact ⟨(),H,wb []⟩
  rintro ⟨⟩ H
  try dsimp only at H
  unfold ref21_Same_k1 at H
  refine Sm.st (ref21_Same_s1.eq_1 ..) ?_
  refine rA ?_
  refine Sm.ret ?_
  refine lf ?_
  obtain rfl:=Option.some.inj H
  exact rt []
end Go.Proofs.YtijnkhcfondehaaGreatDoor
