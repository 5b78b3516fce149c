/- Text. -/
import Derived.Test.YtijnkhcfondehaaGreatDoorT
import Derived.Test.YtijnkhcfondehaaGreatDoorL166
import Derived.Test.YtijnkhcfondehaaGreatDoorN2
import Derived.Test.YtijnkhcfondehaaGreatDoorJ
set_option maxHeartbeats 8000000
set_option linter.unusedVariables false
set_option linter.unusedSimpArgs false
set_option maxRecDepth 100000
open _root_.Bool renaming not_false→j9,not_true→Jg,false_eq_true→jw
open Go.IntKind renaming wrap→jc,bits→Jc
open _root_.Nat renaming le_of_ble_eq_true→ju
open _root_.Option renaming getD→jn
open Go.AE.Sm renaming ret→jp,seqK→jj,skip→jo,cut→jS,block→jr,loopB→jL,exit→jR
open Go.Proofs.Tryz renaming prog→jd
namespace Go.Proofs.YtijnkhcfondehaaGreatDoor
open Go.AE
def ajv (n:Nat) (n_:Int) (lo:Int) (hi:Int):Option Bool :=
 some (if (decide (lo≤n_))=true then (decide (n_≤hi)) else false)
def cy0 (n:Nat):Go.AE.Fn:=mkFn (A:=Int×Int×Int) (R:=Bool) 67 [(false,[.int .i64]),(false,[.int .i64]),(false,[.int .i64])] false (fun xs=>((cg (xs.getD 0 []) 0).toInt,(cg (xs.getD 1 []) 0).toInt,(cg (xs.getD 2 []) 0).toInt)) (fun a=>[[.int a.1],[.int a.2.1],[.int a.2.2]]) (fun a=>ajv n a.1 a.2.1 a.2.2) (fun r=>[.c .bool (.bool r)]) (fun r=>[])
theorem dzn (n:Nat):aj1 jd (cy0 n):=by
 have hΓ:=@g0 (aj1 jd)
 refine aj6 (Tryz.f67.body.getD .skip) h00 Tryz.func67 rfl Tryz.call67 (by decide) (by intro _ r;exact ⟨rfl,by simp⟩) ?_
 rintro ⟨n_,lo,hi⟩ r H
 try dsimp only at H
 unfold ajv at H
 simp only [Tryz.f67,jn]
 refine rA ?_
 refine rA ?_
 refine jp ?_
 refine lf ?_
 obtain rfl:=Option.some.inj H
 exact rt []
abbrev dz1:S:=stB [] []
def cjb (n:Nat):Option Bool :=
 some true
abbrev dwi (v9:List (List UInt8)) (v10:Int) (v11:Int):S:=stB [(9,.own 9001 [.str] 0 v9.length),(10,.c (.int .i64) (.int v10)),(11,.c (.int .i64) (.int v11))] [(9001,.row 9 (List.map djr v9))]
def dqx (n:Nat) (v9:List (List UInt8)) (v10:Int) (v11:Int):Option ((Int) ⊕ (((Bool) ⊕ (Unit)))) :=
 bif (decide (v11 < v10)) then
  gd ((0≤v11∧v11 < (v9.length:Int))∧(Int.toNat v11) < v9.length) <|
  gd (((!(if (decide (((gt v9 (Int.toNat v11)).length:Int) < 1))=true then true else (decide (((gt v9 (Int.toNat v11)).length:Int) > 8))))=true→0 < ((gt v9 (Int.toNat v11)).length:Int))∧(((!(if (decide (((gt v9 (Int.toNat v11)).length:Int) < 1))=true then true else (decide (((gt v9 (Int.toNat v11)).length:Int) > 8)))) && (decide (((((gt v9 (Int.toNat v11)).getD 0 0).toNat:Nat):Int) ≥ 48)))=true→0 < ((gt v9 (Int.toNat v11)).length:Int))) <|
  bif (if (if (decide (((gt v9 (Int.toNat v11)).length:Int) < 1))=true then true else (decide (((gt v9 (Int.toNat v11)).length:Int) > 8)))=true then true else (if (decide (((((gt v9 (Int.toNat v11)).getD 0 0).toNat:Nat):Int) ≥ 48))=true then (decide (((((gt v9 (Int.toNat v11)).getD 0 0).toNat:Nat):Int)≤57)) else false)) then
   some (.inr (.inl false))
  else
   (akr n (gt v9 (Int.toNat v11)) [65,66,67,68,69,70,71,72,73,74,75,76,77,78,79,80,81,82,83,84,85,86,87,88,89,90,48,49,50,51,52,53,54,55,56,57,64,35,36]).bind fun r2 =>
   bif (r2 != []) then
    some (.inr (.inl false))
   else
    some (.inl (jc .i64 (v11+1)))
 else
  some (.inr (.inr ()))
def ajg (n:Nat) (s:List UInt8):Option Bool :=
 bif (decide ((s.length:Int) > 44)) then
  some false
 else
  (strings_Split n s [46]).bind fun r1 =>
  (aql (fun (x:Int)=>dqx n r1 ((r1.length:Nat):Int) x) n 0).bind fun y8 =>
  match y8 with
  | .inl vv =>
   some vv
  | .inr vv =>
   cjb n
def cw8 (n:Nat):Go.AE.Fn:=mkFn (A:=(List UInt8)) (R:=Bool) 17 [(false,[.str])] false (fun xs=>(cg (xs.getD 0 []) 0).toStr) (fun a=>[[.str a]]) (fun a=>ajg n a) (fun r=>[.c .bool (.bool r)]) (fun r=>[])
theorem dqr (n:Nat):aj1 jd (cw8 n):=by
 have hΓ:=g1 (dyw n) (g1 (cy6 n) (@g0 (aj1 jd)))
 have qe:=aI @ayq.eq_1 @azv.eq_1
 refine aj6 (Tryz.f17.body.getD .skip) h00 Tryz.func17 rfl Tryz.call17 (by decide) (by intro _ r;exact ⟨rfl,by simp⟩) ?_
 rintro s r H
 try dsimp only at H
 unfold ajg at H
 simp only [Tryz.f17,jn]
 refine rA ?_
 refine jj fun K2 hK2=>?_
 refine rA ?_
 refine cnd H (fun h4 H=>?_) (fun h4 H=>?_)
 ·refine rA ?_
  refine jp ?_
  refine lf ?_
  obtain rfl:=Option.some.inj H
  exact rt []
 refine jo ?_
 refine hK2 _ ?_
 refine jS (fun (x:Unit)=>dz1) (fun x=>cjb n=some r) ?_ ?_
 ·obtain ⟨r1,hr1,H⟩:=bind_some H
  have q:=aI qe hr1
  refine rAq ?_
  refine jr ?_
  obtain ⟨y8,hy8,Ho8⟩:=bind_some H
  refine jL _ (fun x=>dwi r1 ((r1.length:Nat):Int) x) hy8 (wb [some 144]) ?_
  rintro v11 z8 H
  try dsimp only at H
  unfold dqx at H
  refine Sm.st (dwi.eq_1 ..) ?_
  refine rA ?_
  refine jj fun K10 hK10=>?_
  refine cnd H (fun h11 H=>?_) (fun h11 H=>?_)
  ·refine jo ?_
   refine hK10 _ ?_
   refine jj fun K12 hK12=>?_
   refine jr ?_
   obtain ⟨⟨hg23,hg24⟩,H⟩:=aj3 H
   refine rA ?_
   refine jj fun K14 hK14=>?_
   obtain ⟨⟨hg21,hg22⟩,H⟩:=aj3 H
   refine rA ?_
   refine cnd H (fun h16 H=>?_) (fun h16 H=>?_)
   ·refine rA ?_
    refine jp ?_
    refine lf ?_
    refine lx H fun hyy=>?_
    subst hyy
    have H:=Ho8
    try dsimp only at H
    refine lf ?_
    obtain rfl:=Option.some.inj H
    exact rt []
   refine jo ?_
   refine hK14 _ ?_
   obtain ⟨r2,hr2,H⟩:=bind_some H
   have q:=aI qe hr2
   refine rAq ?_
   refine cnd H (fun h19 H=>?_) (fun h19 H=>?_)
   ·refine rA ?_
    refine jp ?_
    refine lf ?_
    refine lx H fun hyy=>?_
    subst hyy
    have H:=Ho8
    try dsimp only at H
    refine lf ?_
    obtain rfl:=Option.some.inj H
    exact rt []
   refine jo ?_
   refine hK12 _ ?_
   refine eA ?_
   refine lf ?_
   exact nx H (wb [some 9001])
  refine jR ?_
  refine lf ?_
  refine lx H fun hyy=>?_
  subst hyy
  have H:=Ho8
  try dsimp only at H
  refine lf ?_
  exact ⟨(),H,wb []⟩
 rintro ⟨⟩ H
 try dsimp only at H
 unfold cjb at H
 refine Sm.st (dz1.eq_1 ..) ?_
 refine rA ?_
 refine jp ?_
 refine lf ?_
 obtain rfl:=Option.some.inj H
 exact rt []
def aqg (n:Nat) (d:TDcb):Option Bool :=
 (ajv n d.Org 1 3).bind fun r1 =>
 gd ((r1=true→(ajv n d.Format 1 3).isSome=true)∧((if r1=true then ((ajv n d.Format 1 3).getD default) else false)=true→(ajv n d.Lrecl 0 1024).isSome=true)∧((if (if r1=true then ((ajv n d.Format 1 3).getD default) else false)=true then ((ajv n d.Lrecl 0 1024).getD default) else false)=true→(ajv n d.Blksize 0 1024).isSome=true)∧((if (if (if r1=true then ((ajv n d.Format 1 3).getD default) else false)=true then ((ajv n d.Lrecl 0 1024).getD default) else false)=true then ((ajv n d.Blksize 0 1024).getD default) else false)=true→(ajv n d.KeyPos 0 1024).isSome=true)∧((if (if (if (if r1=true then ((ajv n d.Format 1 3).getD default) else false)=true then ((ajv n d.Lrecl 0 1024).getD default) else false)=true then ((ajv n d.Blksize 0 1024).getD default) else false)=true then ((ajv n d.KeyPos 0 1024).getD default) else false)=true→(ajv n d.KeyLen 0 64).isSome=true)) <|
 some (if (if (if (if (if r1=true then ((ajv n d.Format 1 3).getD default) else false)=true then ((ajv n d.Lrecl 0 1024).getD default) else false)=true then ((ajv n d.Blksize 0 1024).getD default) else false)=true then ((ajv n d.KeyPos 0 1024).getD default) else false)=true then ((ajv n d.KeyLen 0 64).getD default) else false)
def ay4 (n:Nat):Go.AE.Fn:=mkFn (A:=TDcb) (R:=Bool) 84 [(true,[.int .i64,.int .i64,.bool,.bool,.int .i64,.int .i64,.int .i64,.int .i64])] false (fun xs=>(⟨(cg (xs.getD 0 []) 0).toInt,(cg (xs.getD 0 []) 1).toInt,(cg (xs.getD 0 []) 2).toBool,(cg (xs.getD 0 []) 3).toBool,(cg (xs.getD 0 []) 4).toInt,(cg (xs.getD 0 []) 5).toInt,(cg (xs.getD 0 []) 6).toInt,(cg (xs.getD 0 []) 7).toInt⟩:TDcb)) (fun a=>[[.int a.Org,.int a.Format,.bool a.Blocked,.bool a.Asa,.int a.Lrecl,.int a.Blksize,.int a.KeyLen,.int a.KeyPos]]) (fun a=>aqg n a) (fun r=>[.c .bool (.bool r)]) (fun r=>[])
theorem bqm (n:Nat):aj1 jd (ay4 n):=by
 have hΓ:=g1 (dzn n) (@g0 (aj1 jd))
 refine aj6 (Tryz.f84.body.getD .skip) h00 Tryz.func84 rfl Tryz.call84 (by decide) (by intro _ r;exact ⟨rfl,by simp⟩) ?_
 rintro d r H
 try dsimp only at H
 unfold aqg at H
 simp only [Tryz.f84,jn]
 refine rA ?_
 obtain ⟨r1,hr1,H⟩:=bind_some H
 obtain ⟨⟨hg3,hg4,hg5,hg6,hg7⟩,H⟩:=aj3 H
 have q:=aI @cy0.eq_1 hr1
 refine rAq ?_
 refine jp ?_
 refine lf ?_
 obtain rfl:=Option.some.inj H
 exact rt []
def bw9 (n:Nat) (x_:aj0):Option Bool :=
 some (if (if (if (decide (x_.At ≥ 0))=true then (decide (x_.Len ≥ 1)) else false)=true then (decide (x_.At < 512)) else false)=true then (decide (x_.Len≤(jc .i64 (512 - x_.At)))) else false)
def bzo (n:Nat):Go.AE.Fn:=mkFn (A:=aj0) (R:=Bool) 125 [(true,[.int .i64,.int .i64])] false (fun xs=>(⟨(cg (xs.getD 0 []) 0).toInt,(cg (xs.getD 0 []) 1).toInt⟩:aj0)) (fun a=>[[.int a.At,.int a.Len]]) (fun a=>bw9 n a) (fun r=>[.c .bool (.bool r)]) (fun r=>[])
theorem cye (n:Nat):aj1 jd (bzo n):=by
 have hΓ:=@g0 (aj1 jd)
 refine aj6 (Tryz.f125.body.getD .skip) h00 Tryz.func125 rfl Tryz.call125 (by decide) (by intro _ r;exact ⟨rfl,by simp⟩) ?_
 rintro x_ r H
 try dsimp only at H
 unfold bw9 at H
 simp only [Tryz.f125,jn]
 refine rA ?_
 refine rA ?_
 refine jp ?_
 refine lf ?_
 obtain rfl:=Option.some.inj H
 exact rt []
def awr (n:Nat) (s:List aj0):Option (List aj0) :=
 uniB s fun nb1 =>
 bif nb1 then
  some []
 else
  gd (s.length≤2147483648) <|
  some s
def aqn (n:Nat):Go.AE.Fn:=mkFn (A:=(List aj0)) (R:=(List aj0)) 118 [(false,[.slice 80])] false (fun xs=>((cg (xs.getD 0 []) 0).toSl.map aji)) (fun a=>[[.slice (List.map aj2 a)]]) (fun a=>awr n a) (fun r=>[.own 0 [.int .i64,.int .i64] 0 r.length]) (fun r=>[.row 80 (List.map aj2 r)])
theorem aze (n:Nat):aj1 jd (aqn n):=by
 have hΓ:=@g0 (aj1 jd)
 refine aj6 (Tryz.f118.body.getD .skip) h00 Tryz.func118 rfl Tryz.call118 (by decide) (fun _ r=>⟨rfl,m1 ⟨80,_,_,rfl,ty80,rfl⟩ m0⟩) ?_
 rintro s r H
 try dsimp only at H
 unfold awr at H
 simp only [Tryz.f118,jn]
 refine rA ?_
 refine jj fun K2 hK2=>?_
 refine sX fun K3 hK3=>?_
 refine oX ?_
 refine opsN fun K hK=>?_;simp only [z,seval];(repeat (first | refine gcI ?_ | refine fun (_:_≤_)=>?_));intro nb1 hnb1;refine hK _ ?_;clear hK K
 replace H:=fyv H nb1 (fun hb=>by simpa using hnb1 hb)
 refine hK3 _ ?_
 refine cnd H (fun h4 H=>?_) (fun h4 H=>?_)
 ·refine rA ?_
  refine jp ?_
  refine lf ?_
  obtain rfl:=Option.some.inj H
  exact rto [none]
 refine jo ?_
 refine hK2 _ ?_
 obtain ⟨hg7,H⟩:=aj3 H
 refine rA ?_
 refine jp ?_
 refine lf ?_
 obtain rfl:=Option.some.inj H
 exact rto [some 112]
def bwj (n:Nat) (x_:Int):Option Bool :=
 some (x_ != x_)
def by1 (n:Nat) (x_:Int) (y:Int):Option Int :=
 (bwj n x_).bind fun r1 =>
 (bwj n y).bind fun r2 =>
 bif r1 then
  bif r2 then
   some 0
  else
   some (-1)
 else
  bif r2 then
   some 1
  else
   bif (decide (x_ < y)) then
    some (-1)
   else
    bif (decide (x_ > y)) then
     some 1
    else
     some 0
def bjx (n:Nat) (a:aj0) (b:aj0):Option Int :=
 (by1 n a.At b.At).bind fun r1 =>
 some r1
def ak6 (n:Nat) (s:List aj0):Option (List aj0):=gje (fun x y=>bjx n x y) s
theorem bqq (n:Nat) (s:List aj0) (r:List aj0) (H:ak6 n s=some r):awi jd 164 [.ref (.own 0 [.int .i64,.int .i64] 0 s.length),.ref (.fnv 165 [])] [.row 80 (List.map aj2 s)] [] [.row 80 (List.map aj2 r)] :=
 ek1 gk7 ty80 Tryz.isAgg80 Tryz.sizeOf80 (by decide) (by decide) (by intro args w;exact Tryz.call165 args w) aj2 (fun _=>rfl) (fun x y=>bjx n x y) (fun x y c h=>gzt _ _ _ _ _ (by
  simp only [bjx,by1,bwj,Option.bind_some,bne_self_eq_false,cond_false,gt_iff_lt] at h
  by_cases h1:x.At < y.At <;> by_cases h2:y.At < x.At <;> simp [h1,h2] at h ⊢ <;> first | exact h.symm | omega)) s r H
def bjk (n:Nat) (l:List aj0):Option (List aj0) :=
 (awr n l).bind fun r1 =>
 (ak6 n r1).bind fun r2 =>
 some (List.take r1.length r2)
def bwg (n:Nat):Go.AE.Fn:=mkFn (A:=(List aj0)) (R:=(List aj0)) 126 [(false,[.slice 80])] true (fun xs=>((cg (xs.getD 0 []) 0).toSl.map aji)) (fun a=>[[.slice (List.map aj2 a)]]) (fun a=>bjk n a) (fun r=>[.c (.slice 80) (.slice (List.map aj2 r))]) (fun r=>[])
theorem cwi (n:Nat):aj1 jd (bwg n):=by
 have hΓ:=g1 (aze n) (@g0 (aj1 jd))
 refine aj6 (Tryz.f126.body.getD .skip) h00 Tryz.func126 rfl Tryz.call126 (by decide) (by intro h;cases h) ?_
 rintro l r H
 try dsimp only at H
 unfold bjk at H
 simp only [Tryz.f126,jn]
 refine rA ?_
 obtain ⟨r1,hr1,H⟩:=bind_some H
 have q:=aI @aqn.eq_1 hr1
 refine rAq ?_
 refine sX fun K3 hK3=>?_
 obtain ⟨r2,hr2,H⟩:=bind_some H
 have q:=hr2
 refine oX ?_
 refine oMq (bqq n _ r2 hr2) [80] [] ?_
 refine hK3 _ ?_
 refine rA ?_
 refine jp ?_
 refine lf ?_
 obtain rfl:=Option.some.inj H
 exact rt []
abbrev cj9:S:=stB [] []
def bq3 (n:Nat):Option Bool :=
 some true
abbrev cja (s:List aj0) (i:Int):S:=stB [(5,.c (.slice 80) (.slice (List.map aj2 s))),(6,.c (.int .i64) (.int i))] []
def cjm (n:Nat) (s:List aj0) (i:Int):Option ((Int) ⊕ (((Bool) ⊕ (Unit)))) :=
 bif (decide (i < (s.length:Int))) then
  gd ((0≤i∧i < (s.length:Int))∧(0≤(jc .i64 (i - 1))∧(jc .i64 (i - 1)) < (s.length:Int))∧(0≤(jc .i64 (i - 1))∧(jc .i64 (i - 1)) < (s.length:Int))) <|
  bif (decide (((gt s (Int.toNat i)).At) < (jc .i64 (((gt s (Int.toNat (jc .i64 (i - 1)))).At)+((gt s (Int.toNat (jc .i64 (i - 1)))).Len))))) then
   some (.inr (.inl false))
  else
   some (.inl (jc .i64 (i+1)))
 else
  some (.inr (.inr ()))
abbrev cj3 (l:List aj0):S:=stB [(0,.c (.slice 80) (.slice (List.map aj2 l)))] []
def bjv (n:Nat) (l:List aj0):Option Bool :=
 (bjk n l).bind fun r1 =>
 (aql (fun (x:Int)=>cjm n r1 x) n 1).bind fun y9 =>
 match y9 with
 | .inl vv =>
  some vv
 | .inr vv =>
  bq3 n
abbrev cqe (l:List aj0) (v11:Int) (v12:Int):S:=stB [(0,.c (.slice 80) (.slice (List.map aj2 l))),(10,.c (.slice 80) (.slice (List.map aj2 l))),(11,.c (.int .i64) (.int v11)),(12,.c (.int .i64) (.int v12))] []
def cqh (n:Nat) (l:List aj0) (v11:Int) (v12:Int):Option ((Int) ⊕ (((Bool) ⊕ (Unit)))) :=
 bif (decide (v12 < v11)) then
  gd ((0≤v12∧v12 < (l.length:Int))) <|
  (bw9 n (gt l (Int.toNat v12))).bind fun r2 =>
  bif (!r2) then
   some (.inr (.inl false))
  else
   some (.inl (jc .i64 (v12+1)))
 else
  some (.inr (.inr ()))
def aqh (n:Nat) (l:List aj0):Option Bool :=
 bif (decide ((l.length:Int) > 512)) then
  some false
 else
  (aql (fun (x:Int)=>cqh n l (l.length:Int) x) n 0).bind fun y21 =>
  match y21 with
  | .inl vv =>
   some vv
  | .inr vv =>
   bjv n l
def az2 (n:Nat):Go.AE.Fn:=mkFn (A:=(List aj0)) (R:=Bool) 69 [(false,[.slice 80])] false (fun xs=>((cg (xs.getD 0 []) 0).toSl.map aji)) (fun a=>[[.slice (List.map aj2 a)]]) (fun a=>aqh n a) (fun r=>[.c .bool (.bool r)]) (fun r=>[])
theorem ak1 (n:Nat):aj1 jd (az2 n):=by
 have hΓ:=g1 (cye n) (g1 (cwi n) (@g0 (aj1 jd)))
 have qe:=aI @bzo.eq_1 @bwg.eq_1
 refine aj6 (Tryz.f69.body.getD .skip) h00 Tryz.func69 rfl Tryz.call69 (by decide) (by intro _ r;exact ⟨rfl,by simp⟩) ?_
 rintro l r H
 try dsimp only at H
 unfold aqh at H
 simp only [Tryz.f69,jn]
 refine rA ?_
 refine jj fun K2 hK2=>?_
 refine rA ?_
 refine cnd H (fun h4 H=>?_) (fun h4 H=>?_)
 ·refine rA ?_
  refine jp ?_
  refine lf ?_
  obtain rfl:=Option.some.inj H
  exact rt []
 refine jo ?_
 refine hK2 _ ?_
 refine jS (fun (x:Unit)=>cj3 l) (fun x=>bjv n l=some r) ?_ ?_
 ·refine rA ?_
  refine jr ?_
  obtain ⟨y21,hy21,Ho21⟩:=bind_some H
  refine jL _ (fun x=>cqe l (l.length:Int) x) hy21 (wb []) ?_
  rintro v12 z21 H
  try dsimp only at H
  unfold cqh at H
  refine Sm.st (cqe.eq_1 ..) ?_
  refine rA ?_
  refine jj fun K23 hK23=>?_
  refine cnd H (fun h24 H=>?_) (fun h24 H=>?_)
  ·refine jo ?_
   refine hK23 _ ?_
   refine jj fun K25 hK25=>?_
   refine jr ?_
   obtain ⟨hg30,H⟩:=aj3 H
   refine rA ?_
   obtain ⟨r2,hr2,H⟩:=bind_some H
   have q:=aI qe hr2
   refine rAq ?_
   refine cnd H (fun h28 H=>?_) (fun h28 H=>?_)
   ·refine rA ?_
    refine jp ?_
    refine lf ?_
    refine lx H fun hyy=>?_
    subst hyy
    have H:=Ho21
    try dsimp only at H
    refine lf ?_
    obtain rfl:=Option.some.inj H
    exact rt []
   refine jo ?_
   refine hK25 _ ?_
   refine eA ?_
   refine lf ?_
   exact nx H (wb [])
  refine jR ?_
  refine lf ?_
  refine lx H fun hyy=>?_
  subst hyy
  have H:=Ho21
  try dsimp only at H
  refine lf ?_
  exact ⟨(),H,wb []⟩
 rintro ⟨⟩ H
 try dsimp only at H
 unfold bjv at H
 refine Sm.st (cj3.eq_1 ..) ?_
 obtain ⟨r1,hr1,H⟩:=bind_some H
 have q:=aI qe hr1
 refine rAq ?_
 refine jS (fun (x:Unit)=>cj9) (fun x=>bq3 n=some r) ?_ ?_
 ·refine rA ?_
  refine jr ?_
  obtain ⟨y9,hy9,Ho9⟩:=bind_some H
  refine jL _ (fun x=>cja r1 x) hy9 (wb []) ?_
  rintro i z9 H
  try dsimp only at H
  unfold cjm at H
  refine Sm.st (cja.eq_1 ..) ?_
  refine jj fun K10 hK10=>?_
  refine rA ?_
  refine cnd H (fun h12 H=>?_) (fun h12 H=>?_)
  ·refine jo ?_
   refine hK10 _ ?_
   refine jj fun K13 hK13=>?_
   refine jr ?_
   obtain ⟨⟨hg17,hg18,hg19⟩,H⟩:=aj3 H
   refine rD ?_
   refine cnd H (fun h15 H=>?_) (fun h15 H=>?_)
   ·refine rA ?_
    refine jp ?_
    refine lf ?_
    refine lx H fun hyy=>?_
    subst hyy
    have H:=Ho9
    try dsimp only at H
    refine lf ?_
    obtain rfl:=Option.some.inj H
    exact rt []
   refine jo ?_
   refine hK13 _ ?_
   refine eA ?_
   refine lf ?_
   exact nx H (wb [])
  refine jR ?_
  refine lf ?_
  refine lx H fun hyy=>?_
  subst hyy
  have H:=Ho9
  try dsimp only at H
  refine lf ?_
  exact ⟨(),H,wb []⟩
 rintro ⟨⟩ H
 try dsimp only at H
 unfold bq3 at H
 refine Sm.st (cj9.eq_1 ..) ?_
 refine rA ?_
 refine jp ?_
 refine lf ?_
 obtain rfl:=Option.some.inj H
 exact rt []
abbrev cq1 (n_:Int):S:=stB [(3,.c (.int .i64) (.int n_))] []
def bqk (n:Nat) (n_:Int):Option Int :=
 some n_
abbrev cqm (l:List aj0) (v10:Int) (n__1:Int) (v11:Int):S:=stB [(3,.c (.int .i64) (.int n__1)),(9,.c (.slice 80) (.slice (List.map aj2 l))),(10,.c (.int .i64) (.int v10)),(11,.c (.int .i64) (.int v11))] []
def cjl (n:Nat) (l:List aj0) (v10:Int) (n__1:Int) (v11:Int):Option ((Int×Int) ⊕ ((Int))) :=
 bif (decide (v11 < v10)) then
  gd ((0≤v11∧v11 < (l.length:Int))) <|
  some (.inl ((jc .i64 (n__1+((gt l (Int.toNat v11)).Len))),(jc .i64 (v11+1))))
 else
  some (.inr n__1)
def bw7 (n:Nat) (l:List aj0):Option Int :=
 (aqh n l).bind fun r1 =>
 bif (!r1) then
  some 0
 else
  (aql (fun (x:Int×Int)=>cjl n l (l.length:Int) x.1 x.2) n (0,0)).bind fun y9 =>
  bqk n y9
def bka (n:Nat):Go.AE.Fn:=mkFn (A:=(List aj0)) (R:=Int) 99 [(false,[.slice 80])] false (fun xs=>((cg (xs.getD 0 []) 0).toSl.map aji)) (fun a=>[[.slice (List.map aj2 a)]]) (fun a=>bw7 n a) (fun r=>[.c (.int .i64) (.int r)]) (fun r=>[])
theorem dj3 (n:Nat):aj1 jd (bka n):=by
 have hΓ:=g1 (ak1 n) (@g0 (aj1 jd))
 refine aj6 (Tryz.f99.body.getD .skip) h00 Tryz.func99 rfl Tryz.call99 (by decide) (by intro _ r;exact ⟨rfl,by simp⟩) ?_
 rintro l r H
 try dsimp only at H
 unfold bw7 at H
 simp only [Tryz.f99,jn]
 refine rA ?_
 refine jj fun K2 hK2=>?_
 obtain ⟨r1,hr1,H⟩:=bind_some H
 have q:=aI @az2.eq_1 hr1
 refine rAq ?_
 refine cnd H (fun h4 H=>?_) (fun h4 H=>?_)
 ·refine rA ?_
  refine jp ?_
  refine lf ?_
  obtain rfl:=Option.some.inj H
  exact rt []
 refine jo ?_
 refine hK2 _ ?_
 refine rA ?_
 refine jS (fun (x:Int)=>cq1 x) (fun x=>bqk n x=some r) ?_ ?_
 ·refine rA ?_
  refine jr ?_
  obtain ⟨y9,hy9,Ho9⟩:=bind_some H
  refine jL _ (fun x=>cqm l (l.length:Int) x.1 x.2) hy9 (wb []) ?_
  rintro ⟨n__1,v11⟩ z9 H
  try dsimp only at H
  unfold cjl at H
  refine Sm.st (cqm.eq_1 ..) ?_
  refine rA ?_
  refine jj fun K11 hK11=>?_
  refine cnd H (fun h12 H=>?_) (fun h12 H=>?_)
  ·refine jo ?_
   refine hK11 _ ?_
   refine jj fun K13 hK13=>?_
   refine jr ?_
   obtain ⟨hg15,H⟩:=aj3 H
   refine rA ?_
   refine eA ?_
   refine hK13 _ ?_
   refine eA ?_
   refine lf ?_
   exact nx H (wb [])
  refine jR ?_
  refine lf ?_
  refine lx H fun hyy=>?_
  subst hyy
  have H:=Ho9
  try dsimp only at H
  refine lf ?_
  exact ⟨_,H,wb []⟩
 rintro n_ H
 try dsimp only at H
 unfold bqk at H
 refine Sm.st (cq1.eq_1 ..) ?_
 refine rA ?_
 refine jp ?_
 refine lf ?_
 obtain rfl:=Option.some.inj H
 exact rt []
abbrev bw3 (d:aja):S:=stB [(3,.box 9000 0)] [(9000,.box [.c .str (.str d.Name),.c (.int .i64) (.int d.Dcb.Org),.c (.int .i64) (.int d.Dcb.Format),.c .bool (.bool d.Dcb.Blocked),.c .bool (.bool d.Dcb.Asa),.c (.int .i64) (.int d.Dcb.Lrecl),.c (.int .i64) (.int d.Dcb.Blksize),.c (.int .i64) (.int d.Dcb.KeyLen),.c (.int .i64) (.int d.Dcb.KeyPos),.c (.slice 80) (.slice (List.map aj2 d.Extents)),.c (.int .i64) (.int d.Used)])]
def akw (n:Nat) (d:aja):Option Bool :=
 (bw7 n d.Extents).bind fun r2 =>
 (ajv n d.Used 0 r2).bind fun r3 =>
 some r3
abbrev bw1 (v:aj9) (d:aja) (v32:Int) (v33:Int):S:=stB [(2,.box 9003 0),(3,.box 9004 0),(31,.c (.slice 80) (.slice (List.map aj2 d.Extents))),(32,.c (.int .i64) (.int v32)),(33,.c (.int .i64) (.int v33))] [(9003,.box [.c .str (.str v.Serial),.c (.int .i64) (.int v.Cyls),.c (.int .i64) (.int v.Heads),.c (.int .i64) (.int v.Size),.c (.slice 41) (.slice (List.map aj4 v.Sets))]),(9004,.box [.c .str (.str d.Name),.c (.int .i64) (.int d.Dcb.Org),.c (.int .i64) (.int d.Dcb.Format),.c .bool (.bool d.Dcb.Blocked),.c .bool (.bool d.Dcb.Asa),.c (.int .i64) (.int d.Dcb.Lrecl),.c (.int .i64) (.int d.Dcb.Blksize),.c (.int .i64) (.int d.Dcb.KeyLen),.c (.int .i64) (.int d.Dcb.KeyPos),.c (.slice 80) (.slice (List.map aj2 d.Extents)),.c (.int .i64) (.int d.Used)])]
def bw5 (n:Nat) (v:aj9) (d:aja) (v32:Int) (v33:Int):Option ((Int) ⊕ (((Bool) ⊕ (Unit)))) :=
 bif (decide (v33 < v32)) then
  gd ((0≤v33∧v33 < (d.Extents.length:Int))) <|
  bif (decide ((jc .i64 (((gt d.Extents (Int.toNat v33)).At)+((gt d.Extents (Int.toNat v33)).Len))) > (jc .i64 (v.Cyls * v.Heads)))) then
   some (.inr (.inl false))
  else
   some (.inl (jc .i64 (v33+1)))
 else
  some (.inr (.inr ()))
def bqe (n:Nat) (v:aj9) (d:aja):Option Bool :=
 (ajg n d.Name).bind fun r1 =>
 gd (((!(!r1))=true→(aqg n d.Dcb).isSome=true)∧((!(if (!r1)=true then true else (!((aqg n d.Dcb).getD default))))=true→(ajv n (d.Extents.length:Int) 1 8).isSome=true)∧((!(if (if (!r1)=true then true else (!((aqg n d.Dcb).getD default)))=true then true else (!((ajv n (d.Extents.length:Int) 1 8).getD default))))=true→(aqh n d.Extents).isSome=true)) <|
 bif (if (if (if (!r1)=true then true else (!((aqg n d.Dcb).getD default)))=true then true else (!((ajv n (d.Extents.length:Int) 1 8).getD default)))=true then true else (!((aqh n d.Extents).getD default))) then
  some false
 else
  (aql (fun (x:Int)=>bw5 n v d (d.Extents.length:Int) x) n 0).bind fun y8 =>
  match y8 with
  | .inl vv =>
   some vv
  | .inr vv =>
   akw n d
def by2 (n:Nat):Go.AE.Fn:=mkFn (A:=aj9×aja) (R:=Bool) 68 [(true,[.str,.int .i64,.int .i64,.int .i64,.slice 41]),(true,[.str,.int .i64,.int .i64,.bool,.bool,.int .i64,.int .i64,.int .i64,.int .i64,.slice 80,.int .i64])] false (fun xs=>((⟨(cg (xs.getD 0 []) 0).toStr,(cg (xs.getD 0 []) 1).toInt,(cg (xs.getD 0 []) 2).toInt,(cg (xs.getD 0 []) 3).toInt,((cg (xs.getD 0 []) 4).toSl.map aqi)⟩:aj9),(⟨(cg (xs.getD 1 []) 0).toStr,(⟨(cg (xs.getD 1 []) 1).toInt,(cg (xs.getD 1 []) 2).toInt,(cg (xs.getD 1 []) 3).toBool,(cg (xs.getD 1 []) 4).toBool,(cg (xs.getD 1 []) 5).toInt,(cg (xs.getD 1 []) 6).toInt,(cg (xs.getD 1 []) 7).toInt,(cg (xs.getD 1 []) 8).toInt⟩:TDcb),((cg (xs.getD 1 []) 9).toSl.map aji),(cg (xs.getD 1 []) 10).toInt⟩:aja))) (fun a=>[[.str a.1.Serial,.int a.1.Cyls,.int a.1.Heads,.int a.1.Size,.slice (List.map aj4 a.1.Sets)],[.str a.2.Name,.int a.2.Dcb.Org,.int a.2.Dcb.Format,.bool a.2.Dcb.Blocked,.bool a.2.Dcb.Asa,.int a.2.Dcb.Lrecl,.int a.2.Dcb.Blksize,.int a.2.Dcb.KeyLen,.int a.2.Dcb.KeyPos,.slice (List.map aj2 a.2.Extents),.int a.2.Used]]) (fun a=>bqe n a.1 a.2) (fun r=>[.c .bool (.bool r)]) (fun r=>[])
theorem dza (n:Nat):aj1 jd (by2 n):=by
 have hΓ:=g1 (dqr n) (g1 (bqm n) (g1 (dzn n) (g1 (ak1 n) (g1 (dj3 n) (@g0 (aj1 jd))))))
 have qe:=aI @cw8.eq_1 (aI @ay4.eq_1 (aI @cy0.eq_1 (aI @az2.eq_1 @bka.eq_1)))
 refine aj6 (Tryz.f68.body.getD .skip) h00 Tryz.func68 rfl Tryz.call68 (by decide) (by intro _ r;exact ⟨rfl,by simp⟩) ?_
 rintro ⟨v,d⟩ r H
 try dsimp only at H
 unfold bqe at H
 simp only [Tryz.f68,jn]
 refine rA ?_
 refine jj fun K2 hK2=>?_
 obtain ⟨r1,hr1,H⟩:=bind_some H
 obtain ⟨⟨hg18,hg19,hg20⟩,H⟩:=aj3 H
 have q:=aI qe hr1
 refine rAq ?_
 refine cnd H (fun h4 H=>?_) (fun h4 H=>?_)
 ·refine rA ?_
  refine jp ?_
  refine lf ?_
  obtain rfl:=Option.some.inj H
  exact rt []
 refine jo ?_
 refine hK2 _ ?_
 refine jS (fun (x:Unit)=>bw3 d) (fun x=>akw n d=some r) ?_ ?_
 ·refine rA ?_
  refine jr ?_
  obtain ⟨y8,hy8,Ho8⟩:=bind_some H
  refine jL _ (fun x=>bw1 v d (d.Extents.length:Int) x) hy8 (wb [some 32,some 48]) ?_
  rintro v33 z8 H
  try dsimp only at H
  unfold bw5 at H
  refine Sm.st (bw1.eq_1 ..) ?_
  refine rA ?_
  refine jj fun K10 hK10=>?_
  refine cnd H (fun h11 H=>?_) (fun h11 H=>?_)
  ·refine jo ?_
   refine hK10 _ ?_
   refine jj fun K12 hK12=>?_
   refine jr ?_
   obtain ⟨hg17,H⟩:=aj3 H
   refine rA ?_
   refine rA ?_
   refine cnd H (fun h15 H=>?_) (fun h15 H=>?_)
   ·refine rA ?_
    refine jp ?_
    refine lf ?_
    refine lx H fun hyy=>?_
    subst hyy
    have H:=Ho8
    try dsimp only at H
    refine lf ?_
    obtain rfl:=Option.some.inj H
    exact rt []
   refine jo ?_
   refine hK12 _ ?_
   refine eA ?_
   refine lf ?_
   exact nx H (wb [some 9003,some 9004])
  refine jR ?_
  refine lf ?_
  refine lx H fun hyy=>?_
  subst hyy
  have H:=Ho8
  try dsimp only at H
  refine lf ?_
  exact ⟨(),H,wb [some 9004]⟩
 rintro ⟨⟩ H
 try dsimp only at H
 unfold akw at H
 refine Sm.st (bw3.eq_1 ..) ?_
 obtain ⟨r2,hr2,H⟩:=bind_some H
 obtain ⟨r3,hr3,H⟩:=bind_some H
 have q:=aI qe (aI hr2 hr3)
 refine rDq ?_
 refine jp ?_
 refine lf ?_
 obtain rfl:=Option.some.inj H
 exact rt []
abbrev cyi (used:List aj0):S:=stB [(3,.own 9000 [.int .i64,.int .i64] 0 used.length)] [(9000,.row 80 (List.map aj2 used))]
def bzw (n:Nat) (used:List aj0):Option Int :=
 (aqh n used).bind fun r3 =>
 bif (!r3) then
  some 5
 else
  some 0
abbrev djq (v:aj9) (v54:Int) (used_1:List aj0) (v55:Int):S:=stB [(1,.box 9003 0),(3,.own 9004 [.int .i64,.int .i64] 0 used_1.length),(53,.c (.slice 41) (.slice (List.map aj4 v.Sets))),(54,.c (.int .i64) (.int v54)),(55,.c (.int .i64) (.int v55))] [(9003,.box [.c .str (.str v.Serial),.c (.int .i64) (.int v.Cyls),.c (.int .i64) (.int v.Heads),.c (.int .i64) (.int v.Size),.c (.slice 41) (.slice (List.map aj4 v.Sets))]),(9004,.row 80 (List.map aj2 used_1))]
def cyd (n:Nat) (v:aj9) (v54:Int) (used_1:List aj0) (v55:Int):Option (((List aj0)×Int) ⊕ (((Int) ⊕ ((List aj0))))) :=
 bif (decide (v55 < v54)) then
  gd ((0≤v55∧v55 < (v.Sets.length:Int))) <|
  (bqe n v (gt v.Sets (Int.toNat v55))).bind fun r4 =>
  gd ((((!(!r4)) && (decide (v55 > 0)))=true→(0≤(jc .i64 (v55 - 1))∧(jc .i64 (v55 - 1)) < (v.Sets.length:Int)))) <|
  bif (if (!r4)=true then true else (if (decide (v55 > 0))=true then (!Op.bytesLess ((gt v.Sets (Int.toNat (jc .i64 (v55 - 1)))).Name) ((gt v.Sets (Int.toNat v55)).Name)) else false)) then
   some (.inr (.inl 5))
  else
   gd ((used_1.length+((gt v.Sets (Int.toNat v55)).Extents).length)≤2147483648) <|
   some (.inl ((used_1 ++ (gt v.Sets (Int.toNat v55)).Extents),(jc .i64 (v55+1))))
 else
  some (.inr (.inr used_1))
def aq5 (n:Nat) (v:aj9):Option Int :=
 (ajv n (v.Serial.length:Int) 1 6).bind fun r1 =>
 gd (((!(!r1))=true→(akr n v.Serial [65,66,67,68,69,70,71,72,73,74,75,76,77,78,79,80,81,82,83,84,85,86,87,88,89,90,48,49,50,51,52,53,54,55,56,57]).isSome=true)) <|
 bif (if (!r1)=true then true else (((akr n v.Serial [65,66,67,68,69,70,71,72,73,74,75,76,77,78,79,80,81,82,83,84,85,86,87,88,89,90,48,49,50,51,52,53,54,55,56,57]).getD default) != [])) then
  some 5
 else
  (ajv n v.Cyls 1 64).bind fun r2 =>
  gd (((!(!r2))=true→(ajv n v.Heads 1 8).isSome=true)∧((!(if (!r2)=true then true else (!((ajv n v.Heads 1 8).getD default))))=true→(ajv n v.Size 1 (jc .i64 ((jc .i64 (v.Cyls * v.Heads)) - 1))).isSome=true)) <|
  bif (if (if (!r2)=true then true else (!((ajv n v.Heads 1 8).getD default)))=true then true else (!((ajv n v.Size 1 (jc .i64 ((jc .i64 (v.Cyls * v.Heads)) - 1))).getD default))) then
   some 5
  else
   bif (decide ((v.Sets.length:Int) > (if (jc .i64 (14 * v.Size)) < 64 then (jc .i64 (14 * v.Size)) else 64))) then
    some 5
   else
    (aql (fun (x:(List aj0)×Int)=>cyd n v (v.Sets.length:Int) x.1 x.2) n ([(⟨0,(jc .i64 (v.Size+1))⟩:aj0)],0)).bind fun y21 =>
    match y21 with
    | .inl vv =>
     some vv
    | .inr vv =>
     bzw n vv
def aqc (n:Nat):Go.AE.Fn:=mkFn (A:=aj9) (R:=Int) 30 [(true,[.str,.int .i64,.int .i64,.int .i64,.slice 41])] false (fun xs=>(⟨(cg (xs.getD 0 []) 0).toStr,(cg (xs.getD 0 []) 1).toInt,(cg (xs.getD 0 []) 2).toInt,(cg (xs.getD 0 []) 3).toInt,((cg (xs.getD 0 []) 4).toSl.map aqi)⟩:aj9)) (fun a=>[[.str a.Serial,.int a.Cyls,.int a.Heads,.int a.Size,.slice (List.map aj4 a.Sets)]]) (fun a=>aq5 n a) (fun r=>[.c (.int .i64) (.int r)]) (fun r=>[])
theorem aw4 (n:Nat):aj1 jd (aqc n):=by
 have hΓ:=g1 (dzn n) (g1 (cy6 n) (g1 (dza n) (g1 (ak1 n) (@g0 (aj1 jd)))))
 have qe:=aI @cy0.eq_1 (aI @azv.eq_1 (aI @by2.eq_1 @az2.eq_1))
 refine aj6 (Tryz.f30.body.getD .skip) h00 Tryz.func30 rfl Tryz.call30 (by decide) (by intro _ r;exact ⟨rfl,by simp⟩) ?_
 rintro v r H
 try dsimp only at H
 unfold aq5 at H
 simp only [Tryz.f30,jn]
 refine rA ?_
 refine jj fun K2 hK2=>?_
 obtain ⟨r1,hr1,H⟩:=bind_some H
 obtain ⟨hg36,H⟩:=aj3 H
 have q:=aI qe hr1
 refine rAq ?_
 refine cnd H (fun h4 H=>?_) (fun h4 H=>?_)
 ·refine rA ?_
  refine jp ?_
  refine lf ?_
  obtain rfl:=Option.some.inj H
  exact rt []
 refine jo ?_
 refine hK2 _ ?_
 refine jj fun K6 hK6=>?_
 obtain ⟨r2,hr2,H⟩:=bind_some H
 obtain ⟨⟨hg34,hg35⟩,H⟩:=aj3 H
 have q:=aI qe hr2
 refine rAq ?_
 refine cnd H (fun h8 H=>?_) (fun h8 H=>?_)
 ·refine rA ?_
  refine jp ?_
  refine lf ?_
  obtain rfl:=Option.some.inj H
  exact rt []
 refine jo ?_
 refine hK6 _ ?_
 refine jj fun K10 hK10=>?_
 refine rA ?_
 refine cnd H (fun h12 H=>?_) (fun h12 H=>?_)
 ·refine rA ?_
  refine jp ?_
  refine lf ?_
  obtain rfl:=Option.some.inj H
  exact rt []
 refine jo ?_
 refine hK10 _ ?_
 refine rA ?_
 refine jS (fun (x:(List aj0))=>cyi x) (fun x=>bzw n x=some r) ?_ ?_
 ·refine rA ?_
  refine jr ?_
  obtain ⟨y21,hy21,Ho21⟩:=bind_some H
  refine jL _ (fun x=>djq v (v.Sets.length:Int) x.1 x.2) hy21 (wb [some 16,some 816]) ?_
  rintro ⟨used_1,v55⟩ z21 H
  try dsimp only at H
  unfold cyd at H
  refine Sm.st (djq.eq_1 ..) ?_
  refine rA ?_
  refine jj fun K23 hK23=>?_
  refine cnd H (fun h24 H=>?_) (fun h24 H=>?_)
  ·refine jo ?_
   refine hK23 _ ?_
   refine jj fun K25 hK25=>?_
   refine jr ?_
   obtain ⟨hg33,H⟩:=aj3 H
   refine rA ?_
   refine jj fun K27 hK27=>?_
   obtain ⟨r4,hr4,H⟩:=bind_some H
   obtain ⟨hg32,H⟩:=aj3 H
   have q:=aI qe hr4
   refine rDq ?_
   refine cnd H (fun h29 H=>?_) (fun h29 H=>?_)
   ·refine rA ?_
    refine jp ?_
    refine lf ?_
    refine lx H fun hyy=>?_
    subst hyy
    have H:=Ho21
    try dsimp only at H
    refine lf ?_
    obtain rfl:=Option.some.inj H
    exact rt []
   refine jo ?_
   refine hK27 _ ?_
   obtain ⟨hg31,H⟩:=aj3 H
   refine eA ?_
   refine hK25 _ ?_
   refine eA ?_
   refine lf ?_
   exact nx H (wb [some 9003,some 1328])
  refine jR ?_
  refine lf ?_
  refine lx H fun hyy=>?_
  subst hyy
  have H:=Ho21
  try dsimp only at H
  refine lf ?_
  exact ⟨_,H,wb [some 9004]⟩
 rintro used H
 try dsimp only at H
 unfold bzw at H
 refine Sm.st (cyi.eq_1 ..) ?_
 refine jj fun K15 hK15=>?_
 obtain ⟨r3,hr3,H⟩:=bind_some H
 have q:=aI qe hr3
 refine rAq ?_
 refine cnd H (fun h17 H=>?_) (fun h17 H=>?_)
 ·refine rA ?_
  refine jp ?_
  refine lf ?_
  obtain rfl:=Option.some.inj H
  exact rt []
 refine jo ?_
 refine hK15 _ ?_
 refine rA ?_
 refine jp ?_
 refine lf ?_
 obtain rfl:=Option.some.inj H
 exact rt []
def bzq (n:Nat) (serial:List UInt8) (cyls:Int) (heads:Int) (size:Int):Option (aj9×Int) :=
 (aq5 n (⟨serial,cyls,heads,size,[]⟩:aj9)).bind fun r1 =>
 bif (r1 != 0) then
  some ((⟨[],0,0,0,[]⟩:aj9),1)
 else
  some ((⟨serial,cyls,heads,size,[]⟩:aj9),0)
def cyh (n:Nat):Go.AE.Fn:=mkFn (A:=(List UInt8)×Int×Int×Int) (R:=aj9×Int) 15 [(false,[.str]),(false,[.int .i64]),(false,[.int .i64]),(false,[.int .i64])] false (fun xs=>((cg (xs.getD 0 []) 0).toStr,(cg (xs.getD 1 []) 0).toInt,(cg (xs.getD 2 []) 0).toInt,(cg (xs.getD 3 []) 0).toInt)) (fun a=>[[.str a.1],[.int a.2.1],[.int a.2.2.1],[.int a.2.2.2]]) (fun a=>bzq n a.1 a.2.1 a.2.2.1 a.2.2.2) (fun r=>[.agg [.c .str (.str r.1.Serial),.c (.int .i64) (.int r.1.Cyls),.c (.int .i64) (.int r.1.Heads),.c (.int .i64) (.int r.1.Size),.nilsl],.c (.int .i64) (.int r.2)]) (fun r=>[])
theorem dyc (n:Nat):aj1 jd (cyh n):=by
 have hΓ:=g1 (aw4 n) (@g0 (aj1 jd))
 refine aj6 (Tryz.f15.body.getD .skip) h00 Tryz.func15 rfl Tryz.call15 (by decide) (by intro _ r;exact ⟨rfl,by simp⟩) ?_
 rintro ⟨serial,cyls,heads,size⟩ r H
 try dsimp only at H
 unfold bzq at H
 simp only [Tryz.f15,jn]
 refine rA ?_
 refine rA ?_
 refine jj fun K3 hK3=>?_
 obtain ⟨r1,hr1,H⟩:=bind_some H
 have q:=aI @aqc.eq_1 hr1
 refine rAq ?_
 refine cnd H (fun h5 H=>?_) (fun h5 H=>?_)
 ·refine rA ?_
  refine jp ?_
  refine lf ?_
  obtain rfl:=Option.some.inj H
  exact rt []
 refine jo ?_
 refine hK3 _ ?_
 refine rA ?_
 refine jp ?_
 refine lf ?_
 obtain rfl:=Option.some.inj H
 exact rt []
def awk (n:Nat):Option TDcb :=
 some (⟨1,1,false,false,80,80,0,0⟩:TDcb)
def bqy (n:Nat):Go.AE.Fn:=mkFn (A:=Unit) (R:=TDcb) 42 [] false (fun xs=>()) (fun a=>[]) (fun a=>awk n) (fun r=>[.agg [.c (.int .i64) (.int r.Org),.c (.int .i64) (.int r.Format),.c .bool (.bool r.Blocked),.c .bool (.bool r.Asa),.c (.int .i64) (.int r.Lrecl),.c (.int .i64) (.int r.Blksize),.c (.int .i64) (.int r.KeyLen),.c (.int .i64) (.int r.KeyPos)]]) (fun r=>[])
theorem cj2 (n:Nat):aj1 jd (bqy n):=by
 have hΓ:=@g0 (aj1 jd)
 refine aj6 (Tryz.f42.body.getD .skip) h00 Tryz.func42 rfl Tryz.call42 (by decide) (by intro _ r;exact ⟨rfl,by simp⟩) ?_
 rintro ⟨⟩ r H
 try dsimp only at H
 unfold awk at H
 simp only [Tryz.f42,jn]
 refine rA ?_
 refine rA ?_
 refine jp ?_
 refine lf ?_
 obtain rfl:=Option.some.inj H
 exact rt []
def awj (n:Nat) (d:aja) (s:List UInt8):Option Int :=
 (strings_Compare n d.Name s).bind fun r1 =>
 some r1
def akl (n:Nat):Go.AE.Fn:=mkFn (A:=aja×(List UInt8)) (R:=Int) 117 [(true,[.str,.int .i64,.int .i64,.bool,.bool,.int .i64,.int .i64,.int .i64,.int .i64,.slice 80,.int .i64]),(false,[.str])] false (fun xs=>((⟨(cg (xs.getD 0 []) 0).toStr,(⟨(cg (xs.getD 0 []) 1).toInt,(cg (xs.getD 0 []) 2).toInt,(cg (xs.getD 0 []) 3).toBool,(cg (xs.getD 0 []) 4).toBool,(cg (xs.getD 0 []) 5).toInt,(cg (xs.getD 0 []) 6).toInt,(cg (xs.getD 0 []) 7).toInt,(cg (xs.getD 0 []) 8).toInt⟩:TDcb),((cg (xs.getD 0 []) 9).toSl.map aji),(cg (xs.getD 0 []) 10).toInt⟩:aja),(cg (xs.getD 1 []) 0).toStr)) (fun a=>[[.str a.1.Name,.int a.1.Dcb.Org,.int a.1.Dcb.Format,.bool a.1.Dcb.Blocked,.bool a.1.Dcb.Asa,.int a.1.Dcb.Lrecl,.int a.1.Dcb.Blksize,.int a.1.Dcb.KeyLen,.int a.1.Dcb.KeyPos,.slice (List.map aj2 a.1.Extents),.int a.1.Used],[.str a.2]]) (fun a=>awj n a.1 a.2) (fun r=>[.c (.int .i64) (.int r)]) (fun r=>[])
theorem cke (n:Nat):aj1 jd (akl n):=by
 have hΓ:=g1 (dz9 n) (@g0 (aj1 jd))
 refine aj6 (Tryz.f117.body.getD .skip) h00 Tryz.func117 rfl Tryz.call117 (by decide) (by intro _ r;exact ⟨rfl,by simp⟩) ?_
 rintro ⟨d,s⟩ r H
 try dsimp only at H
 unfold awj at H
 simp only [Tryz.f117,jn]
 refine rA ?_
 obtain ⟨r1,hr1,H⟩:=bind_some H
 have q:=aI @az6.eq_1 hr1
 refine rAq ?_
 refine jp ?_
 refine lf ?_
 obtain rfl:=Option.some.inj H
 exact rt []
abbrev aw6 (x_:List aja) (target:List UInt8) (n_:Int) (i:Int):S:=stB [(0,.c (.slice 41) (.slice (List.map aj4 x_))),(1,.c .str (.str target)),(2,.fnv 117 []),(8,.c (.int .i64) (.int n_)),(9,.c (.int .i64) (.int i))] []
def aq7 (n:Nat) (x_:List aja) (target:List UInt8) (n_:Int) (i:Int):Option (Int×Bool) :=
 gd (((decide (i < n_))=true→(0≤i∧i < (x_.length:Int)))∧((decide (i < n_))=true→(awj n (gt x_ (Int.toNat i)) target).isSome=true)) <|
 some (i,(if (decide (i < n_))=true then (((awj n (gt x_ (Int.toNat i)) target).getD default) == 0) else false))
abbrev aw8 (x_:List aja) (target:List UInt8) (n__1:Int) (i_1:Int) (j:Int):S:=stB [(0,.c (.slice 41) (.slice (List.map aj4 x_))),(1,.c .str (.str target)),(2,.fnv 117 []),(8,.c (.int .i64) (.int n__1)),(9,.c (.int .i64) (.int i_1)),(10,.c (.int .i64) (.int j))] []
def aw7 (n:Nat) (x_:List aja) (target:List UInt8) (n__1:Int) (i_1:Int) (j:Int):Option ((Int×Int) ⊕ ((Int))) :=
 bif (decide (i_1 < j)) then
  gd ((0≤(jc .i64 ((Int.fdiv (jc .u64 ((jc .i64 (i_1+j)))) (2 ^ min 1 (Jc .u64)))))∧(jc .i64 ((Int.fdiv (jc .u64 ((jc .i64 (i_1+j)))) (2 ^ min 1 (Jc .u64))))) < (x_.length:Int))) <|
  (awj n (gt x_ (Int.toNat (jc .i64 ((Int.fdiv (jc .u64 ((jc .i64 (i_1+j)))) (2 ^ min 1 (Jc .u64))))))) target).bind fun r1 =>
  bif (decide (r1 < 0)) then
   some (.inl ((jc .i64 ((jc .i64 ((Int.fdiv (jc .u64 ((jc .i64 (i_1+j)))) (2 ^ min 1 (Jc .u64)))))+1)),j))
  else
   some (.inl (i_1,(jc .i64 ((Int.fdiv (jc .u64 ((jc .i64 (i_1+j)))) (2 ^ min 1 (Jc .u64)))))))
 else
  some (.inr i_1)
def aqd (n:Nat) (x_:List aja) (target:List UInt8):Option (Int×Bool) :=
 (aql (fun (x:Int×Int)=>aw7 n x_ target (x_.length:Int) x.1 x.2) n (0,(x_.length:Int))).bind fun y7 =>
 aq7 n x_ target (x_.length:Int) y7
theorem aya (n:Nat) (x_:List aja) (target:List UInt8) (r:Int×Bool) (H:aqd n x_ target=some r):awi jd 116 [.dat (false,[.slice 41]) [.slice (List.map aj4 x_)],.dat (false,[.str]) [.str target],.ref (.fnv 117 [])] [] [.c (.int .i64) (.int r.1),.c .bool (.bool r.2)] []:=by
 have hΓ:=g1 (cke n) (@g0 (aj1 jd))
 refine awt (Tryz.f116.body.getD .skip) h00 Tryz.func116 rfl Tryz.call116 (ju rfl) (ju rfl) ?_
 unfold aqd at H
 simp only [Tryz.f116,jn]
 refine rA ?_
 refine rA ?_
 refine rA ?_
 refine jS (fun (x:Int×Int)=>aw6 x_ target x.1 x.2) (fun x=>aq7 n x_ target x.1 x.2=some r) ?_ ?_
 ·refine jr ?_
  obtain ⟨y7,hy7,Ho7⟩:=bind_some H
  refine jL _ (fun x=>aw8 x_ target (x_.length:Int) x.1 x.2) hy7 (wb []) ?_
  rintro ⟨i_1,j⟩ z7 H
  try dsimp only at H
  unfold aw7 at H
  refine Sm.st (aw8.eq_1 ..) ?_
  refine jj fun K8 hK8=>?_
  refine rA ?_
  refine cnd H (fun h10 H=>?_) (fun h10 H=>?_)
  ·refine jo ?_
   refine hK8 _ ?_
   refine jr ?_
   refine sX fun K11 hK11=>?_
   iterate 4 refine oX ?_
   refine oE aqw ?_
   iterate 2 refine oX ?_
   refine hK11 _ ?_
   obtain ⟨hg14,H⟩:=aj3 H
   obtain ⟨r1,hr1,H⟩:=bind_some H
   have q:=aI @akl.eq_1 hr1
   refine rAq ?_
   refine cnd H (fun h13 H=>?_) (fun h13 H=>?_)
   ·refine eA ?_
    refine lf ?_
    exact nx H (wb [])
   refine eA ?_
   refine lf ?_
   exact nx H (wb [])
  refine jR ?_
  refine lf ?_
  refine lx H fun hyy=>?_
  subst hyy
  have H:=Ho7
  try dsimp only at H
  refine lf ?_
  exact ⟨((x_.length:Int),i_1),H,wb []⟩
 rintro ⟨n_,i⟩ H
 try dsimp only at H
 unfold aq7 at H
 refine Sm.st (aw6.eq_1 ..) ?_
 obtain ⟨⟨hg5,hg6⟩,H⟩:=aj3 H
 have q:=@akl.eq_1
 refine rAq ?_
 refine jp ?_
 refine lf ?_
 obtain rfl:=Option.some.inj H
 exact rtM []
def aqp (n:Nat) (v:aj9) (name:List UInt8):Option (Int×Bool) :=
 (aqd n v.Sets name).bind fun r1 =>
 some (r1.1,r1.2)
def aqz (n:Nat):Go.AE.Fn:=mkFn (A:=aj9×(List UInt8)) (R:=Int×Bool) 56 [(true,[.str,.int .i64,.int .i64,.int .i64,.slice 41]),(false,[.str])] false (fun xs=>((⟨(cg (xs.getD 0 []) 0).toStr,(cg (xs.getD 0 []) 1).toInt,(cg (xs.getD 0 []) 2).toInt,(cg (xs.getD 0 []) 3).toInt,((cg (xs.getD 0 []) 4).toSl.map aqi)⟩:aj9),(cg (xs.getD 1 []) 0).toStr)) (fun a=>[[.str a.1.Serial,.int a.1.Cyls,.int a.1.Heads,.int a.1.Size,.slice (List.map aj4 a.1.Sets)],[.str a.2]]) (fun a=>aqp n a.1 a.2) (fun r=>[.c (.int .i64) (.int r.1),.c .bool (.bool r.2)]) (fun r=>[])
theorem awo (n:Nat):aj1 jd (aqz n):=by
 have hΓ:=@g0 (aj1 jd)
 refine aj6 (Tryz.f56.body.getD .skip) h00 Tryz.func56 rfl Tryz.call56 (by decide) (by intro _ r;exact ⟨rfl,by simp⟩) ?_
 rintro ⟨v,name⟩ r H
 try dsimp only at H
 unfold aqp at H
 simp only [Tryz.f56,jn]
 refine rA ?_
 refine sX fun K2 hK2=>?_
 obtain ⟨r1,hr1,H⟩:=bind_some H
 have q:=hr1
 iterate 3 refine oX ?_
 refine oMq (aya n _ _ r1 hr1) [] [] ?_
 iterate 4 refine oXq ?_
 refine hK2 _ ?_
 refine jp ?_
 refine lf ?_
 obtain rfl:=Option.some.inj H
 exact rt []
abbrev cwo (out_1:List aj0):S:=stB [(5,.own 9001 [.int .i64,.int .i64] 0 out_1.length)] [(9001,.row 80 (List.map aj2 out_1))]
def ayn (n:Nat) (out_1:List aj0):Option (List aj0) :=
 some out_1
abbrev cz3 (n_:Int) (out:List aj0) (at_:Int):S:=stB [(1,.c (.int .i64) (.int n_)),(5,.own 9000 [.int .i64,.int .i64] 0 out.length),(6,.c (.int .i64) (.int at_))] [(9000,.row 80 (List.map aj2 out))]
def bwh (n:Nat) (n_:Int) (out:List aj0) (at_:Int):Option (List aj0) :=
 bif (decide (n_ > at_)) then
  gd ((out.length+1)≤2147483648) <|
  ayn n (out ++ [(⟨at_,(jc .i64 (n_ - at_))⟩:aj0)])
 else
  ayn n out
abbrev cwr (n_:Int) (out_3:List aj0) (at__2:Int) (v22:List aj0) (v23:Int) (v24:Int):S:=stB [(1,.c (.int .i64) (.int n_)),(5,.own 9004 [.int .i64,.int .i64] 0 out_3.length),(6,.c (.int .i64) (.int at__2)),(22,.c (.slice 80) (.slice (List.map aj2 v22))),(23,.c (.int .i64) (.int v23)),(24,.c (.int .i64) (.int v24))] [(9004,.row 80 (List.map aj2 out_3))]
def bwq (n:Nat) (n_:Int) (out_3:List aj0) (at__2:Int) (v22:List aj0) (v23:Int) (v24:Int):Option (((List aj0)×Int×Int) ⊕ (((List aj0)×Int))) :=
 some (.inl (out_3,at__2,(jc .i64 (v24+1))))
abbrev czj (n_:Int) (out_4:List aj0) (x_:Int) (x__1:Int) (v22:List aj0) (v23:Int) (v24:Int):S:=stB [(1,.c (.int .i64) (.int n_)),(5,.own 9005 [.int .i64,.int .i64] 0 out_4.length),(8,.box 9006 0),(22,.c (.slice 80) (.slice (List.map aj2 v22))),(23,.c (.int .i64) (.int v23)),(24,.c (.int .i64) (.int v24))] [(9005,.row 80 (List.map aj2 out_4)),(9006,.box [.c (.int .i64) (.int x_),.c (.int .i64) (.int x__1)])]
def ayr (n:Nat) (n_:Int) (out_4:List aj0) (x_:Int) (x__1:Int) (v22:List aj0) (v23:Int) (v24:Int):Option (((List aj0)×Int×Int) ⊕ (((List aj0)×Int))) :=
 bwq n n_ out_4 (jc .i64 (x_+x__1)) v22 v23 v24
abbrev cwm (n_:Int) (v22:List aj0) (v23:Int) (out_2:List aj0) (at__1:Int) (v24:Int):S:=stB [(1,.c (.int .i64) (.int n_)),(5,.own 9003 [.int .i64,.int .i64] 0 out_2.length),(6,.c (.int .i64) (.int at__1)),(22,.c (.slice 80) (.slice (List.map aj2 v22))),(23,.c (.int .i64) (.int v23)),(24,.c (.int .i64) (.int v24))] [(9003,.row 80 (List.map aj2 out_2))]
def ck0 (n:Nat) (n_:Int) (v22:List aj0) (v23:Int) (out_2:List aj0) (at__1:Int) (v24:Int):Option (((List aj0)×Int×Int) ⊕ (((List aj0)×Int))) :=
 bif (decide (v24 < v23)) then
  gd ((0≤v24∧v24 < (v22.length:Int))) <|
  bif (decide ((if n_ < ((gt v22 (Int.toNat v24)).At) then n_ else ((gt v22 (Int.toNat v24)).At)) > at__1)) then
   gd ((out_2.length+1)≤2147483648) <|
   ayr n n_ (out_2 ++ [(⟨at__1,(jc .i64 ((if n_ < ((gt v22 (Int.toNat v24)).At) then n_ else ((gt v22 (Int.toNat v24)).At)) - at__1))⟩:aj0)]) ((gt v22 (Int.toNat v24)).At) ((gt v22 (Int.toNat v24)).Len) v22 v23 v24
  else
   ayr n n_ out_2 ((gt v22 (Int.toNat v24)).At) ((gt v22 (Int.toNat v24)).Len) v22 v23 v24
 else
  some (.inr (out_2,at__1))
def ckn (n:Nat) (used:List aj0) (n_:Int):Option (List aj0) :=
 (aqh n used).bind fun r1 =>
 bif (if (if (!r1)=true then true else (decide (n_ < 0)))=true then true else (decide (n_ > 512))) then
  some []
 else
  (bjk n used).bind fun r2 =>
  (aql (fun (x:(List aj0)×Int×Int)=>ck0 n n_ r2 (r2.length:Int) x.1 x.2.1 x.2.2) n ([],0,0)).bind fun y13 =>
  bwh n n_ y13.1 y13.2
def dqw (n:Nat):Go.AE.Fn:=mkFn (A:=(List aj0)×Int) (R:=(List aj0)) 76 [(false,[.slice 80]),(false,[.int .i64])] false (fun xs=>(((cg (xs.getD 0 []) 0).toSl.map aji),(cg (xs.getD 1 []) 0).toInt)) (fun a=>[[.slice (List.map aj2 a.1)],[.int a.2]]) (fun a=>ckn n a.1 a.2) (fun r=>[.own 0 [.int .i64,.int .i64] 0 r.length]) (fun r=>[.row 80 (List.map aj2 r)])
theorem ez9 (n:Nat):aj1 jd (dqw n):=by
 have hΓ:=g1 (ak1 n) (g1 (cwi n) (@g0 (aj1 jd)))
 have qe:=aI @az2.eq_1 @bwg.eq_1
 refine aj6 (Tryz.f76.body.getD .skip) h00 Tryz.func76 rfl Tryz.call76 (by decide) (fun _ r=>⟨rfl,m1 ⟨80,_,_,rfl,ty80,rfl⟩ m0⟩) ?_
 rintro ⟨used,n_⟩ r H
 try dsimp only at H
 unfold ckn at H
 simp only [Tryz.f76,jn]
 refine rA ?_
 refine jj fun K2 hK2=>?_
 obtain ⟨r1,hr1,H⟩:=bind_some H
 have q:=aI qe hr1
 refine rAq ?_
 refine cnd H (fun h4 H=>?_) (fun h4 H=>?_)
 ·refine rA ?_
  refine jp ?_
  refine lf ?_
  obtain rfl:=Option.some.inj H
  exact rto [none]
 refine jo ?_
 refine hK2 _ ?_
 refine rA ?_
 refine rA ?_
 refine jS (fun (x:(List aj0)×Int)=>cz3 n_ x.1 x.2) (fun x=>bwh n n_ x.1 x.2=some r) ?_ ?_
 ·obtain ⟨r2,hr2,H⟩:=bind_some H
  have q:=aI qe hr2
  refine rAq ?_
  refine jr ?_
  obtain ⟨y13,hy13,Ho13⟩:=bind_some H
  refine jL _ (fun x=>cwm n_ r2 (r2.length:Int) x.1 x.2.1 x.2.2) hy13 (wb [none]) ?_
  rintro ⟨out_2,at__1,v24⟩ z13 H
  try dsimp only at H
  unfold ck0 at H
  refine Sm.st (cwm.eq_1 ..) ?_
  refine rA ?_
  refine jj fun K15 hK15=>?_
  refine cnd H (fun h16 H=>?_) (fun h16 H=>?_)
  ·refine jo ?_
   refine hK15 _ ?_
   refine jS (fun (x:(List aj0)×Int)=>cwr n_ x.1 x.2 r2 (r2.length:Int) v24) (fun x=>bwq n n_ x.1 x.2 r2 (r2.length:Int) v24=some z13) ?_ ?_
   ·refine jr ?_
    obtain ⟨hg22,H⟩:=aj3 H
    refine rA ?_
    refine jS (fun (x:(List aj0))=>czj n_ x ((gt r2 (Int.toNat v24)).At) ((gt r2 (Int.toNat v24)).Len) r2 (r2.length:Int) v24) (fun x=>ayr n n_ x ((gt r2 (Int.toNat v24)).At) ((gt r2 (Int.toNat v24)).Len) r2 (r2.length:Int) v24=some z13) ?_ ?_
    ·refine rA ?_
     refine rA ?_
     refine cnd H (fun h20 H=>?_) (fun h20 H=>?_)
     ·obtain ⟨hg21,H⟩:=aj3 H
      refine eA ?_
      refine lf ?_
      exact ⟨_,H,wb [some 672,some 128]⟩
     refine jo ?_
     refine lf ?_
     exact ⟨_,H,wb [some 9003,some 128]⟩
    rintro out_4 H
    try dsimp only at H
    unfold ayr at H
    refine Sm.st (czj.eq_1 ..) ?_
    refine eA ?_
    refine lf ?_
    exact ⟨(out_4,(jc .i64 ((gt r2 (Int.toNat v24)).At+(gt r2 (Int.toNat v24)).Len))),H,wb [some 9005]⟩
   rintro ⟨out_3,at__2⟩ H
   try dsimp only at H
   unfold bwq at H
   refine Sm.st (cwr.eq_1 ..) ?_
   refine eA ?_
   refine lf ?_
   exact nx H (wb [some 9004])
  refine jR ?_
  refine lf ?_
  refine lx H fun hyy=>?_
  subst hyy
  have H:=Ho13
  try dsimp only at H
  refine lf ?_
  exact ⟨(out_2,at__1),H,wb [some 9003]⟩
 rintro ⟨out,at_⟩ H
 try dsimp only at H
 unfold bwh at H
 refine Sm.st (cz3.eq_1 ..) ?_
 refine jS (fun (x:(List aj0))=>cwo x) (fun x=>ayn n x=some r) ?_ ?_
 ·refine rA ?_
  refine cnd H (fun h10 H=>?_) (fun h10 H=>?_)
  ·obtain ⟨hg11,H⟩:=aj3 H
   refine eA ?_
   refine lf ?_
   exact ⟨_,H,wb [some 944]⟩
  refine jo ?_
  refine lf ?_
  exact ⟨_,H,wb [some 9000]⟩
 rintro out_1 H
 try dsimp only at H
 unfold ayn at H
 refine Sm.st (cwo.eq_1 ..) ?_
 refine rA ?_
 refine jp ?_
 refine lf ?_
 obtain rfl:=Option.some.inj H
 exact rto [some 9001]
abbrev dwa (v:aj9) (used:List aj0):S:=stB [(1,.box 9000 0),(3,.own 9001 [.int .i64,.int .i64] 0 used.length)] [(9000,.box [.c .str (.str v.Serial),.c (.int .i64) (.int v.Cyls),.c (.int .i64) (.int v.Heads),.c (.int .i64) (.int v.Size),.c (.slice 41) (.slice (List.map aj4 v.Sets))]),(9001,.row 80 (List.map aj2 used))]
def cqr (n:Nat) (v:aj9) (used:List aj0):Option (List aj0) :=
 (ckn n used (jc .i64 (v.Cyls * v.Heads))).bind fun r2 =>
 some r2
abbrev dw1 (v:aj9) (v16:Int) (used_1:List aj0) (v17:Int):S:=stB [(1,.box 9004 0),(3,.own 9005 [.int .i64,.int .i64] 0 used_1.length),(15,.c (.slice 41) (.slice (List.map aj4 v.Sets))),(16,.c (.int .i64) (.int v16)),(17,.c (.int .i64) (.int v17))] [(9004,.box [.c .str (.str v.Serial),.c (.int .i64) (.int v.Cyls),.c (.int .i64) (.int v.Heads),.c (.int .i64) (.int v.Size),.c (.slice 41) (.slice (List.map aj4 v.Sets))]),(9005,.row 80 (List.map aj2 used_1))]
def dw5 (n:Nat) (v:aj9) (v16:Int) (used_1:List aj0) (v17:Int):Option (((List aj0)×Int) ⊕ (((List aj0)))) :=
 bif (decide (v17 < v16)) then
  gd ((0≤v17∧v17 < (v.Sets.length:Int))) <|
  gd ((used_1.length+((gt v.Sets (Int.toNat v17)).Extents).length)≤2147483648) <|
  some (.inl ((used_1 ++ (gt v.Sets (Int.toNat v17)).Extents),(jc .i64 (v17+1))))
 else
  some (.inr used_1)
def bzi (n:Nat) (v:aj9):Option (List aj0) :=
 (aq5 n v).bind fun r1 =>
 bif (r1 != 0) then
  some []
 else
  (aql (fun (x:(List aj0)×Int)=>dw5 n v (v.Sets.length:Int) x.1 x.2) n ([(⟨0,(jc .i64 (v.Size+1))⟩:aj0)],0)).bind fun y9 =>
  cqr n v y9
def bjr (n:Nat):Go.AE.Fn:=mkFn (A:=aj9) (R:=(List aj0)) 34 [(true,[.str,.int .i64,.int .i64,.int .i64,.slice 41])] false (fun xs=>(⟨(cg (xs.getD 0 []) 0).toStr,(cg (xs.getD 0 []) 1).toInt,(cg (xs.getD 0 []) 2).toInt,(cg (xs.getD 0 []) 3).toInt,((cg (xs.getD 0 []) 4).toSl.map aqi)⟩:aj9)) (fun a=>[[.str a.Serial,.int a.Cyls,.int a.Heads,.int a.Size,.slice (List.map aj4 a.Sets)]]) (fun a=>bzi n a) (fun r=>[.own 0 [.int .i64,.int .i64] 0 r.length]) (fun r=>[.row 80 (List.map aj2 r)])
theorem bzb (n:Nat):aj1 jd (bjr n):=by
 have hΓ:=g1 (aw4 n) (g1 (ez9 n) (@g0 (aj1 jd)))
 have qe:=aI @aqc.eq_1 @dqw.eq_1
 refine aj6 (Tryz.f34.body.getD .skip) h00 Tryz.func34 rfl Tryz.call34 (by decide) (fun _ r=>⟨rfl,m1 ⟨80,_,_,rfl,ty80,rfl⟩ m0⟩) ?_
 rintro v r H
 try dsimp only at H
 unfold bzi at H
 simp only [Tryz.f34,jn]
 refine rA ?_
 refine jj fun K2 hK2=>?_
 obtain ⟨r1,hr1,H⟩:=bind_some H
 have q:=aI qe hr1
 refine rAq ?_
 refine cnd H (fun h4 H=>?_) (fun h4 H=>?_)
 ·refine rA ?_
  refine jp ?_
  refine lf ?_
  obtain rfl:=Option.some.inj H
  exact rto [none]
 refine jo ?_
 refine hK2 _ ?_
 refine rA ?_
 refine jS (fun (x:(List aj0))=>dwa v x) (fun x=>cqr n v x=some r) ?_ ?_
 ·refine rA ?_
  refine jr ?_
  obtain ⟨y9,hy9,Ho9⟩:=bind_some H
  refine jL _ (fun x=>dw1 v (v.Sets.length:Int) x.1 x.2) hy9 (wb [some 16,some 208]) ?_
  rintro ⟨used_1,v17⟩ z9 H
  try dsimp only at H
  unfold dw5 at H
  refine Sm.st (dw1.eq_1 ..) ?_
  refine rA ?_
  refine jj fun K11 hK11=>?_
  refine cnd H (fun h12 H=>?_) (fun h12 H=>?_)
  ·refine jo ?_
   refine hK11 _ ?_
   refine jj fun K13 hK13=>?_
   refine jr ?_
   obtain ⟨hg16,H⟩:=aj3 H
   refine rA ?_
   obtain ⟨hg15,H⟩:=aj3 H
   refine eA ?_
   refine hK13 _ ?_
   refine eA ?_
   refine lf ?_
   exact nx H (wb [some 9004,some 384])
  refine jR ?_
  refine lf ?_
  refine lx H fun hyy=>?_
  subst hyy
  have H:=Ho9
  try dsimp only at H
  refine lf ?_
  exact ⟨_,H,wb [some 9004,some 9005]⟩
 rintro used H
 try dsimp only at H
 unfold cqr at H
 refine Sm.st (dwa.eq_1 ..) ?_
 obtain ⟨r2,hr2,H⟩:=bind_some H
 have q:=aI qe hr2
 refine rAq ?_
 refine jp ?_
 refine lf ?_
 obtain rfl:=Option.some.inj H
 exact rto [some 512]
abbrev cqu:S:=stB [] []
def bq1 (n:Nat):Option Bool :=
 some true
abbrev byw (n_:Int) (l:List aj0) (v9:Int) (end_:Int) (v10:Int):S:=stB [(1,.c (.int .i64) (.int n_)),(5,.c (.int .i64) (.int end_)),(8,.c (.slice 80) (.slice (List.map aj2 l))),(9,.c (.int .i64) (.int v9)),(10,.c (.int .i64) (.int v10))] []
def cql (n:Nat) (n_:Int) (l:List aj0) (v9:Int) (end_:Int) (v10:Int):Option ((Int×Int) ⊕ (((Bool) ⊕ (Unit)))) :=
 bif (decide (v10 < v9)) then
  gd ((0≤v10∧v10 < (l.length:Int))) <|
  (bw9 n (gt l (Int.toNat v10))).bind fun r1 =>
  bif (if (if (!r1)=true then true else (decide (((gt l (Int.toNat v10)).At)≤end_)))=true then true else (decide ((jc .i64 (((gt l (Int.toNat v10)).At)+((gt l (Int.toNat v10)).Len))) > n_))) then
   some (.inr (.inl false))
  else
   some (.inl ((jc .i64 (((gt l (Int.toNat v10)).At)+((gt l (Int.toNat v10)).Len))),(jc .i64 (v10+1))))
 else
  some (.inr (.inr ()))
def cj6 (n:Nat) (l:List aj0) (n_:Int):Option Bool :=
 (aql (fun (x:Int×Int)=>cql n n_ l (l.length:Int) x.1 x.2) n ((-1),0)).bind fun y5 =>
 match y5 with
 | .inl vv =>
  some vv
 | .inr vv =>
  bq1 n
def cku (n:Nat):Go.AE.Fn:=mkFn (A:=(List aj0)×Int) (R:=Bool) 137 [(false,[.slice 80]),(false,[.int .i64])] false (fun xs=>(((cg (xs.getD 0 []) 0).toSl.map aji),(cg (xs.getD 1 []) 0).toInt)) (fun a=>[[.slice (List.map aj2 a.1)],[.int a.2]]) (fun a=>cj6 n a.1 a.2) (fun r=>[.c .bool (.bool r)]) (fun r=>[])
theorem ew5 (n:Nat):aj1 jd (cku n):=by
 have hΓ:=g1 (cye n) (@g0 (aj1 jd))
 refine aj6 (Tryz.f137.body.getD .skip) h00 Tryz.func137 rfl Tryz.call137 (by decide) (by intro _ r;exact ⟨rfl,by simp⟩) ?_
 rintro ⟨l,n_⟩ r H
 try dsimp only at H
 unfold cj6 at H
 simp only [Tryz.f137,jn]
 refine rA ?_
 refine rA ?_
 refine jS (fun (x:Unit)=>cqu) (fun x=>bq1 n=some r) ?_ ?_
 ·refine rA ?_
  refine jr ?_
  obtain ⟨y5,hy5,Ho5⟩:=bind_some H
  refine jL _ (fun x=>byw n_ l (l.length:Int) x.1 x.2) hy5 (wb []) ?_
  rintro ⟨end_,v10⟩ z5 H
  try dsimp only at H
  unfold cql at H
  refine Sm.st (byw.eq_1 ..) ?_
  refine rA ?_
  refine jj fun K7 hK7=>?_
  refine cnd H (fun h8 H=>?_) (fun h8 H=>?_)
  ·refine jo ?_
   refine hK7 _ ?_
   refine jj fun K9 hK9=>?_
   refine jr ?_
   obtain ⟨hg15,H⟩:=aj3 H
   refine rA ?_
   refine jj fun K11 hK11=>?_
   obtain ⟨r1,hr1,H⟩:=bind_some H
   have q:=aI @bzo.eq_1 hr1
   refine rAq ?_
   refine cnd H (fun h13 H=>?_) (fun h13 H=>?_)
   ·refine rA ?_
    refine jp ?_
    refine lf ?_
    refine lx H fun hyy=>?_
    subst hyy
    have H:=Ho5
    try dsimp only at H
    refine lf ?_
    obtain rfl:=Option.some.inj H
    exact rt []
   refine jo ?_
   refine hK11 _ ?_
   refine eA ?_
   refine hK9 _ ?_
   refine eA ?_
   refine lf ?_
   exact nx H (wb [])
  refine jR ?_
  refine lf ?_
  refine lx H fun hyy=>?_
  subst hyy
  have H:=Ho5
  try dsimp only at H
  refine lf ?_
  exact ⟨(),H,wb []⟩
 rintro ⟨⟩ H
 try dsimp only at H
 unfold bq1 at H
 refine Sm.st (cqu.eq_1 ..) ?_
 refine rA ?_
 refine jp ?_
 refine lf ?_
 obtain rfl:=Option.some.inj H
 exact rt []
def awf (n:Nat) (s:List aj0) (s_l:Nat) (i:Int) (j:Int):Option (Nat×(List aj0)) :=
 gd ((0≤i∧i≤j∧j≤((s_l:Nat):Int)∧((s_l:Nat):Int)≤(s_l:Int))) <|
 bif (i == j) then
  some (s_l,s)
 else
  gd ((0≤i∧i≤(s.length:Int))∧(0≤j∧j≤(s_l:Int)∧(s_l:Int)≤(s.length:Int))∧((Int.toNat (i - 0))+(List.take (Int.toNat ((s_l:Int) - j)) (List.drop (Int.toNat j) s)).length)≤s.length) <|
  gd ((0≤((((Int.toNat (i - 0))+(List.take (Int.toNat ((s_l:Int) - j)) (List.drop (Int.toNat j) s)).length):Nat):Int)∧((((Int.toNat (i - 0))+(List.take (Int.toNat ((s_l:Int) - j)) (List.drop (Int.toNat j) s)).length):Nat):Int)≤((s_l:Nat):Int)∧((s_l:Nat):Int)≤(s.length:Int))∧(((Int.toNat (i - 0))+(List.take (Int.toNat ((s_l:Int) - j)) (List.drop (Int.toNat j) s)).length)+(Int.toNat (((s_l:Nat):Int) - ((((Int.toNat (i - 0))+(List.take (Int.toNat ((s_l:Int) - j)) (List.drop (Int.toNat j) s)).length):Nat):Int))))≤s.length) <|
  some (((Int.toNat (i - 0))+(List.take (Int.toNat ((s_l:Int) - j)) (List.drop (Int.toNat j) s)).length),(bkf (bkf s (Int.toNat (i - 0)) (List.take (Int.toNat ((s_l:Int) - j)) (List.drop (Int.toNat j) s))) ((Int.toNat (i - 0))+(List.take (Int.toNat ((s_l:Int) - j)) (List.drop (Int.toNat j) s)).length) (aqt (Int.toNat (((s_l:Nat):Int) - ((((Int.toNat (i - 0))+(List.take (Int.toNat ((s_l:Int) - j)) (List.drop (Int.toNat j) s)).length):Nat):Int))) (⟨0,0⟩:aj0))))
theorem ayb (n:Nat) (s:List aj0) (s_l:Nat) (i:Int) (j:Int) (r:Nat×(List aj0)) (H:awf n s s_l i j=some r):awi jd 138 [.ref (.own 0 [.int .i64,.int .i64] 0 s_l),.dat (false,[.int .i64]) [.int i],.dat (false,[.int .i64]) [.int j]] [.row 80 (List.map aj2 s)] [.own 0 [.int .i64,.int .i64] 0 r.1] [.row 80 (List.map aj2 r.2)]:=by
 have hΓ:=@g0 (aj1 jd)
 refine awt (Tryz.f138.body.getD .skip) h00 Tryz.func138 rfl Tryz.call138 (ju rfl) (ju rfl) ?_
 unfold awf at H
 simp only [Tryz.f138,jn]
 refine rA ?_
 refine sX fun K2 hK2=>?_
 obtain ⟨hg3,H⟩:=aj3 H
 iterate 5 refine oX ?_
 refine oY ?_
 refine hK2 _ ?_
 refine jj fun K4 hK4=>?_
 refine rA ?_
 refine cnd H (fun h6 H=>?_) (fun h6 H=>?_)
 ·refine rA ?_
  refine jp ?_
  refine lf ?_
  obtain rfl:=Option.some.inj H
  exact rtM [some 0]
 refine jo ?_
 refine hK4 _ ?_
 refine rA ?_
 obtain ⟨⟨hg14,hg15,hg16⟩,H⟩:=aj3 H
 refine rD ?_
 refine sX fun K10 hK10=>?_
 obtain ⟨⟨hg11,hg12⟩,H⟩:=aj3 H
 iterate 5 refine oX ?_
 refine oY ?_
 refine hK10 _ ?_
 refine rA ?_
 refine jp ?_
 refine lf ?_
 obtain rfl:=Option.some.inj H
 exact rtM [some 0]
abbrev czy:S:=stB [] []
def bwr (n:Nat):Option ((List aj0)×(List aj0)×Int) :=
 some ([],[],200)
abbrev cwz (want_1:Int) (most:Int) (got:List aj0) (rest:List aj0) (rest_2:Nat) (longest:Int):S:=stB [(1,.c (.int .i64) (.int want_1)),(2,.c (.int .i64) (.int most)),(6,.own 9005 [.int .i64,.int .i64] 0 got.length),(7,.own 9006 [.int .i64,.int .i64] 0 rest_2),(9,.c (.int .i64) (.int longest))] [(9005,.row 80 (List.map aj2 got)),(9006,.row 80 (List.map aj2 rest))]
def bwv (n:Nat) (want_1:Int) (most:Int) (got:List aj0) (rest:List aj0) (rest_2:Nat) (longest:Int):Option ((Int×(List aj0)×(List aj0)×Nat) ⊕ ((((List aj0)×(List aj0)×Int) ⊕ (Unit)))) :=
 gd ((0≤longest∧longest < (rest_2:Int))∧(Int.toNat longest) < rest.length∧(got.length+1)≤2147483648) <|
 gd ((0≤longest∧longest < (rest_2:Int))∧(Int.toNat longest) < rest.length) <|
 (awf n rest rest_2 longest (jc .i64 (longest+1))).bind fun r3 =>
 some (.inl ((jc .i64 (want_1 - ((gt rest (Int.toNat longest)).Len))),(got ++ [(gt rest (Int.toNat longest))]),r3.2,r3.1))
abbrev czb (want_1:Int) (most:Int) (got:List aj0) (rest:List aj0) (rest_4:Nat) (longest_2:Int) (v35:Int) (v36:Int):S:=stB [(1,.c (.int .i64) (.int want_1)),(2,.c (.int .i64) (.int most)),(6,.own 9013 [.int .i64,.int .i64] 0 got.length),(7,.own 9014 [.int .i64,.int .i64] 0 rest_4),(9,.c (.int .i64) (.int longest_2)),(34,.own 9014 [.int .i64,.int .i64] 0 rest_4),(35,.c (.int .i64) (.int v35)),(36,.c (.int .i64) (.int v36))] [(9013,.row 80 (List.map aj2 got)),(9014,.row 80 (List.map aj2 rest))]
def ayp (n:Nat) (want_1:Int) (most:Int) (got:List aj0) (rest:List aj0) (rest_4:Nat) (longest_2:Int) (v35:Int) (v36:Int):Option ((Nat×Int×Int) ⊕ ((((List aj0)×(List aj0)×Int) ⊕ (Nat×Int)))) :=
 some (.inl (rest_4,longest_2,(jc .i64 (v36+1))))
abbrev czx (want_1:Int) (most:Int) (got:List aj0) (rest:List aj0) (v35:Int) (rest_3:Nat) (longest_1:Int) (v36:Int):S:=stB [(1,.c (.int .i64) (.int want_1)),(2,.c (.int .i64) (.int most)),(6,.own 9011 [.int .i64,.int .i64] 0 got.length),(7,.own 9012 [.int .i64,.int .i64] 0 rest_3),(9,.c (.int .i64) (.int longest_1)),(34,.own 9012 [.int .i64,.int .i64] 0 rest_3),(35,.c (.int .i64) (.int v35)),(36,.c (.int .i64) (.int v36))] [(9011,.row 80 (List.map aj2 got)),(9012,.row 80 (List.map aj2 rest))]
def cwj (n:Nat) (want_1:Int) (most:Int) (got:List aj0) (rest:List aj0) (v35:Int) (rest_3:Nat) (longest_1:Int) (v36:Int):Option ((Nat×Int×Int) ⊕ ((((List aj0)×(List aj0)×Int) ⊕ (Nat×Int)))) :=
 bif (decide (v36 < v35)) then
  gd ((0≤v36∧v36 < (rest_3:Int))∧(Int.toNat v36) < rest.length) <|
  bif (decide (((gt rest (Int.toNat v36)).Len) > want_1)) then
   gd ((got.length+1)≤2147483648) <|
   gd ((0≤v36∧v36 < (rest_3:Int))∧(Int.toNat v36) < rest.length) <|
   some (.inr (.inl ((got ++ [(⟨(gt rest (Int.toNat v36)).At,want_1⟩:aj0)]),(List.take rest_3 (List.set rest (Int.toNat v36) (⟨(jc .i64 (((gt rest (Int.toNat v36)).At)+want_1)),(jc .i64 (((gt rest (Int.toNat v36)).Len) - want_1))⟩:aj0))),0)))
  else
   bif (((gt rest (Int.toNat v36)).Len) == want_1) then
    gd ((got.length+1)≤2147483648) <|
    (awf n rest rest_3 v36 (jc .i64 (v36+1))).bind fun r4 =>
    some (.inr (.inl ((got ++ [(gt rest (Int.toNat v36))]),(List.take r4.1 r4.2),0)))
   else
    gd ((0≤longest_1∧longest_1 < (rest_3:Int))∧(Int.toNat longest_1) < rest.length) <|
    bif (decide (((gt rest (Int.toNat v36)).Len) > ((gt rest (Int.toNat longest_1)).Len))) then
     ayp n want_1 most got rest rest_3 v36 v35 v36
    else
     ayp n want_1 most got rest rest_3 longest_1 v35 v36
 else
  some (.inr (.inr (rest_3,longest_1)))
abbrev cwy (most:Int) (want_1:Int) (got:List aj0) (rest:List aj0) (rest_1:Nat):S:=stB [(1,.c (.int .i64) (.int want_1)),(2,.c (.int .i64) (.int most)),(6,.own 9003 [.int .i64,.int .i64] 0 got.length),(7,.own 9004 [.int .i64,.int .i64] 0 rest_1)] [(9003,.row 80 (List.map aj2 got)),(9004,.row 80 (List.map aj2 rest))]
def czu (n:Nat) (most:Int) (want_1:Int) (got:List aj0) (rest:List aj0) (rest_1:Nat):Option ((Int×(List aj0)×(List aj0)×Nat) ⊕ ((((List aj0)×(List aj0)×Int) ⊕ (Unit)))) :=
 bif (if (decide (((got.length:Nat):Int) < most))=true then (decide (((rest_1:Nat):Int) > 0)) else false) then
  (aql (fun (x:Nat×Int×Int)=>cwj n want_1 most got rest ((rest_1:Nat):Int) x.1 x.2.1 x.2.2) n (rest_1,0,0)).bind fun y23 =>
  match y23 with
  | .inl vv =>
   some (.inr (.inl (vv.1,vv.2.1,vv.2.2)))
  | .inr vv =>
   bwv n want_1 most got rest vv.1 vv.2
 else
  some (.inr (.inr ()))
def bzs (n:Nat) (free:List aj0) (want:Int) (most:Int):Option ((List aj0)×(List aj0)×Int) :=
 (cj6 n free 512).bind fun r1 =>
 bif (if (if (!r1)=true then true else (decide (want < 1)))=true then true else (decide (most < 1))) then
  some ([],[],1)
 else
  (awr n free).bind fun r2 =>
  (aql (fun (x:Int×(List aj0)×(List aj0)×Nat)=>czu n most x.1 x.2.1 x.2.2.1 x.2.2.2) n (want,[],r2,r2.length)).bind fun y9 =>
  match y9 with
  | .inl vv =>
   some (vv.1,vv.2.1,vv.2.2)
  | .inr vv =>
   bwr n
def bw4 (n:Nat):Go.AE.Fn:=mkFn (A:=(List aj0)×Int×Int) (R:=(List aj0)×(List aj0)×Int) 85 [(false,[.slice 80]),(false,[.int .i64]),(false,[.int .i64])] true (fun xs=>(((cg (xs.getD 0 []) 0).toSl.map aji),(cg (xs.getD 1 []) 0).toInt,(cg (xs.getD 2 []) 0).toInt)) (fun a=>[[.slice (List.map aj2 a.1)],[.int a.2.1],[.int a.2.2]]) (fun a=>bzs n a.1 a.2.1 a.2.2) (fun r=>[.own 0 [.int .i64,.int .i64] 0 r.1.length,.c (.slice 80) (.slice (List.map aj2 r.2.1)),.c (.int .i64) (.int r.2.2)]) (fun r=>[.row 80 (List.map aj2 r.1)])
theorem byh (n:Nat):aj1 jd (bw4 n):=by
 have hΓ:=g1 (ew5 n) (g1 (aze n) (@g0 (aj1 jd)))
 have qe:=aI @cku.eq_1 @aqn.eq_1
 refine aj6 (Tryz.f85.body.getD .skip) h00 Tryz.func85 rfl Tryz.call85 (by decide) (by intro h;cases h) ?_
 rintro ⟨free,want,most⟩ r H
 try dsimp only at H
 unfold bzs at H
 simp only [Tryz.f85,jn]
 refine rA ?_
 refine Sm.scope ?_
 refine jj fun K2 hK2=>?_
 obtain ⟨r1,hr1,H⟩:=bind_some H
 have q:=aI qe hr1
 refine rAq ?_
 refine cnd H (fun h4 H=>?_) (fun h4 H=>?_)
 ·refine rA ?_
  refine jp ?_
  refine lf ?_
  obtain rfl:=Option.some.inj H
  exact rto [none]
 refine jo ?_
 refine hK2 _ ?_
 obtain ⟨r2,hr2,H⟩:=bind_some H
 have q:=aI qe hr2
 refine rAq ?_
 refine jj fun K7 hK7=>?_
 refine Sm.of (Γ:=[]) h00 mixed (by simp) rfl ?_
 refine hK7 _ ?_
 refine jS (fun (x:Unit)=>czy) (fun x=>bwr n=some r) ?_ ?_
 ·refine jr ?_
  obtain ⟨y9,hy9,Ho9⟩:=bind_some H
  refine jL _ (fun x=>cwy most x.1 x.2.1 x.2.2.1 x.2.2.2) hy9 (wb [none,some 384]) ?_
  rintro ⟨want_1,got,rest,rest_1⟩ z9 H
  try dsimp only at H
  unfold czu at H
  refine Sm.st (cwy.eq_1 ..) ?_
  refine jj fun K10 hK10=>?_
  refine rA ?_
  refine cnd H (fun h12 H=>?_) (fun h12 H=>?_)
  ·refine jo ?_
   refine hK10 _ ?_
   refine jr ?_
   refine rA ?_
   refine jS (fun (x:Nat×Int)=>cwz want_1 most got rest x.1 x.2) (fun x=>bwv n want_1 most got rest x.1 x.2=some z9) ?_ ?_
   ·refine rA ?_
    refine jr ?_
    obtain ⟨y23,hy23,Ho23⟩:=bind_some H
    refine jL _ (fun x=>czx want_1 most got rest ((rest_1:Nat):Int) x.1 x.2.1 x.2.2) hy23 (wb [some 9003,some 9004]) ?_
    rintro ⟨rest_3,longest_1,v36⟩ z23 H
    try dsimp only at H
    unfold cwj at H
    refine Sm.st (czx.eq_1 ..) ?_
    refine rA ?_
    refine jj fun K25 hK25=>?_
    refine cnd H (fun h26 H=>?_) (fun h26 H=>?_)
    ·refine jo ?_
     refine hK25 _ ?_
     refine jS (fun (x:Int)=>czb want_1 most got rest rest_3 x ((rest_1:Nat):Int) v36) (fun x=>ayp n want_1 most got rest rest_3 x ((rest_1:Nat):Int) v36=some z23) ?_ ?_
     ·refine jr ?_
      obtain ⟨⟨hg47,hg48⟩,H⟩:=aj3 H
      refine rA ?_
      refine jj fun K28 hK28=>?_
      refine rA ?_
      refine cnd H (fun h30 H=>?_) (fun h30 H=>?_)
      ·obtain ⟨hg36,H⟩:=aj3 H
       refine rA ?_
       obtain ⟨⟨hg34,hg35⟩,H⟩:=aj3 H
       refine rA ?_
       refine rA ?_
       refine jp ?_
       refine lf ?_
       refine lx H fun hyy=>?_
       subst hyy
       have H:=Ho23
       try dsimp only at H
       refine lf ?_
       refine lx H fun hyy=>?_
       subst hyy
       have H:=Ho9
       try dsimp only at H
       refine lf ?_
       obtain rfl:=Option.some.inj H
       exact rto [some 816]
      refine jo ?_
      refine hK28 _ ?_
      refine jj fun K37 hK37=>?_
      refine rA ?_
      refine cnd H (fun h39 H=>?_) (fun h39 H=>?_)
      ·obtain ⟨hg42,H⟩:=aj3 H
       refine rA ?_
       refine sX fun K41 hK41=>?_
       obtain ⟨r4,hr4,H⟩:=bind_some H
       have q:=hr4
       iterate 5 refine oX ?_
       refine oMq (ayb n _ _ _ _ r4 hr4) [9012] [] ?_
       iterate 3 refine oXq ?_
       refine hK41 _ ?_
       refine jp ?_
       refine lf ?_
       refine lx H fun hyy=>?_
       subst hyy
       have H:=Ho23
       try dsimp only at H
       refine lf ?_
       refine lx H fun hyy=>?_
       subst hyy
       have H:=Ho9
       try dsimp only at H
       refine lf ?_
       obtain rfl:=Option.some.inj H
       exact rto [some 1168]
      refine jo ?_
      refine hK37 _ ?_
      obtain ⟨⟨hg45,hg46⟩,H⟩:=aj3 H
      refine rD ?_
      refine cnd H (fun h44 H=>?_) (fun h44 H=>?_)
      ·refine eA ?_
       refine lf ?_
       exact ⟨_,H,wb [some 9011,some 9012]⟩
      refine jo ?_
      refine lf ?_
      exact ⟨_,H,wb [some 9011,some 9012]⟩
     rintro longest_2 H
     try dsimp only at H
     unfold ayp at H
     refine Sm.st (czb.eq_1 ..) ?_
     refine eA ?_
     refine lf ?_
     exact nx H (wb [some 9013,some 9014])
    refine jR ?_
    refine lf ?_
    refine lx H fun hyy=>?_
    subst hyy
    have H:=Ho23
    try dsimp only at H
    refine lf ?_
    exact ⟨(rest_3,longest_1),H,wb [some 9011,some 9012]⟩
   rintro ⟨rest_2,longest⟩ H
   try dsimp only at H
   unfold bwv at H
   refine Sm.st (cwz.eq_1 ..) ?_
   obtain ⟨⟨hg19,hg20,hg21⟩,H⟩:=aj3 H
   refine rA ?_
   obtain ⟨⟨hg17,hg18⟩,H⟩:=aj3 H
   refine rA ?_
   refine sX fun K16 hK16=>?_
   obtain ⟨r3,hr3,H⟩:=bind_some H
   have q:=hr3
   iterate 4 refine oX ?_
   refine oMq (ayb n _ _ _ _ r3 hr3) [9006] [] ?_
   refine oXq ?_
   refine hK16 _ ?_
   refine jR ?_
   refine lf ?_
   exact nx H (wb [some 1536,some 9006])
  refine jR ?_
  refine lf ?_
  refine lx H fun hyy=>?_
  subst hyy
  have H:=Ho9
  try dsimp only at H
  refine lf ?_
  exact ⟨(),H,wb []⟩
 rintro ⟨⟩ H
 try dsimp only at H
 unfold bwr at H
 refine Sm.st (czy.eq_1 ..) ?_
 refine rA ?_
 refine jp ?_
 refine lf ?_
 obtain rfl:=Option.some.inj H
 exact rto [none]
abbrev bjc (v:aj9) (l:List aja):S:=stB [(1,.box 9000 0),(2,.box 9001 0),(3,.own 9002 [.str,.int .i64,.int .i64,.bool,.bool,.int .i64,.int .i64,.int .i64,.int .i64,.slice 80,.int .i64] 0 l.length)] [(9000,.box [.c .str (.str v.Serial),.c (.int .i64) (.int v.Cyls),.c (.int .i64) (.int v.Heads),.c (.int .i64) (.int v.Size),.c (.slice 41) (.slice (List.map aj4 v.Sets))]),(9001,.box [.c .str (.str []),.c (.int .i64) (.int 0),.c (.int .i64) (.int 0),.c (.int .i64) (.int 0),.nilsl]),(9002,.row 41 (List.map aj4 l))]
def aqu (n:Nat) (v:aj9) (l:List aja):Option aj9 :=
 some (⟨v.Serial,v.Cyls,v.Heads,v.Size,l⟩:aj9)
abbrev awl (v:aj9) (v16:Int) (l_1:List aja) (v17:Int):S:=stB [(1,.box 9006 0),(2,.box 9007 0),(3,.own 9008 [.str,.int .i64,.int .i64,.bool,.bool,.int .i64,.int .i64,.int .i64,.int .i64,.slice 80,.int .i64] 0 l_1.length),(15,.c (.slice 41) (.slice (List.map aj4 v.Sets))),(16,.c (.int .i64) (.int v16)),(17,.c (.int .i64) (.int v17))] [(9006,.box [.c .str (.str v.Serial),.c (.int .i64) (.int v.Cyls),.c (.int .i64) (.int v.Heads),.c (.int .i64) (.int v.Size),.c (.slice 41) (.slice (List.map aj4 v.Sets))]),(9007,.box [.c .str (.str []),.c (.int .i64) (.int 0),.c (.int .i64) (.int 0),.c (.int .i64) (.int 0),.nilsl]),(9008,.row 41 (List.map aj4 l_1))]
def ak5 (n:Nat) (v:aj9) (v16:Int) (l_1:List aja) (v17:Int):Option (((List aja)×Int) ⊕ (((List aja)))) :=
 bif (decide (v17 < v16)) then
  gd ((0≤v17∧v17 < (v.Sets.length:Int))) <|
  (awr n ((gt v.Sets (Int.toNat v17)).Extents)).bind fun r1 =>
  gd ((0≤v17∧v17 < (l_1.length:Int))∧(Int.toNat v17) < l_1.length) <|
  some (.inl ((List.set l_1 (Int.toNat v17) (⟨(gt v.Sets (Int.toNat v17)).Name,((gt v.Sets (Int.toNat v17)).Dcb),r1,(gt v.Sets (Int.toNat v17)).Used⟩:aja)),(jc .i64 (v17+1))))
 else
  some (.inr l_1)
def ajy (n:Nat) (v:aj9):Option aj9 :=
 gd ((0≤(v.Sets.length:Int)∧(v.Sets.length:Int)≤(jc .i64 ((v.Sets.length:Int)+1))∧(jc .i64 ((v.Sets.length:Int)+1))≤2147483648)) <|
 (aql (fun (x:(List aja)×Int)=>ak5 n v (v.Sets.length:Int) x.1 x.2) n ((aqt (Int.toNat (v.Sets.length:Int)) (⟨[],(⟨0,0,false,false,0,0,0,0⟩:TDcb),[],0⟩:aja)),0)).bind fun y7 =>
 aqu n v y7
def awe (n:Nat):Go.AE.Fn:=mkFn (A:=aj9) (R:=aj9) 57 [(true,[.str,.int .i64,.int .i64,.int .i64,.slice 41])] true (fun xs=>(⟨(cg (xs.getD 0 []) 0).toStr,(cg (xs.getD 0 []) 1).toInt,(cg (xs.getD 0 []) 2).toInt,(cg (xs.getD 0 []) 3).toInt,((cg (xs.getD 0 []) 4).toSl.map aqi)⟩:aj9)) (fun a=>[[.str a.Serial,.int a.Cyls,.int a.Heads,.int a.Size,.slice (List.map aj4 a.Sets)]]) (fun a=>ajy n a) (fun r=>[.agg [.c .str (.str r.Serial),.c (.int .i64) (.int r.Cyls),.c (.int .i64) (.int r.Heads),.c (.int .i64) (.int r.Size),.own 0 [.str,.int .i64,.int .i64,.bool,.bool,.int .i64,.int .i64,.int .i64,.int .i64,.slice 80,.int .i64] 0 r.Sets.length]]) (fun r=>[.row 41 (List.map aj4 r.Sets)])
theorem azb (n:Nat):aj1 jd (awe n):=by
 have hΓ:=g1 (aze n) (@g0 (aj1 jd))
 refine aj6 (Tryz.f57.body.getD .skip) h00 Tryz.func57 rfl Tryz.call57 (by decide) (by intro h;cases h) ?_
 rintro v r H
 try dsimp only at H
 unfold ajy at H
 simp only [Tryz.f57,jn]
 refine rA ?_
 refine sX fun K2 hK2=>?_
 obtain ⟨hg3,H⟩:=aj3 H
 iterate 7 refine oX ?_
 refine oY ?_
 refine oX ?_
 refine hK2 _ ?_
 refine jS (fun (x:(List aja))=>bjc v x) (fun x=>aqu n v x=some r) ?_ ?_
 ·refine rA ?_
  refine jr ?_
  obtain ⟨y7,hy7,Ho7⟩:=bind_some H
  refine jL _ (fun x=>awl v (v.Sets.length:Int) x.1 x.2) hy7 (wb [some 16,some 32,some 208]) ?_
  rintro ⟨l_1,v17⟩ z7 H
  try dsimp only at H
  unfold ak5 at H
  refine Sm.st (awl.eq_1 ..) ?_
  refine rA ?_
  refine jj fun K9 hK9=>?_
  refine cnd H (fun h10 H=>?_) (fun h10 H=>?_)
  ·refine jo ?_
   refine hK9 _ ?_
   refine jj fun K11 hK11=>?_
   refine jr ?_
   obtain ⟨hg16,H⟩:=aj3 H
   refine rA ?_
   obtain ⟨r1,hr1,H⟩:=bind_some H
   have q:=aI @aqn.eq_1 hr1
   refine rAq ?_
   obtain ⟨⟨hg14,hg15⟩,H⟩:=aj3 H
   refine eA ?_
   refine hK11 _ ?_
   refine eA ?_
   refine lf ?_
   exact nx H (wb [some 9006,some 9007,some 9008])
  refine jR ?_
  refine lf ?_
  refine lx H fun hyy=>?_
  subst hyy
  have H:=Ho7
  try dsimp only at H
  refine lf ?_
  exact ⟨_,H,wb [some 9006,some 9007,some 9008]⟩
 rintro l H
 try dsimp only at H
 unfold aqu at H
 refine Sm.st (bjc.eq_1 ..) ?_
 refine rA ?_
 refine rA ?_
 refine jp ?_
 refine lf ?_
 obtain rfl:=Option.some.inj H
 exact rto [some 9002]
def az0 (n:Nat) (v:aj9) (d:aja) (tracks:Int):Option (aj9×Int) :=
 (aq5 n v).bind fun r1 =>
 bif (r1 != 0) then
  some ((⟨[],0,0,0,[]⟩:aj9),r1)
 else
  (ajg n d.Name).bind fun r2 =>
  gd (((!(!r2))=true→(aqg n d.Dcb).isSome=true)) <|
  bif (if (if (!r2)=true then true else (!((aqg n d.Dcb).getD default)))=true then true else (decide (tracks < 1))) then
   some ((⟨[],0,0,0,[]⟩:aj9),1)
  else
   (aqp n v d.Name).bind fun r3 =>
   bif r3.2 then
    some ((⟨[],0,0,0,[]⟩:aj9),4)
   else
    bif ((v.Sets.length:Int) == (if (jc .i64 (14 * v.Size)) < 64 then (jc .i64 (14 * v.Size)) else 64)) then
     some ((⟨[],0,0,0,[]⟩:aj9),7)
    else
     (bzi n v).bind fun r4 =>
     (bzs n r4 tracks 8).bind fun r5 =>
     bif (r5.2.2 != 0) then
      some ((⟨[],0,0,0,[]⟩:aj9),r5.2.2)
     else
      (ajy n v).bind fun r6 =>
      (bqd n r6.Sets r3.1 [(⟨d.Name,d.Dcb,r5.1,0⟩:aja)]).bind fun r7 =>
      some ((⟨r6.Serial,r6.Cyls,r6.Heads,r6.Size,r7⟩:aj9),0)
def bw0 (n:Nat):Go.AE.Fn:=mkFn (A:=aj9×aja×Int) (R:=aj9×Int) 41 [(true,[.str,.int .i64,.int .i64,.int .i64,.slice 41]),(true,[.str,.int .i64,.int .i64,.bool,.bool,.int .i64,.int .i64,.int .i64,.int .i64,.slice 80,.int .i64]),(false,[.int .i64])] true (fun xs=>((⟨(cg (xs.getD 0 []) 0).toStr,(cg (xs.getD 0 []) 1).toInt,(cg (xs.getD 0 []) 2).toInt,(cg (xs.getD 0 []) 3).toInt,((cg (xs.getD 0 []) 4).toSl.map aqi)⟩:aj9),(⟨(cg (xs.getD 1 []) 0).toStr,(⟨(cg (xs.getD 1 []) 1).toInt,(cg (xs.getD 1 []) 2).toInt,(cg (xs.getD 1 []) 3).toBool,(cg (xs.getD 1 []) 4).toBool,(cg (xs.getD 1 []) 5).toInt,(cg (xs.getD 1 []) 6).toInt,(cg (xs.getD 1 []) 7).toInt,(cg (xs.getD 1 []) 8).toInt⟩:TDcb),((cg (xs.getD 1 []) 9).toSl.map aji),(cg (xs.getD 1 []) 10).toInt⟩:aja),(cg (xs.getD 2 []) 0).toInt)) (fun a=>[[.str a.1.Serial,.int a.1.Cyls,.int a.1.Heads,.int a.1.Size,.slice (List.map aj4 a.1.Sets)],[.str a.2.1.Name,.int a.2.1.Dcb.Org,.int a.2.1.Dcb.Format,.bool a.2.1.Dcb.Blocked,.bool a.2.1.Dcb.Asa,.int a.2.1.Dcb.Lrecl,.int a.2.1.Dcb.Blksize,.int a.2.1.Dcb.KeyLen,.int a.2.1.Dcb.KeyPos,.slice (List.map aj2 a.2.1.Extents),.int a.2.1.Used],[.int a.2.2]]) (fun a=>az0 n a.1 a.2.1 a.2.2) (fun r=>[.agg [.c .str (.str r.1.Serial),.c (.int .i64) (.int r.1.Cyls),.c (.int .i64) (.int r.1.Heads),.c (.int .i64) (.int r.1.Size),.own 0 [.str,.int .i64,.int .i64,.bool,.bool,.int .i64,.int .i64,.int .i64,.int .i64,.slice 80,.int .i64] 0 r.1.Sets.length],.c (.int .i64) (.int r.2)]) (fun r=>[.row 41 (List.map aj4 r.1.Sets)])
theorem byd (n:Nat):aj1 jd (bw0 n):=by
 have hΓ:=g1 (aw4 n) (g1 (dqr n) (g1 (bqm n) (g1 (awo n) (g1 (bzb n) (g1 (byh n) (g1 (azb n) (@g0 (aj1 jd))))))))
 have qe:=aI @aqc.eq_1 (aI @cw8.eq_1 (aI @ay4.eq_1 (aI @aqz.eq_1 (aI @bjr.eq_1 (aI @bw4.eq_1 @awe.eq_1)))))
 refine aj6 (Tryz.f41.body.getD .skip) h00 Tryz.func41 rfl Tryz.call41 (by decide) (by intro h;cases h) ?_
 rintro ⟨v,d,tracks⟩ r H
 try dsimp only at H
 unfold az0 at H
 simp only [Tryz.f41,jn]
 refine rA ?_
 refine jj fun K2 hK2=>?_
 obtain ⟨r1,hr1,H⟩:=bind_some H
 have q:=aI qe hr1
 refine rAq ?_
 refine rA ?_
 refine cnd H (fun h5 H=>?_) (fun h5 H=>?_)
 ·refine rA ?_
  refine jp ?_
  refine lf ?_
  obtain rfl:=Option.some.inj H
  exact rto [none]
 refine jo ?_
 refine hK2 _ ?_
 refine jj fun K7 hK7=>?_
 obtain ⟨r2,hr2,H⟩:=bind_some H
 obtain ⟨hg28,H⟩:=aj3 H
 have q:=aI qe hr2
 refine rAq ?_
 refine cnd H (fun h9 H=>?_) (fun h9 H=>?_)
 ·refine rA ?_
  refine jp ?_
  refine lf ?_
  obtain rfl:=Option.some.inj H
  exact rto [none]
 refine jo ?_
 refine hK7 _ ?_
 obtain ⟨r3,hr3,H⟩:=bind_some H
 have q:=aI qe hr3
 refine rAq ?_
 refine jj fun K12 hK12=>?_
 refine rA ?_
 refine cnd H (fun h14 H=>?_) (fun h14 H=>?_)
 ·refine rA ?_
  refine jp ?_
  refine lf ?_
  obtain rfl:=Option.some.inj H
  exact rto [none]
 refine jo ?_
 refine hK12 _ ?_
 refine jj fun K16 hK16=>?_
 refine rA ?_
 refine cnd H (fun h18 H=>?_) (fun h18 H=>?_)
 ·refine rA ?_
  refine jp ?_
  refine lf ?_
  obtain rfl:=Option.some.inj H
  exact rto [none]
 refine jo ?_
 refine hK16 _ ?_
 obtain ⟨r4,hr4,H⟩:=bind_some H
 obtain ⟨r5,hr5,H⟩:=bind_some H
 have q:=aI qe (aI hr4 hr5)
 refine rAq ?_
 refine jj fun K21 hK21=>?_
 refine rA ?_
 refine cnd H (fun h23 H=>?_) (fun h23 H=>?_)
 ·refine rA ?_
  refine jp ?_
  refine lf ?_
  obtain rfl:=Option.some.inj H
  exact rto [none]
 refine jo ?_
 refine hK21 _ ?_
 obtain ⟨r6,hr6,H⟩:=bind_some H
 have q:=aI qe hr6
 refine rAq ?_
 refine sX fun K26 hK26=>?_
 obtain ⟨r7,hr7,H⟩:=bind_some H
 have q:=hr7
 iterate 10 refine oX ?_
 refine oMq (dz8 n _ _ _ r7 hr7) [1072,1232] [1248] ?_
 iterate 2 refine oXq ?_
 refine hK26 _ ?_
 refine rA ?_
 refine jp ?_
 refine lf ?_
 obtain rfl:=Option.some.inj H
 exact rto [some 1248]
abbrev bkz:S:=stB [] []
def bj8 (n:Nat):Option Bool :=
 some true
abbrev by4 (a:List aj0) (b:List aj0) (k:Int):S:=stB [(0,.c (.slice 80) (.slice (List.map aj2 a))),(1,.c (.slice 80) (.slice (List.map aj2 b))),(5,.c (.int .i64) (.int k))] []
def bkr (n:Nat) (a:List aj0) (b:List aj0) (k:Int):Option ((Int) ⊕ (((Bool) ⊕ (Unit)))) :=
 bif (decide (k < (a.length:Int))) then
  gd ((0≤k∧k < (a.length:Int))∧(0≤k∧k < (b.length:Int))) <|
  bif (!((((gt a (Int.toNat k)).At) == ((gt b (Int.toNat k)).At)) && (((gt a (Int.toNat k)).Len) == ((gt b (Int.toNat k)).Len)))) then
   some (.inr (.inl false))
  else
   some (.inl (jc .i64 (k+1)))
 else
  some (.inr (.inr ()))
def azx (n:Nat) (a:List aj0) (b:List aj0):Option Bool :=
 bif ((a.length:Int) != (b.length:Int)) then
  some false
 else
  (aql (fun (x:Int)=>bkr n a b x) n 0).bind fun y8 =>
  match y8 with
  | .inl vv =>
   some vv
  | .inr vv =>
   bj8 n
def bz1 (n:Nat):Go.AE.Fn:=mkFn (A:=(List aj0)×(List aj0)) (R:=Bool) 49 [(false,[.slice 80]),(false,[.slice 80])] false (fun xs=>(((cg (xs.getD 0 []) 0).toSl.map aji),((cg (xs.getD 1 []) 0).toSl.map aji))) (fun a=>[[.slice (List.map aj2 a.1)],[.slice (List.map aj2 a.2)]]) (fun a=>azx n a.1 a.2) (fun r=>[.c .bool (.bool r)]) (fun r=>[])
theorem cwv (n:Nat):aj1 jd (bz1 n):=by
 have hΓ:=@g0 (aj1 jd)
 refine aj6 (Tryz.f49.body.getD .skip) h00 Tryz.func49 rfl Tryz.call49 (by decide) (by intro _ r;exact ⟨rfl,by simp⟩) ?_
 rintro ⟨a,b⟩ r H
 try dsimp only at H
 unfold azx at H
 simp only [Tryz.f49,jn]
 refine rA ?_
 refine jj fun K2 hK2=>?_
 refine rA ?_
 refine cnd H (fun h4 H=>?_) (fun h4 H=>?_)
 ·refine rA ?_
  refine jp ?_
  refine lf ?_
  obtain rfl:=Option.some.inj H
  exact rt []
 refine jo ?_
 refine hK2 _ ?_
 refine jS (fun (x:Unit)=>bkz) (fun x=>bj8 n=some r) ?_ ?_
 ·refine rA ?_
  refine jr ?_
  obtain ⟨y8,hy8,Ho8⟩:=bind_some H
  refine jL _ (fun x=>by4 a b x) hy8 (wb []) ?_
  rintro k z8 H
  try dsimp only at H
  unfold bkr at H
  refine Sm.st (by4.eq_1 ..) ?_
  refine jj fun K9 hK9=>?_
  refine rA ?_
  refine cnd H (fun h11 H=>?_) (fun h11 H=>?_)
  ·refine jo ?_
   refine hK9 _ ?_
   refine jj fun K12 hK12=>?_
   refine jr ?_
   obtain ⟨⟨hg16,hg17⟩,H⟩:=aj3 H
   refine rD ?_
   refine cnd H (fun h14 H=>?_) (fun h14 H=>?_)
   ·refine rA ?_
    refine jp ?_
    refine lf ?_
    refine lx H fun hyy=>?_
    subst hyy
    have H:=Ho8
    try dsimp only at H
    refine lf ?_
    obtain rfl:=Option.some.inj H
    exact rt []
   refine jo ?_
   refine hK12 _ ?_
   refine eA ?_
   refine lf ?_
   exact nx H (wb [])
  refine jR ?_
  refine lf ?_
  refine lx H fun hyy=>?_
  subst hyy
  have H:=Ho8
  try dsimp only at H
  refine lf ?_
  exact ⟨(),H,wb []⟩
 rintro ⟨⟩ H
 try dsimp only at H
 unfold bj8 at H
 refine Sm.st (bkz.eq_1 ..) ?_
 refine rA ?_
 refine jp ?_
 refine lf ?_
 obtain rfl:=Option.some.inj H
 exact rt []
def bqh (n:Nat):Option Bool :=
 (bzq n [86,49] 4 2 1).bind fun r1 =>
 (awk n).bind fun r2 =>
 (az0 n (⟨r1.1.Serial,r1.1.Cyls,r1.1.Heads,r1.1.Size,[]⟩:aj9) (⟨[65],r2,[],0⟩:aja) 3).bind fun r3 =>
 (awk n).bind fun r4 =>
 (az0 n r3.1 (⟨[66],r4,[],0⟩:aja) 2).bind fun r5 =>
 (bzi n r5.1).bind fun r6 =>
 gd (((if (if (if (r1.2 == 0)=true then (r3.2 == 0) else false)=true then (r5.2 == 0) else false)=true then (((r5.1.Sets.length:Nat):Int) == 2) else false)=true→0 < (r5.1.Sets.length:Int))∧((if (if (if (r1.2 == 0)=true then (r3.2 == 0) else false)=true then (r5.2 == 0) else false)=true then (((r5.1.Sets.length:Nat):Int) == 2) else false)=true→0 < r5.1.Sets.length)) <|
 bif (if (if (if (r1.2 == 0)=true then (r3.2 == 0) else false)=true then (r5.2 == 0) else false)=true then (((r5.1.Sets.length:Nat):Int) == 2) else false) then
  gd ((if (if (if (r1.2 == 0)=true then (r3.2 == 0) else false)=true then (r5.2 == 0) else false)=true then (((r5.1.Sets.length:Nat):Int) == 2) else false)=true∧(if (if (if (r1.2 == 0)=true then (r3.2 == 0) else false)=true then (r5.2 == 0) else false)=true then (((r5.1.Sets.length:Nat):Int) == 2) else false)=true) <|
  (azx n ((gt r5.1.Sets 0).Extents) [(⟨2,3⟩:aj0)]).bind fun r7 =>
  gd ((r7=true→1 < (r5.1.Sets.length:Int))∧(r7=true→1 < r5.1.Sets.length)) <|
  bif r7 then
   gd (r7=true∧r7=true) <|
   (azx n ((gt r5.1.Sets 1).Extents) [(⟨5,2⟩:aj0)]).bind fun r8 =>
   bif r8 then
    gd (r8=true∧r8=true) <|
    (azx n r6 [(⟨7,1⟩:aj0)]).bind fun r9 =>
    some r9
   else
    some false
  else
   some false
 else
  some false
def cjk (n:Nat):Go.AE.Fn:=mkFn (A:=Unit) (R:=Bool) 14 [] false (fun xs=>()) (fun a=>[]) (fun a=>bqh n) (fun r=>[.c .bool (.bool r)]) (fun r=>[])
theorem dwq (n:Nat):aj1 jd (cjk n):=by
 have hΓ:=g1 (dyc n) (g1 (cj2 n) (g1 (byd n) (g1 (bzb n) (g1 (cwv n) (@g0 (aj1 jd))))))
 have qe:=aI @cyh.eq_1 (aI @bqy.eq_1 (aI @bw0.eq_1 (aI @bjr.eq_1 @bz1.eq_1)))
 refine aj6 (Tryz.f14.body.getD .skip) h00 Tryz.func14 rfl Tryz.call14 (by decide) (by intro _ r;exact ⟨rfl,by simp⟩) ?_
 rintro ⟨⟩ r H
 try dsimp only at H
 unfold bqh at H
 simp only [Tryz.f14,jn]
 refine rA ?_
 obtain ⟨r1,hr1,H⟩:=bind_some H
 have q:=aI qe hr1
 refine rAq ?_
 obtain ⟨r2,hr2,H⟩:=bind_some H
 obtain ⟨r3,hr3,H⟩:=bind_some H
 refine sQ [0,1,2,3,4,5,6,7,8] [(none,[16],[]),(none,[],[207,206,205,204,203,202,201,200,199,198,197,196,195,194,193,192]),(none,[],[]),(none,[],[239,238,237,236,235,234,233,232,231,230,229,228,227,226,225,224]),(none,[],[]),(none,[],[]),(none,[],[]),(none,[16,224],[16]),(none,[],[])] fun K3 hK3=>?_
 have q:=aI qe (aI hr2 hr3)
 iterate 9 refine oQq ?_
 refine bjh ?_
 refine hK3 _ ?_
 obtain ⟨r4,hr4,H⟩:=bind_some H
 obtain ⟨r5,hr5,H⟩:=bind_some H
 refine sQ [0,1,2,3,4,5,6,7,8] [(none,[16],[]),(none,[],[319,318,317,316,315,314,313,312,311,310,309,308,307,306,305,304]),(none,[],[]),(none,[224],[351,350,349,348,347,346,345,344,343,342,341,340,339,338,337,336,224]),(none,[],[]),(none,[],[]),(none,[],[]),(none,[16,336],[16]),(none,[],[])] fun K4 hK4=>?_
 have q:=aI qe (aI hr4 hr5)
 iterate 9 refine oQq ?_
 refine bjh ?_
 refine hK4 _ ?_
 obtain ⟨r6,hr6,H⟩:=bind_some H
 have q:=aI qe hr6
 refine rAq ?_
 refine sX fun K6 hK6=>?_
 obtain ⟨⟨hg7,hg8⟩,H⟩:=aj3 H
 have q:=qe
 iterate 23 refine oXq ?_
 refine azn H (fun hs9 H=>?_) (fun hs9 H=>?_)
 ·try simp only [hs9,j9,Jg,jw,true_implies,false_implies,forall_const] at hg7
  try simp only [hs9,j9,Jg,jw,true_implies,false_implies,forall_const] at hg8
  obtain ⟨⟨hg10,hg11⟩,H⟩:=aj3 H
  obtain ⟨r7,hr7,H⟩:=bind_some H
  obtain ⟨⟨hg12,hg13⟩,H⟩:=aj3 H
  have q:=aI qe (aI hs9 hr7)
  refine oTG ?_
  refine oTG ?_
  refine oPl ?_
  iterate 7 refine oXq ?_
  refine azn H (fun hs14 H=>?_) (fun hs14 H=>?_)
  ·try simp only [z,seval,hs9,hr7] at hs14
   try simp only [hs14,j9,Jg,jw,true_implies,false_implies,forall_const] at hg12
   try simp only [hs14,j9,Jg,jw,true_implies,false_implies,forall_const] at hg13
   obtain ⟨⟨hg15,hg16⟩,H⟩:=aj3 H
   obtain ⟨r8,hr8,H⟩:=bind_some H
   have q:=aI qe (aI hs9 (aI hr7 (aI hs14 hr8)))
   refine oTG ?_
   refine oTG ?_
   refine oPl ?_
   iterate 3 refine oXq ?_
   refine azn H (fun hs17 H=>?_) (fun hs17 H=>?_)
   ·try simp only [z,seval,hs9,hr7,hs14,hr8] at hs17
    obtain ⟨⟨hg18,hg19⟩,H⟩:=aj3 H
    obtain ⟨r9,hr9,H⟩:=bind_some H
    have q:=aI qe (aI hs9 (aI hr7 (aI hs14 (aI hr8 (aI hs17 hr9)))))
    refine oTG ?_
    refine oTG ?_
    refine oPl ?_
    refine oXq ?_
    refine hK6 _ ?_
    refine jp ?_
    refine lf ?_
    obtain rfl:=Option.some.inj H
    exact rt []
   try simp only [z,seval,hs9,hr7,hs14,hr8] at hs17
   have q:=aI qe (aI hs9 (aI hr7 (aI hs14 (aI hr8 hs17))))
   refine oFq ?_
   refine oFq ?_
   refine oPr ?_
   refine oXq ?_
   refine hK6 _ ?_
   refine jp ?_
   refine lf ?_
   obtain rfl:=Option.some.inj H
   exact rt []
  try simp only [z,seval,hs9,hr7] at hs14
  try simp only [hs14,j9,Jg,jw,true_implies,false_implies,forall_const] at hg12
  try simp only [hs14,j9,Jg,jw,true_implies,false_implies,forall_const] at hg13
  have q:=aI qe (aI hs9 (aI hr7 hs14))
  refine oFq ?_
  refine oFq ?_
  refine oPr ?_
  refine oXq ?_
  refine oFq ?_
  refine oFq ?_
  refine oFq ?_
  refine oFq ?_
  refine oPr ?_
  refine oXq ?_
  refine hK6 _ ?_
  refine jp ?_
  refine lf ?_
  obtain rfl:=Option.some.inj H
  exact rt []
 try simp only [hs9,j9,Jg,jw,true_implies,false_implies,forall_const] at hg7
 try simp only [hs9,j9,Jg,jw,true_implies,false_implies,forall_const] at hg8
 have q:=aI qe hs9
 refine oFq ?_
 refine oFq ?_
 refine oPr ?_
 refine oXq ?_
 refine oFq ?_
 refine oFq ?_
 refine oFq ?_
 refine oFq ?_
 refine oFq ?_
 refine oFq ?_
 refine oFq ?_
 refine oFq ?_
 refine oPr ?_
 refine oXq ?_
 refine oFq ?_
 refine oFq ?_
 refine oFq ?_
 refine oFq ?_
 refine oPr ?_
 refine oXq ?_
 refine hK6 _ ?_
 refine jp ?_
 refine lf ?_
 obtain rfl:=Option.some.inj H
 exact rt []
abbrev czg (v:aj9):S:=stB [(1,.box 9000 0)] [(9000,.box [.c .str (.str v.Serial),.c (.int .i64) (.int v.Cyls),.c (.int .i64) (.int v.Heads),.c (.int .i64) (.int v.Size),.c (.slice 41) (.slice (List.map aj4 v.Sets))])]
def bwi (n:Nat) (v:aj9):Option Bool :=
 some (if (decide ((v.Sets.length:Int)≤70))=true then (decide ((v.Serial.length:Int)≤100)) else false)
abbrev czi (v:aj9) (k:Int):S:=stB [(1,.box 9002 0),(3,.c (.int .i64) (.int k))] [(9002,.box [.c .str (.str v.Serial),.c (.int .i64) (.int v.Cyls),.c (.int .i64) (.int v.Heads),.c (.int .i64) (.int v.Size),.c (.slice 41) (.slice (List.map aj4 v.Sets))])]
def cz4 (n:Nat) (v:aj9) (k:Int):Option ((Int) ⊕ (((Bool) ⊕ (Unit)))) :=
 bif (decide (k < (v.Sets.length:Int))) then
  gd ((0≤k∧k < (v.Sets.length:Int))∧((!(decide ((((gt v.Sets (Int.toNat k)).Name).length:Int) > 100)))=true→(0≤k∧k < (v.Sets.length:Int)))) <|
  bif (if (decide ((((gt v.Sets (Int.toNat k)).Name).length:Int) > 100))=true then true else (decide ((((gt v.Sets (Int.toNat k)).Extents).length:Int) > 20))) then
   some (.inr (.inl false))
  else
   some (.inl (jc .i64 (k+1)))
 else
  some (.inr (.inr ()))
def ckp (n:Nat) (v:aj9):Option Bool :=
 (aql (fun (x:Int)=>cz4 n v x) n 0).bind fun y4 =>
 match y4 with
 | .inl vv =>
  some vv
 | .inr vv =>
  bwi n v
def dwo (n:Nat):Go.AE.Fn:=mkFn (A:=aj9) (R:=Bool) 21 [(true,[.str,.int .i64,.int .i64,.int .i64,.slice 41])] false (fun xs=>(⟨(cg (xs.getD 0 []) 0).toStr,(cg (xs.getD 0 []) 1).toInt,(cg (xs.getD 0 []) 2).toInt,(cg (xs.getD 0 []) 3).toInt,((cg (xs.getD 0 []) 4).toSl.map aqi)⟩:aj9)) (fun a=>[[.str a.Serial,.int a.Cyls,.int a.Heads,.int a.Size,.slice (List.map aj4 a.Sets)]]) (fun a=>ckp n a) (fun r=>[.c .bool (.bool r)]) (fun r=>[])
theorem ezr (n:Nat):aj1 jd (dwo n):=by
 have hΓ:=@g0 (aj1 jd)
 refine aj6 (Tryz.f21.body.getD .skip) h00 Tryz.func21 rfl Tryz.call21 (by decide) (by intro _ r;exact ⟨rfl,by simp⟩) ?_
 rintro v r H
 try dsimp only at H
 unfold ckp at H
 simp only [Tryz.f21,jn]
 refine rA ?_
 refine jS (fun (x:Unit)=>czg v) (fun x=>bwi n v=some r) ?_ ?_
 ·refine rA ?_
  refine jr ?_
  obtain ⟨y4,hy4,Ho4⟩:=bind_some H
  refine jL _ (fun x=>czi v x) hy4 (wb [some 16]) ?_
  rintro k z4 H
  try dsimp only at H
  unfold cz4 at H
  refine Sm.st (czi.eq_1 ..) ?_
  refine jj fun K5 hK5=>?_
  refine rA ?_
  refine cnd H (fun h7 H=>?_) (fun h7 H=>?_)
  ·refine jo ?_
   refine hK5 _ ?_
   refine jj fun K8 hK8=>?_
   refine jr ?_
   obtain ⟨⟨hg12,hg13⟩,H⟩:=aj3 H
   refine rA ?_
   refine cnd H (fun h10 H=>?_) (fun h10 H=>?_)
   ·refine rA ?_
    refine jp ?_
    refine lf ?_
    refine lx H fun hyy=>?_
    subst hyy
    have H:=Ho4
    try dsimp only at H
    refine lf ?_
    obtain rfl:=Option.some.inj H
    exact rt []
   refine jo ?_
   refine hK8 _ ?_
   refine eA ?_
   refine lf ?_
   exact nx H (wb [some 9002])
  refine jR ?_
  refine lf ?_
  refine lx H fun hyy=>?_
  subst hyy
  have H:=Ho4
  try dsimp only at H
  refine lf ?_
  exact ⟨(),H,wb [some 9002]⟩
 rintro ⟨⟩ H
 try dsimp only at H
 unfold bwi at H
 refine Sm.st (czg.eq_1 ..) ?_
 refine rA ?_
 refine jp ?_
 refine lf ?_
 obtain rfl:=Option.some.inj H
 exact rt []
abbrev dw0 (v:aj9) (w:List aja):S:=stB [(2,.box 9000 0),(3,.box 9001 0)] [(9000,.box [.c .str (.str []),.c (.int .i64) (.int 0),.c (.int .i64) (.int 0),.c (.int .i64) (.int 0),.nilsl]),(9001,.box [.c .str (.str v.Serial),.c (.int .i64) (.int v.Cyls),.c (.int .i64) (.int v.Heads),.c (.int .i64) (.int v.Size),.own 9002 [.str,.int .i64,.int .i64,.bool,.bool,.int .i64,.int .i64,.int .i64,.int .i64,.slice 80,.int .i64] 0 w.length]),(9002,.row 41 (List.map aj4 w))]
def cq6 (n:Nat) (v:aj9) (w:List aja):Option aj9 :=
 some (⟨v.Serial,v.Cyls,v.Heads,v.Size,w⟩:aj9)
abbrev dz3 (v:aj9) (w_1:List aja) (k:Int):S:=stB [(1,.box 9010 0),(2,.box 9011 0),(3,.box 9012 0),(4,.c (.int .i64) (.int k))] [(9010,.box [.c .str (.str v.Serial),.c (.int .i64) (.int v.Cyls),.c (.int .i64) (.int v.Heads),.c (.int .i64) (.int v.Size),.c (.slice 41) (.slice (List.map aj4 v.Sets))]),(9011,.box [.c .str (.str []),.c (.int .i64) (.int 0),.c (.int .i64) (.int 0),.c (.int .i64) (.int 0),.nilsl]),(9012,.box [.c .str (.str v.Serial),.c (.int .i64) (.int v.Cyls),.c (.int .i64) (.int v.Heads),.c (.int .i64) (.int v.Size),.own 9013 [.str,.int .i64,.int .i64,.bool,.bool,.int .i64,.int .i64,.int .i64,.int .i64,.slice 80,.int .i64] 0 w_1.length]),(9013,.row 41 (List.map aj4 w_1))]
def dwf (n:Nat) (v:aj9) (w_1:List aja) (k:Int):Option (((List aja)×Int) ⊕ (((List aja)))) :=
 bif (decide (k < (v.Sets.length:Int))) then
  gd ((0≤k∧k < (v.Sets.length:Int))) <|
  gd (((gt v.Sets (Int.toNat k)).Extents).length≤2147483648) <|
  gd ((w_1.length+1)≤2147483648) <|
  some (.inl ((w_1 ++ [(gt v.Sets (Int.toNat k))]),(jc .i64 (k+1))))
 else
  some (.inr w_1)
def djh (n:Nat) (v:aj9):Option aj9 :=
 (aql (fun (x:(List aja)×Int)=>dwf n v x.1 x.2) n ([],0)).bind fun y5 =>
 cq6 n v y5
def eje (n:Nat):Go.AE.Fn:=mkFn (A:=aj9) (R:=aj9) 20 [(true,[.str,.int .i64,.int .i64,.int .i64,.slice 41])] true (fun xs=>(⟨(cg (xs.getD 0 []) 0).toStr,(cg (xs.getD 0 []) 1).toInt,(cg (xs.getD 0 []) 2).toInt,(cg (xs.getD 0 []) 3).toInt,((cg (xs.getD 0 []) 4).toSl.map aqi)⟩:aj9)) (fun a=>[[.str a.Serial,.int a.Cyls,.int a.Heads,.int a.Size,.slice (List.map aj4 a.Sets)]]) (fun a=>djh n a) (fun r=>[.agg [.c .str (.str r.Serial),.c (.int .i64) (.int r.Cyls),.c (.int .i64) (.int r.Heads),.c (.int .i64) (.int r.Size),.own 0 [.str,.int .i64,.int .i64,.bool,.bool,.int .i64,.int .i64,.int .i64,.int .i64,.slice 80,.int .i64] 0 r.Sets.length]]) (fun r=>[.row 41 (List.map aj4 r.Sets)])
theorem fwj (n:Nat):aj1 jd (eje n):=by
 have hΓ:=@g0 (aj1 jd)
 refine aj6 (Tryz.f20.body.getD .skip) h00 Tryz.func20 rfl Tryz.call20 (by decide) (by intro h;cases h) ?_
 rintro v r H
 try dsimp only at H
 unfold djh at H
 simp only [Tryz.f20,jn]
 refine rA ?_
 refine rA ?_
 refine jS (fun (x:(List aja))=>dw0 v x) (fun x=>cq6 n v x=some r) ?_ ?_
 ·refine rA ?_
  refine jr ?_
  obtain ⟨y5,hy5,Ho5⟩:=bind_some H
  refine jL _ (fun x=>dz3 v x.1 x.2) hy5 (wb [some 16,some 32,some 48,none]) ?_
  rintro ⟨w_1,k⟩ z5 H
  try dsimp only at H
  unfold dwf at H
  refine Sm.st (dz3.eq_1 ..) ?_
  refine jj fun K6 hK6=>?_
  refine rA ?_
  refine cnd H (fun h8 H=>?_) (fun h8 H=>?_)
  ·refine jo ?_
   refine hK6 _ ?_
   refine jj fun K9 hK9=>?_
   refine jr ?_
   obtain ⟨hg14,H⟩:=aj3 H
   refine rA ?_
   obtain ⟨hg13,H⟩:=aj3 H
   refine rA ?_
   obtain ⟨hg12,H⟩:=aj3 H
   refine eA ?_
   refine hK9 _ ?_
   refine eA ?_
   refine lf ?_
   exact nx H (wb [some 9010,some 9011,some 9012,some 576])
  refine jR ?_
  refine lf ?_
  refine lx H fun hyy=>?_
  subst hyy
  have H:=Ho5
  try dsimp only at H
  refine lf ?_
  exact ⟨_,H,wb [some 9011,some 9012,some 9013]⟩
 rintro w H
 try dsimp only at H
 unfold cq6 at H
 refine Sm.st (dw0.eq_1 ..) ?_
 refine rA ?_
 refine jp ?_
 refine lf ?_
 obtain rfl:=Option.some.inj H
 exact rto [some 9002]
def bw8 (n:Nat) (c:Int):Option Bool :=
 some (if (decide (c ≥ 65))=true then (decide (c≤90)) else false)
def bkh (n:Nat):Go.AE.Fn:=mkFn (A:=Int) (R:=Bool) 114 [(false,[.int .u8])] false (fun xs=>(cg (xs.getD 0 []) 0).toInt) (fun a=>[[.int a]]) (fun a=>bw8 n a) (fun r=>[.c .bool (.bool r)]) (fun r=>[])
theorem cy5 (n:Nat):aj1 jd (bkh n):=by
 have hΓ:=@g0 (aj1 jd)
 refine aj6 (Tryz.f114.body.getD .skip) h00 Tryz.func114 rfl Tryz.call114 (by decide) (by intro _ r;exact ⟨rfl,by simp⟩) ?_
 rintro c r H
 try dsimp only at H
 unfold bw8 at H
 simp only [Tryz.f114,jn]
 refine rA ?_
 refine rA ?_
 refine jp ?_
 refine lf ?_
 obtain rfl:=Option.some.inj H
 exact rt []
def ayj (n:Nat) (c:Int):Option Bool :=
 some (if (decide (c ≥ 48))=true then (decide (c≤57)) else false)
def byy (n:Nat):Go.AE.Fn:=mkFn (A:=Int) (R:=Bool) 115 [(false,[.int .u8])] false (fun xs=>(cg (xs.getD 0 []) 0).toInt) (fun a=>[[.int a]]) (fun a=>ayj n a) (fun r=>[.c .bool (.bool r)]) (fun r=>[])
theorem dw7 (n:Nat):aj1 jd (byy n):=by
 have hΓ:=@g0 (aj1 jd)
 refine aj6 (Tryz.f115.body.getD .skip) h00 Tryz.func115 rfl Tryz.call115 (by decide) (by intro _ r;exact ⟨rfl,by simp⟩) ?_
 rintro c r H
 try dsimp only at H
 unfold ayj at H
 simp only [Tryz.f115,jn]
 refine rA ?_
 refine rA ?_
 refine jp ?_
 refine lf ?_
 obtain rfl:=Option.some.inj H
 exact rt []
def ajj (n:Nat) (n_:Int) (lo:Int) (hi:Int):Option Bool :=
 some (if (decide (n_ ≥ lo))=true then (decide (n_≤hi)) else false)
def byp (n:Nat):Go.AE.Fn:=mkFn (A:=Int×Int×Int) (R:=Bool) 71 [(false,[.int .i64]),(false,[.int .i64]),(false,[.int .i64])] false (fun xs=>((cg (xs.getD 0 []) 0).toInt,(cg (xs.getD 1 []) 0).toInt,(cg (xs.getD 2 []) 0).toInt)) (fun a=>[[.int a.1],[.int a.2.1],[.int a.2.2]]) (fun a=>ajj n a.1 a.2.1 a.2.2) (fun r=>[.c .bool (.bool r)]) (fun r=>[])
theorem cyf (n:Nat):aj1 jd (byp n):=by
 have hΓ:=@g0 (aj1 jd)
 refine aj6 (Tryz.f71.body.getD .skip) h00 Tryz.func71 rfl Tryz.call71 (by decide) (by intro _ r;exact ⟨rfl,by simp⟩) ?_
 rintro ⟨n_,lo,hi⟩ r H
 try dsimp only at H
 unfold ajj at H
 simp only [Tryz.f71,jn]
 refine rA ?_
 refine rA ?_
 refine jp ?_
 refine lf ?_
 obtain rfl:=Option.some.inj H
 exact rt []
abbrev cj8 (s:List UInt8):S:=stB [(0,.c .str (.str s))] []
def bqg (n:Nat) (s:List UInt8):Option Bool :=
 (ajj n (s.length:Int) 1 6).bind fun r1 =>
 some r1
abbrev cq3 (s:List UInt8) (i:Int):S:=stB [(0,.c .str (.str s)),(3,.c (.int .i64) (.int i))] []
def cqa (n:Nat) (s:List UInt8) (i:Int):Option ((Int) ⊕ (((Bool) ⊕ (Unit)))) :=
 bif (decide (i < (s.length:Int))) then
  gd ((0≤i∧i < (s.length:Int))) <|
  (bw8 n (((s.getD (Int.toNat i) 0).toNat:Nat):Int)).bind fun r2 =>
  gd (((!r2)=true→(0≤i∧i < (s.length:Int)))∧((!r2)=true→(ayj n (((s.getD (Int.toNat i) 0).toNat:Nat):Int)).isSome=true)) <|
  bif (if (!r2)=true then (!((ayj n (((s.getD (Int.toNat i) 0).toNat:Nat):Int)).getD default)) else false) then
   some (.inr (.inl false))
  else
   some (.inl (jc .i64 (i+1)))
 else
  some (.inr (.inr ()))
def cjw (n:Nat) (s:List UInt8):Option Bool :=
 (aql (fun (x:Int)=>cqa n s x) n 0).bind fun y4 =>
 match y4 with
 | .inl vv =>
  some vv
 | .inr vv =>
  bqg n s
def cyw (n:Nat):Go.AE.Fn:=mkFn (A:=(List UInt8)) (R:=Bool) 70 [(false,[.str])] false (fun xs=>(cg (xs.getD 0 []) 0).toStr) (fun a=>[[.str a]]) (fun a=>cjw n a) (fun r=>[.c .bool (.bool r)]) (fun r=>[])
theorem ew3 (n:Nat):aj1 jd (cyw n):=by
 have hΓ:=g1 (cy5 n) (g1 (dw7 n) (g1 (cyf n) (@g0 (aj1 jd))))
 have qe:=aI @bkh.eq_1 (aI @byy.eq_1 @byp.eq_1)
 refine aj6 (Tryz.f70.body.getD .skip) h00 Tryz.func70 rfl Tryz.call70 (by decide) (by intro _ r;exact ⟨rfl,by simp⟩) ?_
 rintro s r H
 try dsimp only at H
 unfold cjw at H
 simp only [Tryz.f70,jn]
 refine rA ?_
 refine jS (fun (x:Unit)=>cj8 s) (fun x=>bqg n s=some r) ?_ ?_
 ·refine rA ?_
  refine jr ?_
  obtain ⟨y4,hy4,Ho4⟩:=bind_some H
  refine jL _ (fun x=>cq3 s x) hy4 (wb []) ?_
  rintro i z4 H
  try dsimp only at H
  unfold cqa at H
  refine Sm.st (cq3.eq_1 ..) ?_
  refine jj fun K5 hK5=>?_
  refine rA ?_
  refine cnd H (fun h7 H=>?_) (fun h7 H=>?_)
  ·refine jo ?_
   refine hK5 _ ?_
   refine jj fun K8 hK8=>?_
   refine jr ?_
   obtain ⟨hg12,H⟩:=aj3 H
   obtain ⟨r2,hr2,H⟩:=bind_some H
   obtain ⟨⟨hg13,hg14⟩,H⟩:=aj3 H
   have q:=aI qe hr2
   refine rAq ?_
   refine cnd H (fun h10 H=>?_) (fun h10 H=>?_)
   ·refine rA ?_
    refine jp ?_
    refine lf ?_
    refine lx H fun hyy=>?_
    subst hyy
    have H:=Ho4
    try dsimp only at H
    refine lf ?_
    obtain rfl:=Option.some.inj H
    exact rt []
   refine jo ?_
   refine hK8 _ ?_
   refine eA ?_
   refine lf ?_
   exact nx H (wb [])
  refine jR ?_
  refine lf ?_
  refine lx H fun hyy=>?_
  subst hyy
  have H:=Ho4
  try dsimp only at H
  refine lf ?_
  exact ⟨(),H,wb []⟩
 rintro ⟨⟩ H
 try dsimp only at H
 unfold bqg at H
 refine Sm.st (cj8.eq_1 ..) ?_
 obtain ⟨r1,hr1,H⟩:=bind_some H
 have q:=aI qe hr1
 refine rAq ?_
 refine jp ?_
 refine lf ?_
 obtain rfl:=Option.some.inj H
 exact rt []
abbrev cqx (s:List UInt8):S:=stB [(0,.c .str (.str s))] []
def bjy (n:Nat) (s:List UInt8):Option Bool :=
 some (if (decide ((s.length:Int) ≥ 1))=true then (decide ((s.length:Int)≤8)) else false)
abbrev byr (s:List UInt8) (i:Int):S:=stB [(0,.c .str (.str s)),(3,.c (.int .i64) (.int i))] []
def cjc (n:Nat) (s:List UInt8) (i:Int):Option ((Int) ⊕ (((Bool) ⊕ (Unit)))) :=
 bif (decide (i < (s.length:Int))) then
  gd ((0≤i∧i < (s.length:Int))∧((!((((s.getD (Int.toNat i) 0).toNat:Nat):Int) == 64))=true→(0≤i∧i < (s.length:Int)))∧((!(if ((((s.getD (Int.toNat i) 0).toNat:Nat):Int) == 64)=true then true else ((((s.getD (Int.toNat i) 0).toNat:Nat):Int) == 35)))=true→(0≤i∧i < (s.length:Int)))) <|
  gd ((0≤i∧i < (s.length:Int))) <|
  (bw8 n (((s.getD (Int.toNat i) 0).toNat:Nat):Int)).bind fun r1 =>
  gd ((((if (!r1)=true then (!(if (if ((((s.getD (Int.toNat i) 0).toNat:Nat):Int) == 64)=true then true else ((((s.getD (Int.toNat i) 0).toNat:Nat):Int) == 35))=true then true else ((((s.getD (Int.toNat i) 0).toNat:Nat):Int) == 36))) else false) && (!(i == 0)))=true→(0≤i∧i < (s.length:Int)))∧(((if (!r1)=true then (!(if (if ((((s.getD (Int.toNat i) 0).toNat:Nat):Int) == 64)=true then true else ((((s.getD (Int.toNat i) 0).toNat:Nat):Int) == 35))=true then true else ((((s.getD (Int.toNat i) 0).toNat:Nat):Int) == 36))) else false) && (!(i == 0)))=true→(ayj n (((s.getD (Int.toNat i) 0).toNat:Nat):Int)).isSome=true)∧(((if (!r1)=true then (!(if (if ((((s.getD (Int.toNat i) 0).toNat:Nat):Int) == 64)=true then true else ((((s.getD (Int.toNat i) 0).toNat:Nat):Int) == 35))=true then true else ((((s.getD (Int.toNat i) 0).toNat:Nat):Int) == 36))) else false) && !(i == 0))=true→((if (!r1)=true then (!(if (if ((((s.getD (Int.toNat i) 0).toNat:Nat):Int) == 64)=true then true else ((((s.getD (Int.toNat i) 0).toNat:Nat):Int) == 35))=true then true else ((((s.getD (Int.toNat i) 0).toNat:Nat):Int) == 36))) else false) && (!(i == 0)))=true)) <|
  bif (if (if (!r1)=true then (!(if (if ((((s.getD (Int.toNat i) 0).toNat:Nat):Int) == 64)=true then true else ((((s.getD (Int.toNat i) 0).toNat:Nat):Int) == 35))=true then true else ((((s.getD (Int.toNat i) 0).toNat:Nat):Int) == 36))) else false)=true then (if (i == 0)=true then true else (!((ayj n (((s.getD (Int.toNat i) 0).toNat:Nat):Int)).getD default))) else false) then
   some (.inr (.inl false))
  else
   some (.inl (jc .i64 (i+1)))
 else
  some (.inr (.inr ()))
def cqs (n:Nat) (s:List UInt8):Option Bool :=
 (aql (fun (x:Int)=>cjc n s x) n 0).bind fun y4 =>
 match y4 with
 | .inl vv =>
  some vv
 | .inr vv =>
  bjy n s
def djk (n:Nat):Go.AE.Fn:=mkFn (A:=(List UInt8)) (R:=Bool) 55 [(false,[.str])] false (fun xs=>(cg (xs.getD 0 []) 0).toStr) (fun a=>[[.str a]]) (fun a=>cqs n a) (fun r=>[.c .bool (.bool r)]) (fun r=>[])
theorem ew9 (n:Nat):aj1 jd (djk n):=by
 have hΓ:=g1 (cy5 n) (g1 (dw7 n) (@g0 (aj1 jd)))
 refine aj6 (Tryz.f55.body.getD .skip) h00 Tryz.func55 rfl Tryz.call55 (by decide) (by intro _ r;exact ⟨rfl,by simp⟩) ?_
 rintro s r H
 try dsimp only at H
 unfold cqs at H
 simp only [Tryz.f55,jn]
 refine rA ?_
 refine jS (fun (x:Unit)=>cqx s) (fun x=>bjy n s=some r) ?_ ?_
 ·refine rA ?_
  refine jr ?_
  obtain ⟨y4,hy4,Ho4⟩:=bind_some H
  refine jL _ (fun x=>byr s x) hy4 (wb []) ?_
  rintro i z4 H
  try dsimp only at H
  unfold cjc at H
  refine Sm.st (byr.eq_1 ..) ?_
  refine jj fun K5 hK5=>?_
  refine rA ?_
  refine cnd H (fun h7 H=>?_) (fun h7 H=>?_)
  ·refine jo ?_
   refine hK5 _ ?_
   refine jj fun K8 hK8=>?_
   refine jr ?_
   obtain ⟨⟨hg17,hg18,hg19⟩,H⟩:=aj3 H
   refine rA ?_
   obtain ⟨hg13,H⟩:=aj3 H
   obtain ⟨r1,hr1,H⟩:=bind_some H
   obtain ⟨⟨hg14,hg15,hg16⟩,H⟩:=aj3 H
   have q:=aI @bkh.eq_1 (aI @byy.eq_1 hr1)
   refine rAq ?_
   refine cnd H (fun h11 H=>?_) (fun h11 H=>?_)
   ·refine rA ?_
    refine jp ?_
    refine lf ?_
    refine lx H fun hyy=>?_
    subst hyy
    have H:=Ho4
    try dsimp only at H
    refine lf ?_
    obtain rfl:=Option.some.inj H
    exact rt []
   refine jo ?_
   refine hK8 _ ?_
   refine eA ?_
   refine lf ?_
   exact nx H (wb [])
  refine jR ?_
  refine lf ?_
  refine lx H fun hyy=>?_
  subst hyy
  have H:=Ho4
  try dsimp only at H
  refine lf ?_
  exact ⟨(),H,wb []⟩
 rintro ⟨⟩ H
 try dsimp only at H
 unfold bjy at H
 refine Sm.st (cqx.eq_1 ..) ?_
 refine rA ?_
 refine jp ?_
 refine lf ?_
 obtain rfl:=Option.some.inj H
 exact rt []
abbrev ckz (s:List UInt8):S:=stB [(0,.c .str (.str s))] []
def bzu (n:Nat) (s:List UInt8):Option Bool :=
 some (decide ((s.length:Int)≤44))
abbrev cyz (s:List UInt8) (from__1:Int) (i:Int):S:=stB [(0,.c .str (.str s)),(3,.c (.int .i64) (.int from__1)),(4,.c (.int .i64) (.int i))] []
def bjj (n:Nat) (s:List UInt8) (from__1:Int) (i:Int):Option ((Int×Int) ⊕ (((Bool) ⊕ (Unit)))) :=
 some (.inl (from__1,(jc .i64 (i+1))))
abbrev dj8 (s:List UInt8) (from_:Int) (i:Int):S:=stB [(0,.c .str (.str s)),(3,.c (.int .i64) (.int from_)),(4,.c (.int .i64) (.int i))] []
def cyq (n:Nat) (s:List UInt8) (from_:Int) (i:Int):Option ((Int×Int) ⊕ (((Bool) ⊕ (Unit)))) :=
 bif (decide (i≤(s.length:Int))) then
  gd (((!(i == (s.length:Int)))=true→(0≤i∧i < (s.length:Int)))) <|
  bif (if (i == (s.length:Int))=true then true else ((((s.getD (Int.toNat i) 0).toNat:Nat):Int) == 46)) then
   gd ((0≤from_∧from_≤i∧i≤(s.length:Int))) <|
   (cqs n (List.drop (Int.toNat from_) (List.take (Int.toNat i) s))).bind fun r1 =>
   bif (!r1) then
    some (.inr (.inl false))
   else
    bjj n s (jc .i64 (i+1)) i
  else
   bjj n s from_ i
 else
  some (.inr (.inr ()))
def dqv (n:Nat) (s:List UInt8):Option Bool :=
 (aql (fun (x:Int×Int)=>cyq n s x.1 x.2) n (0,0)).bind fun y5 =>
 match y5 with
 | .inl vv =>
  some vv
 | .inr vv =>
  bzu n s
def dkj (n:Nat):Go.AE.Fn:=mkFn (A:=(List UInt8)) (R:=Bool) 18 [(false,[.str])] false (fun xs=>(cg (xs.getD 0 []) 0).toStr) (fun a=>[[.str a]]) (fun a=>dqv n a) (fun r=>[.c .bool (.bool r)]) (fun r=>[])
theorem fj3 (n:Nat):aj1 jd (dkj n):=by
 have hΓ:=g1 (ew9 n) (@g0 (aj1 jd))
 refine aj6 (Tryz.f18.body.getD .skip) h00 Tryz.func18 rfl Tryz.call18 (by decide) (by intro _ r;exact ⟨rfl,by simp⟩) ?_
 rintro s r H
 try dsimp only at H
 unfold dqv at H
 simp only [Tryz.f18,jn]
 refine rA ?_
 refine rA ?_
 refine jS (fun (x:Unit)=>ckz s) (fun x=>bzu n s=some r) ?_ ?_
 ·refine rA ?_
  refine jr ?_
  obtain ⟨y5,hy5,Ho5⟩:=bind_some H
  refine jL _ (fun x=>dj8 s x.1 x.2) hy5 (wb []) ?_
  rintro ⟨from_,i⟩ z5 H
  try dsimp only at H
  unfold cyq at H
  refine Sm.st (dj8.eq_1 ..) ?_
  refine jj fun K6 hK6=>?_
  refine rA ?_
  refine cnd H (fun h8 H=>?_) (fun h8 H=>?_)
  ·refine jo ?_
   refine hK6 _ ?_
   refine jS (fun (x:Int)=>cyz s x i) (fun x=>bjj n s x i=some z5) ?_ ?_
   ·refine jr ?_
    obtain ⟨hg16,H⟩:=aj3 H
    refine rA ?_
    refine cnd H (fun h10 H=>?_) (fun h10 H=>?_)
    ·refine jj fun K11 hK11=>?_
     obtain ⟨hg15,H⟩:=aj3 H
     obtain ⟨r1,hr1,H⟩:=bind_some H
     have q:=aI @djk.eq_1 hr1
     refine rAq ?_
     refine cnd H (fun h13 H=>?_) (fun h13 H=>?_)
     ·refine rA ?_
      refine jp ?_
      refine lf ?_
      refine lx H fun hyy=>?_
      subst hyy
      have H:=Ho5
      try dsimp only at H
      refine lf ?_
      obtain rfl:=Option.some.inj H
      exact rt []
     refine jo ?_
     refine hK11 _ ?_
     refine eA ?_
     refine lf ?_
     exact ⟨_,H,wb []⟩
    refine jo ?_
    refine lf ?_
    exact ⟨_,H,wb []⟩
   rintro from__1 H
   try dsimp only at H
   unfold bjj at H
   refine Sm.st (cyz.eq_1 ..) ?_
   refine eA ?_
   refine lf ?_
   exact nx H (wb [])
  refine jR ?_
  refine lf ?_
  refine lx H fun hyy=>?_
  subst hyy
  have H:=Ho5
  try dsimp only at H
  refine lf ?_
  exact ⟨(),H,wb []⟩
 rintro ⟨⟩ H
 try dsimp only at H
 unfold bzu at H
 refine Sm.st (ckz.eq_1 ..) ?_
 refine rA ?_
 refine jp ?_
 refine lf ?_
 obtain rfl:=Option.some.inj H
 exact rt []
def aqk (n:Nat) (d:TDcb):Option Bool :=
 (ajj n d.Org 1 3).bind fun r1 =>
 gd ((r1=true→(ajj n d.Format 1 3).isSome=true)∧((if r1=true then ((ajj n d.Format 1 3).getD default) else false)=true→(ajj n d.Lrecl 0 1024).isSome=true)∧((if (if r1=true then ((ajj n d.Format 1 3).getD default) else false)=true then ((ajj n d.Lrecl 0 1024).getD default) else false)=true→(ajj n d.Blksize 0 1024).isSome=true)∧((if (if (if r1=true then ((ajj n d.Format 1 3).getD default) else false)=true then ((ajj n d.Lrecl 0 1024).getD default) else false)=true then ((ajj n d.Blksize 0 1024).getD default) else false)=true→(ajj n d.KeyPos 0 1024).isSome=true)∧((if (if (if (if r1=true then ((ajj n d.Format 1 3).getD default) else false)=true then ((ajj n d.Lrecl 0 1024).getD default) else false)=true then ((ajj n d.Blksize 0 1024).getD default) else false)=true then ((ajj n d.KeyPos 0 1024).getD default) else false)=true→(ajj n d.KeyLen 0 64).isSome=true)) <|
 some (if (if (if (if (if r1=true then ((ajj n d.Format 1 3).getD default) else false)=true then ((ajj n d.Lrecl 0 1024).getD default) else false)=true then ((ajj n d.Blksize 0 1024).getD default) else false)=true then ((ajj n d.KeyPos 0 1024).getD default) else false)=true then ((ajj n d.KeyLen 0 64).getD default) else false)
def by0 (n:Nat):Go.AE.Fn:=mkFn (A:=TDcb) (R:=Bool) 127 [(true,[.int .i64,.int .i64,.bool,.bool,.int .i64,.int .i64,.int .i64,.int .i64])] false (fun xs=>(⟨(cg (xs.getD 0 []) 0).toInt,(cg (xs.getD 0 []) 1).toInt,(cg (xs.getD 0 []) 2).toBool,(cg (xs.getD 0 []) 3).toBool,(cg (xs.getD 0 []) 4).toInt,(cg (xs.getD 0 []) 5).toInt,(cg (xs.getD 0 []) 6).toInt,(cg (xs.getD 0 []) 7).toInt⟩:TDcb)) (fun a=>[[.int a.Org,.int a.Format,.bool a.Blocked,.bool a.Asa,.int a.Lrecl,.int a.Blksize,.int a.KeyLen,.int a.KeyPos]]) (fun a=>aqk n a) (fun r=>[.c .bool (.bool r)]) (fun r=>[])
theorem dzf (n:Nat):aj1 jd (by0 n):=by
 have hΓ:=g1 (cyf n) (@g0 (aj1 jd))
 refine aj6 (Tryz.f127.body.getD .skip) h00 Tryz.func127 rfl Tryz.call127 (by decide) (by intro _ r;exact ⟨rfl,by simp⟩) ?_
 rintro d r H
 try dsimp only at H
 unfold aqk at H
 simp only [Tryz.f127,jn]
 refine rA ?_
 obtain ⟨r1,hr1,H⟩:=bind_some H
 obtain ⟨⟨hg3,hg4,hg5,hg6,hg7⟩,H⟩:=aj3 H
 have q:=aI @byp.eq_1 hr1
 refine rAq ?_
 refine jp ?_
 refine lf ?_
 obtain rfl:=Option.some.inj H
 exact rt []
def dy7 (n:Nat) (x_:aj0):Option Bool :=
 some (if (if (if (decide (x_.At ≥ 0))=true then (decide (x_.Len ≥ 1)) else false)=true then (decide (x_.At < 512)) else false)=true then (decide (x_.Len≤(jc .i64 (512 - x_.At)))) else false)
def eq1 (n:Nat):Go.AE.Fn:=mkFn (A:=aj0) (R:=Bool) 161 [(true,[.int .i64,.int .i64])] false (fun xs=>(⟨(cg (xs.getD 0 []) 0).toInt,(cg (xs.getD 0 []) 1).toInt⟩:aj0)) (fun a=>[[.int a.At,.int a.Len]]) (fun a=>dy7 n a) (fun r=>[.c .bool (.bool r)]) (fun r=>[])
theorem fqf (n:Nat):aj1 jd (eq1 n):=by
 have hΓ:=@g0 (aj1 jd)
 refine aj6 (Tryz.f161.body.getD .skip) h00 Tryz.func161 rfl Tryz.call161 (by decide) (by intro _ r;exact ⟨rfl,by simp⟩) ?_
 rintro x_ r H
 try dsimp only at H
 unfold dy7 at H
 simp only [Tryz.f161,jn]
 refine rA ?_
 refine rA ?_
 refine jp ?_
 refine lf ?_
 obtain rfl:=Option.some.inj H
 exact rt []
abbrev cj4 (out:List Int):S:=stB [(5,.own 9000 [.int .i64] 0 out.length)] [(9000,.row 3 (List.map ajw out))]
def bqc (n:Nat) (out:List Int):Option ((List Int)×Bool) :=
 some (out,true)
abbrev cjv (l:List aj0) (seen_1:List Bool) (out_2:List Int) (i:Int):S:=stB [(0,.c (.slice 80) (.slice (List.map aj2 l))),(4,.elt 9006 1 [.bool] 0 0),(5,.own 9007 [.int .i64] 0 out_2.length),(6,.c (.int .i64) (.int i))] [(9006,.row 4 (List.map awx seen_1)),(9007,.row 3 (List.map ajw out_2))]
def bq0 (n:Nat) (l:List aj0) (seen_1:List Bool) (out_2:List Int) (i:Int):Option (((List Bool)×(List Int)×Int) ⊕ ((((List Int)×Bool) ⊕ ((List Int))))) :=
 some (.inl (seen_1,out_2,(jc .i64 (i+1))))
abbrev byo (l:List aj0) (i:Int) (seen_2:List Bool) (out_3:List Int) (k:Int):S:=stB [(0,.c (.slice 80) (.slice (List.map aj2 l))),(4,.elt 9010 1 [.bool] 0 0),(5,.own 9011 [.int .i64] 0 out_3.length),(6,.c (.int .i64) (.int i)),(7,.c (.int .i64) (.int k))] [(9010,.row 4 (List.map awx seen_2)),(9011,.row 3 (List.map ajw out_3))]
def byg (n:Nat) (l:List aj0) (i:Int) (seen_2:List Bool) (out_3:List Int) (k:Int):Option (((List Bool)×(List Int)×Int) ⊕ ((((List Int)×Bool) ⊕ ((List Bool)×(List Int))))) :=
 gd ((0≤i∧i < (l.length:Int))∧(0≤i∧i < (l.length:Int))) <|
 bif (decide (k < (jc .i64 (((gt l (Int.toNat i)).At)+((gt l (Int.toNat i)).Len))))) then
  gd ((0≤k∧k < 512∧seen_2.length=512)∧(Int.toNat k) < seen_2.length) <|
  bif (gt seen_2 (Int.toNat k)) then
   some (.inr (.inl ([],false)))
  else
   gd ((0≤k∧k < 512∧seen_2.length=512)∧(Int.toNat k) < seen_2.length) <|
   gd ((out_3.length+1)≤2147483648) <|
   some (.inl ((List.set seen_2 (Int.toNat k) true),(out_3 ++ [k]),(jc .i64 (k+1))))
 else
  some (.inr (.inr (seen_2,out_3)))
abbrev cq7 (l:List aj0) (seen:List Bool) (out_1:List Int) (i:Int):S:=stB [(0,.c (.slice 80) (.slice (List.map aj2 l))),(4,.elt 9004 1 [.bool] 0 0),(5,.own 9005 [.int .i64] 0 out_1.length),(6,.c (.int .i64) (.int i))] [(9004,.row 4 (List.map awx seen)),(9005,.row 3 (List.map ajw out_1))]
def cjq (n:Nat) (l:List aj0) (seen:List Bool) (out_1:List Int) (i:Int):Option (((List Bool)×(List Int)×Int) ⊕ ((((List Int)×Bool) ⊕ ((List Int))))) :=
 bif (decide (i < (l.length:Int))) then
  gd ((0≤i∧i < (l.length:Int))) <|
  (dy7 n (gt l (Int.toNat i))).bind fun r1 =>
  bif (!r1) then
   some (.inr (.inl ([],false)))
  else
   gd ((0≤i∧i < (l.length:Int))) <|
   (aql (fun (x:(List Bool)×(List Int)×Int)=>byg n l i x.1 x.2.1 x.2.2) n (seen,out_1,(gt l (Int.toNat i)).At)).bind fun y15 =>
   match y15 with
   | .inl vv =>
    some (.inr (.inl (vv.1,vv.2)))
   | .inr vv =>
    bq0 n l vv.1 vv.2 i
 else
  some (.inr (.inr out_1))
def ayy (n:Nat) (l:List aj0):Option ((List Int)×Bool) :=
 (aql (fun (x:(List Bool)×(List Int)×Int)=>cjq n l x.1 x.2.1 x.2.2) n ((aqt 512 false),[],0)).bind fun y6 =>
 match y6 with
 | .inl vv =>
  some (vv.1,vv.2)
 | .inr vv =>
  bqc n vv
def bjf (n:Nat):Go.AE.Fn:=mkFn (A:=(List aj0)) (R:=(List Int)×Bool) 120 [(false,[.slice 80])] false (fun xs=>((cg (xs.getD 0 []) 0).toSl.map aji)) (fun a=>[[.slice (List.map aj2 a)]]) (fun a=>ayy n a) (fun r=>[.own 0 [.int .i64] 0 r.1.length,.c .bool (.bool r.2)]) (fun r=>[.row 3 (List.map ajw r.1)])
theorem bzp (n:Nat):aj1 jd (bjf n):=by
 have hΓ:=g1 (fqf n) (@g0 (aj1 jd))
 refine aj6 (Tryz.f120.body.getD .skip) h00 Tryz.func120 rfl Tryz.call120 (by decide) (fun _ r=>⟨rfl,m1 ⟨3,_,_,rfl,ty3,rfl⟩ m0⟩) ?_
 rintro l r H
 try dsimp only at H
 unfold ayy at H
 simp only [Tryz.f120,jn]
 refine rA ?_
 refine sX fun K2 hK2=>?_
 refine oY ?_
 refine hK2 _ ?_
 refine rA ?_
 refine jS (fun (x:(List Int))=>cj4 x) (fun x=>bqc n x=some r) ?_ ?_
 ·refine rA ?_
  refine jr ?_
  obtain ⟨y6,hy6,Ho6⟩:=bind_some H
  refine jL _ (fun x=>cq7 l x.1 x.2.1 x.2.2) hy6 (wb [some 64,none]) ?_
  rintro ⟨seen,out_1,i⟩ z6 H
  try dsimp only at H
  unfold cjq at H
  refine Sm.st (cq7.eq_1 ..) ?_
  refine jj fun K7 hK7=>?_
  refine rA ?_
  refine cnd H (fun h9 H=>?_) (fun h9 H=>?_)
  ·refine jo ?_
   refine hK7 _ ?_
   refine jS (fun (x:(List Bool)×(List Int))=>cjv l x.1 x.2 i) (fun x=>bq0 n l x.1 x.2 i=some z6) ?_ ?_
   ·refine jr ?_
    refine jj fun K10 hK10=>?_
    obtain ⟨hg33,H⟩:=aj3 H
    obtain ⟨r1,hr1,H⟩:=bind_some H
    have q:=aI @eq1.eq_1 hr1
    refine rAq ?_
    refine cnd H (fun h12 H=>?_) (fun h12 H=>?_)
    ·refine rA ?_
     refine jp ?_
     refine lf ?_
     refine lx H fun hyy=>?_
     subst hyy
     have H:=Ho6
     try dsimp only at H
     refine lf ?_
     obtain rfl:=Option.some.inj H
     exact rto [none]
    refine jo ?_
    refine hK10 _ ?_
    obtain ⟨hg32,H⟩:=aj3 H
    refine rA ?_
    refine jr ?_
    obtain ⟨y15,hy15,Ho15⟩:=bind_some H
    refine jL _ (fun x=>byo l i x.1 x.2.1 x.2.2) hy15 (wb [some 9004,some 9005]) ?_
    rintro ⟨seen_2,out_3,k⟩ z15 H
    try dsimp only at H
    unfold byg at H
    refine Sm.st (byo.eq_1 ..) ?_
    refine jj fun K16 hK16=>?_
    obtain ⟨⟨hg30,hg31⟩,H⟩:=aj3 H
    refine rD ?_
    refine cnd H (fun h18 H=>?_) (fun h18 H=>?_)
    ·refine jo ?_
     refine hK16 _ ?_
     refine jj fun K19 hK19=>?_
     refine jr ?_
     refine jj fun K20 hK20=>?_
     obtain ⟨⟨hg28,hg29⟩,H⟩:=aj3 H
     refine rA ?_
     refine cnd H (fun h22 H=>?_) (fun h22 H=>?_)
     ·refine rA ?_
      refine jp ?_
      refine lf ?_
      refine lx H fun hyy=>?_
      subst hyy
      have H:=Ho15
      try dsimp only at H
      refine lf ?_
      refine lx H fun hyy=>?_
      subst hyy
      have H:=Ho6
      try dsimp only at H
      refine lf ?_
      obtain rfl:=Option.some.inj H
      exact rto [none]
     refine jo ?_
     refine hK20 _ ?_
     obtain ⟨⟨hg26,hg27⟩,H⟩:=aj3 H
     refine rA ?_
     obtain ⟨hg25,H⟩:=aj3 H
     refine eA ?_
     refine hK19 _ ?_
     refine eA ?_
     refine lf ?_
     exact nx H (wb [some 9010,some 768])
    refine jR ?_
    refine lf ?_
    refine lx H fun hyy=>?_
    subst hyy
    have H:=Ho15
    try dsimp only at H
    refine lf ?_
    exact ⟨(seen_2,out_3),H,wb [some 9010,some 9011]⟩
   rintro ⟨seen_1,out_2⟩ H
   try dsimp only at H
   unfold bq0 at H
   refine Sm.st (cjv.eq_1 ..) ?_
   refine eA ?_
   refine lf ?_
   exact nx H (wb [some 9006,some 9007])
  refine jR ?_
  refine lf ?_
  refine lx H fun hyy=>?_
  subst hyy
  have H:=Ho6
  try dsimp only at H
  refine lf ?_
  exact ⟨_,H,wb [some 9005]⟩
 rintro out H
 try dsimp only at H
 unfold bqc at H
 refine Sm.st (cj4.eq_1 ..) ?_
 refine rA ?_
 refine jp ?_
 refine lf ?_
 obtain rfl:=Option.some.inj H
 exact rto [some 9000]
def azm (n:Nat) (l:List aj0):Option Bool :=
 (ayy n l).bind fun r1 =>
 some r1.2
def bqu (n:Nat):Go.AE.Fn:=mkFn (A:=(List aj0)) (R:=Bool) 73 [(false,[.slice 80])] false (fun xs=>((cg (xs.getD 0 []) 0).toSl.map aji)) (fun a=>[[.slice (List.map aj2 a)]]) (fun a=>azm n a) (fun r=>[.c .bool (.bool r)]) (fun r=>[])
theorem cj0 (n:Nat):aj1 jd (bqu n):=by
 have hΓ:=g1 (bzp n) (@g0 (aj1 jd))
 refine aj6 (Tryz.f73.body.getD .skip) h00 Tryz.func73 rfl Tryz.call73 (by decide) (by intro _ r;exact ⟨rfl,by simp⟩) ?_
 rintro l r H
 try dsimp only at H
 unfold azm at H
 simp only [Tryz.f73,jn]
 refine rA ?_
 obtain ⟨r1,hr1,H⟩:=bind_some H
 have q:=aI @bjf.eq_1 hr1
 refine rAq ?_
 refine rA ?_
 refine jp ?_
 refine lf ?_
 obtain rfl:=Option.some.inj H
 exact rt []
def bqj (n:Nat) (l:List aj0):Option Int :=
 (ayy n l).bind fun r1 =>
 some ((r1.1.length:Nat):Int)
def dwz (n:Nat):Go.AE.Fn:=mkFn (A:=(List aj0)) (R:=Int) 128 [(false,[.slice 80])] false (fun xs=>((cg (xs.getD 0 []) 0).toSl.map aji)) (fun a=>[[.slice (List.map aj2 a)]]) (fun a=>bqj n a) (fun r=>[.c (.int .i64) (.int r)]) (fun r=>[])
theorem ews (n:Nat):aj1 jd (dwz n):=by
 have hΓ:=g1 (bzp n) (@g0 (aj1 jd))
 refine aj6 (Tryz.f128.body.getD .skip) h00 Tryz.func128 rfl Tryz.call128 (by decide) (by intro _ r;exact ⟨rfl,by simp⟩) ?_
 rintro l r H
 try dsimp only at H
 unfold bqj at H
 simp only [Tryz.f128,jn]
 refine rA ?_
 obtain ⟨r1,hr1,H⟩:=bind_some H
 have q:=aI @bjf.eq_1 hr1
 refine rAq ?_
 refine rA ?_
 refine jp ?_
 refine lf ?_
 obtain rfl:=Option.some.inj H
 exact rt []
abbrev cww (d:aja):S:=stB [(3,.box 9000 0)] [(9000,.box [.c .str (.str d.Name),.c (.int .i64) (.int d.Dcb.Org),.c (.int .i64) (.int d.Dcb.Format),.c .bool (.bool d.Dcb.Blocked),.c .bool (.bool d.Dcb.Asa),.c (.int .i64) (.int d.Dcb.Lrecl),.c (.int .i64) (.int d.Dcb.Blksize),.c (.int .i64) (.int d.Dcb.KeyLen),.c (.int .i64) (.int d.Dcb.KeyPos),.c (.slice 80) (.slice (List.map aj2 d.Extents)),.c (.int .i64) (.int d.Used)])]
def bz2 (n:Nat) (d:aja):Option Bool :=
 (dqv n d.Name).bind fun r1 =>
 gd ((r1=true→(aqk n d.Dcb).isSome=true)∧((if r1=true then ((aqk n d.Dcb).getD default) else false)=true→(ajj n (d.Extents.length:Int) 1 8).isSome=true)∧((if (if r1=true then ((aqk n d.Dcb).getD default) else false)=true then ((ajj n (d.Extents.length:Int) 1 8).getD default) else false)=true→(azm n d.Extents).isSome=true)∧((if (if (if r1=true then ((aqk n d.Dcb).getD default) else false)=true then ((ajj n (d.Extents.length:Int) 1 8).getD default) else false)=true then ((azm n d.Extents).getD default) else false)=true→(bqj n d.Extents).isSome=true)∧((if (if (if r1=true then ((aqk n d.Dcb).getD default) else false)=true then ((ajj n (d.Extents.length:Int) 1 8).getD default) else false)=true then ((azm n d.Extents).getD default) else false)=true→(ajj n d.Used 0 ((bqj n d.Extents).getD default)).isSome=true)) <|
 some (if (if (if (if r1=true then ((aqk n d.Dcb).getD default) else false)=true then ((ajj n (d.Extents.length:Int) 1 8).getD default) else false)=true then ((azm n d.Extents).getD default) else false)=true then ((ajj n d.Used 0 ((bqj n d.Extents).getD default)).getD default) else false)
abbrev czc (v:aj9) (d:aja) (k:Int):S:=stB [(2,.box 9003 0),(3,.box 9004 0),(5,.c (.int .i64) (.int k))] [(9003,.box [.c .str (.str v.Serial),.c (.int .i64) (.int v.Cyls),.c (.int .i64) (.int v.Heads),.c (.int .i64) (.int v.Size),.c (.slice 41) (.slice (List.map aj4 v.Sets))]),(9004,.box [.c .str (.str d.Name),.c (.int .i64) (.int d.Dcb.Org),.c (.int .i64) (.int d.Dcb.Format),.c .bool (.bool d.Dcb.Blocked),.c .bool (.bool d.Dcb.Asa),.c (.int .i64) (.int d.Dcb.Lrecl),.c (.int .i64) (.int d.Dcb.Blksize),.c (.int .i64) (.int d.Dcb.KeyLen),.c (.int .i64) (.int d.Dcb.KeyPos),.c (.slice 80) (.slice (List.map aj2 d.Extents)),.c (.int .i64) (.int d.Used)])]
def czr (n:Nat) (v:aj9) (d:aja) (k:Int):Option ((Int) ⊕ (((Bool) ⊕ (Unit)))) :=
 bif (decide (k < (d.Extents.length:Int))) then
  gd ((0≤k∧k < (d.Extents.length:Int))) <|
  bif (if (decide (((gt d.Extents (Int.toNat k)).At)≤v.Size))=true then true else (decide ((jc .i64 (((gt d.Extents (Int.toNat k)).At)+((gt d.Extents (Int.toNat k)).Len))) > (jc .i64 (v.Cyls * v.Heads))))) then
   some (.inr (.inl false))
  else
   some (.inl (jc .i64 (k+1)))
 else
  some (.inr (.inr ()))
def ck9 (n:Nat) (v:aj9) (d:aja):Option Bool :=
 (aql (fun (x:Int)=>czr n v d x) n 0).bind fun y9 =>
 match y9 with
 | .inl vv =>
  some vv
 | .inr vv =>
  bz2 n d
def dwg (n:Nat):Go.AE.Fn:=mkFn (A:=aj9×aja) (R:=Bool) 72 [(true,[.str,.int .i64,.int .i64,.int .i64,.slice 41]),(true,[.str,.int .i64,.int .i64,.bool,.bool,.int .i64,.int .i64,.int .i64,.int .i64,.slice 80,.int .i64])] false (fun xs=>((⟨(cg (xs.getD 0 []) 0).toStr,(cg (xs.getD 0 []) 1).toInt,(cg (xs.getD 0 []) 2).toInt,(cg (xs.getD 0 []) 3).toInt,((cg (xs.getD 0 []) 4).toSl.map aqi)⟩:aj9),(⟨(cg (xs.getD 1 []) 0).toStr,(⟨(cg (xs.getD 1 []) 1).toInt,(cg (xs.getD 1 []) 2).toInt,(cg (xs.getD 1 []) 3).toBool,(cg (xs.getD 1 []) 4).toBool,(cg (xs.getD 1 []) 5).toInt,(cg (xs.getD 1 []) 6).toInt,(cg (xs.getD 1 []) 7).toInt,(cg (xs.getD 1 []) 8).toInt⟩:TDcb),((cg (xs.getD 1 []) 9).toSl.map aji),(cg (xs.getD 1 []) 10).toInt⟩:aja))) (fun a=>[[.str a.1.Serial,.int a.1.Cyls,.int a.1.Heads,.int a.1.Size,.slice (List.map aj4 a.1.Sets)],[.str a.2.Name,.int a.2.Dcb.Org,.int a.2.Dcb.Format,.bool a.2.Dcb.Blocked,.bool a.2.Dcb.Asa,.int a.2.Dcb.Lrecl,.int a.2.Dcb.Blksize,.int a.2.Dcb.KeyLen,.int a.2.Dcb.KeyPos,.slice (List.map aj2 a.2.Extents),.int a.2.Used]]) (fun a=>ck9 n a.1 a.2) (fun r=>[.c .bool (.bool r)]) (fun r=>[])
theorem ezy (n:Nat):aj1 jd (dwg n):=by
 have hΓ:=g1 (fj3 n) (g1 (dzf n) (g1 (cyf n) (g1 (cj0 n) (g1 (ews n) (@g0 (aj1 jd))))))
 refine aj6 (Tryz.f72.body.getD .skip) h00 Tryz.func72 rfl Tryz.call72 (by decide) (by intro _ r;exact ⟨rfl,by simp⟩) ?_
 rintro ⟨v,d⟩ r H
 try dsimp only at H
 unfold ck9 at H
 simp only [Tryz.f72,jn]
 refine rA ?_
 refine jS (fun (x:Unit)=>cww d) (fun x=>bz2 n d=some r) ?_ ?_
 ·refine rA ?_
  refine jr ?_
  obtain ⟨y9,hy9,Ho9⟩:=bind_some H
  refine jL _ (fun x=>czc v d x) hy9 (wb [some 32,some 48]) ?_
  rintro k z9 H
  try dsimp only at H
  unfold czr at H
  refine Sm.st (czc.eq_1 ..) ?_
  refine jj fun K10 hK10=>?_
  refine rA ?_
  refine cnd H (fun h12 H=>?_) (fun h12 H=>?_)
  ·refine jo ?_
   refine hK10 _ ?_
   refine jj fun K13 hK13=>?_
   refine jr ?_
   obtain ⟨hg18,H⟩:=aj3 H
   refine rA ?_
   refine rA ?_
   refine cnd H (fun h16 H=>?_) (fun h16 H=>?_)
   ·refine rA ?_
    refine jp ?_
    refine lf ?_
    refine lx H fun hyy=>?_
    subst hyy
    have H:=Ho9
    try dsimp only at H
    refine lf ?_
    obtain rfl:=Option.some.inj H
    exact rt []
   refine jo ?_
   refine hK13 _ ?_
   refine eA ?_
   refine lf ?_
   exact nx H (wb [some 9003,some 9004])
  refine jR ?_
  refine lf ?_
  refine lx H fun hyy=>?_
  subst hyy
  have H:=Ho9
  try dsimp only at H
  refine lf ?_
  exact ⟨(),H,wb [some 9004]⟩
 rintro ⟨⟩ H
 try dsimp only at H
 unfold bz2 at H
 refine Sm.st (cww.eq_1 ..) ?_
 obtain ⟨r1,hr1,H⟩:=bind_some H
 obtain ⟨⟨hg3,hg4,hg5,hg6,hg7⟩,H⟩:=aj3 H
 have q:=aI @dkj.eq_1 (aI @by0.eq_1 (aI @byp.eq_1 (aI @bqu.eq_1 (aI @dwz.eq_1 hr1))))
 refine rDq ?_
 refine jp ?_
 refine lf ?_
 obtain rfl:=Option.some.inj H
 exact rt []
abbrev dw8 (l:List aj0):S:=stB [(3,.own 9000 [.int .i64,.int .i64] 0 l.length)] [(9000,.row 80 (List.map aj2 l))]
def cqy (n:Nat) (l:List aj0):Option (List aj0) :=
 some l
abbrev dw6 (v:aj9) (l_1:List aj0) (k:Int):S:=stB [(1,.box 9004 0),(3,.own 9005 [.int .i64,.int .i64] 0 l_1.length),(4,.c (.int .i64) (.int k))] [(9004,.box [.c .str (.str v.Serial),.c (.int .i64) (.int v.Cyls),.c (.int .i64) (.int v.Heads),.c (.int .i64) (.int v.Size),.c (.slice 41) (.slice (List.map aj4 v.Sets))]),(9005,.row 80 (List.map aj2 l_1))]
def dwk (n:Nat) (v:aj9) (l_1:List aj0) (k:Int):Option (((List aj0)×Int) ⊕ (((List aj0)))) :=
 bif (decide (k < (v.Sets.length:Int))) then
  gd ((0≤k∧k < (v.Sets.length:Int))∧(l_1.length+((gt v.Sets (Int.toNat k)).Extents).length)≤2147483648) <|
  some (.inl ((l_1 ++ (gt v.Sets (Int.toNat k)).Extents),(jc .i64 (k+1))))
 else
  some (.inr l_1)
def dj9 (n:Nat) (v:aj9):Option (List aj0) :=
 (aql (fun (x:(List aj0)×Int)=>dwk n v x.1 x.2) n ([],0)).bind fun y5 =>
 cqy n y5
def dq8 (n:Nat):Go.AE.Fn:=mkFn (A:=aj9) (R:=(List aj0)) 74 [(true,[.str,.int .i64,.int .i64,.int .i64,.slice 41])] false (fun xs=>(⟨(cg (xs.getD 0 []) 0).toStr,(cg (xs.getD 0 []) 1).toInt,(cg (xs.getD 0 []) 2).toInt,(cg (xs.getD 0 []) 3).toInt,((cg (xs.getD 0 []) 4).toSl.map aqi)⟩:aj9)) (fun a=>[[.str a.Serial,.int a.Cyls,.int a.Heads,.int a.Size,.slice (List.map aj4 a.Sets)]]) (fun a=>dj9 n a) (fun r=>[.own 0 [.int .i64,.int .i64] 0 r.length]) (fun r=>[.row 80 (List.map aj2 r)])
theorem ejj (n:Nat):aj1 jd (dq8 n):=by
 have hΓ:=@g0 (aj1 jd)
 refine aj6 (Tryz.f74.body.getD .skip) h00 Tryz.func74 rfl Tryz.call74 (by decide) (fun _ r=>⟨rfl,m1 ⟨80,_,_,rfl,ty80,rfl⟩ m0⟩) ?_
 rintro v r H
 try dsimp only at H
 unfold dj9 at H
 simp only [Tryz.f74,jn]
 refine rA ?_
 refine rA ?_
 refine jS (fun (x:(List aj0))=>dw8 x) (fun x=>cqy n x=some r) ?_ ?_
 ·refine rA ?_
  refine jr ?_
  obtain ⟨y5,hy5,Ho5⟩:=bind_some H
  refine jL _ (fun x=>dw6 v x.1 x.2) hy5 (wb [some 16,none]) ?_
  rintro ⟨l_1,k⟩ z5 H
  try dsimp only at H
  unfold dwk at H
  refine Sm.st (dw6.eq_1 ..) ?_
  refine jj fun K6 hK6=>?_
  refine rA ?_
  refine cnd H (fun h8 H=>?_) (fun h8 H=>?_)
  ·refine jo ?_
   refine hK6 _ ?_
   refine jj fun K9 hK9=>?_
   refine jr ?_
   obtain ⟨⟨hg10,hg11⟩,H⟩:=aj3 H
   refine eA ?_
   refine hK9 _ ?_
   refine eA ?_
   refine lf ?_
   exact nx H (wb [some 9004,some 304])
  refine jR ?_
  refine lf ?_
  refine lx H fun hyy=>?_
  subst hyy
  have H:=Ho5
  try dsimp only at H
  refine lf ?_
  exact ⟨_,H,wb [some 9005]⟩
 rintro l H
 try dsimp only at H
 unfold cqy at H
 refine Sm.st (dw8.eq_1 ..) ?_
 refine rA ?_
 refine jp ?_
 refine lf ?_
 obtain rfl:=Option.some.inj H
 exact rto [some 9000]
abbrev cwt (v:aj9):S:=stB [(1,.box 9000 0)] [(9000,.box [.c .str (.str v.Serial),.c (.int .i64) (.int v.Cyls),.c (.int .i64) (.int v.Heads),.c (.int .i64) (.int v.Size),.c (.slice 41) (.slice (List.map aj4 v.Sets))])]
def bz5 (n:Nat) (v:aj9):Option Bool :=
 (dj9 n v).bind fun r2 =>
 (azm n r2).bind fun r3 =>
 some r3
abbrev czq (v:aj9) (k:Int):S:=stB [(1,.box 9002 0),(3,.c (.int .i64) (.int k))] [(9002,.box [.c .str (.str v.Serial),.c (.int .i64) (.int v.Cyls),.c (.int .i64) (.int v.Heads),.c (.int .i64) (.int v.Size),.c (.slice 41) (.slice (List.map aj4 v.Sets))])]
def cwx (n:Nat) (v:aj9) (k:Int):Option ((Int) ⊕ (((Bool) ⊕ (Unit)))) :=
 bif (decide (k < (v.Sets.length:Int))) then
  gd ((0≤k∧k < (v.Sets.length:Int))) <|
  (ck9 n v (gt v.Sets (Int.toNat k))).bind fun r4 =>
  gd ((((!(!r4)) && (decide (k > 0)))=true→(0≤(jc .i64 (k - 1))∧(jc .i64 (k - 1)) < (v.Sets.length:Int)))∧(((!(!r4)) && (decide (k > 0)))=true→(0≤k∧k < (v.Sets.length:Int)))) <|
  bif (if (!r4)=true then true else (if (decide (k > 0))=true then (!Op.bytesLess ((gt v.Sets (Int.toNat (jc .i64 (k - 1)))).Name) ((gt v.Sets (Int.toNat k)).Name)) else false)) then
   some (.inr (.inl false))
  else
   some (.inl (jc .i64 (k+1)))
 else
  some (.inr (.inr ()))
def bqp (n:Nat) (v:aj9):Option Bool :=
 (cjw n v.Serial).bind fun r1 =>
 gd (((!(!r1))=true→(ajj n v.Cyls 1 64).isSome=true)∧((!(if (!r1)=true then true else (!((ajj n v.Cyls 1 64).getD default))))=true→(ajj n v.Heads 1 8).isSome=true)∧((!(if (if (!r1)=true then true else (!((ajj n v.Cyls 1 64).getD default)))=true then true else (!((ajj n v.Heads 1 8).getD default))))=true→(ajj n v.Size 1 (jc .i64 ((jc .i64 (v.Cyls * v.Heads)) - 1))).isSome=true)) <|
 bif (if (if (if (if (if (!r1)=true then true else (!((ajj n v.Cyls 1 64).getD default)))=true then true else (!((ajj n v.Heads 1 8).getD default)))=true then true else (!((ajj n v.Size 1 (jc .i64 ((jc .i64 (v.Cyls * v.Heads)) - 1))).getD default)))=true then true else (decide ((v.Sets.length:Int) > 64)))=true then true else (decide ((v.Sets.length:Int) > (jc .i64 (14 * v.Size))))) then
  some false
 else
  (aql (fun (x:Int)=>cwx n v x) n 0).bind fun y8 =>
  match y8 with
  | .inl vv =>
   some vv
  | .inr vv =>
   bz5 n v
def bwa (n:Nat):Go.AE.Fn:=mkFn (A:=aj9) (R:=Bool) 31 [(true,[.str,.int .i64,.int .i64,.int .i64,.slice 41])] false (fun xs=>(⟨(cg (xs.getD 0 []) 0).toStr,(cg (xs.getD 0 []) 1).toInt,(cg (xs.getD 0 []) 2).toInt,(cg (xs.getD 0 []) 3).toInt,((cg (xs.getD 0 []) 4).toSl.map aqi)⟩:aj9)) (fun a=>[[.str a.Serial,.int a.Cyls,.int a.Heads,.int a.Size,.slice (List.map aj4 a.Sets)]]) (fun a=>bqp n a) (fun r=>[.c .bool (.bool r)]) (fun r=>[])
theorem byx (n:Nat):aj1 jd (bwa n):=by
 have hΓ:=g1 (ew3 n) (g1 (cyf n) (g1 (ezy n) (g1 (ejj n) (g1 (cj0 n) (@g0 (aj1 jd))))))
 have qe:=aI @cyw.eq_1 (aI @byp.eq_1 (aI @dwg.eq_1 (aI @dq8.eq_1 @bqu.eq_1)))
 refine aj6 (Tryz.f31.body.getD .skip) h00 Tryz.func31 rfl Tryz.call31 (by decide) (by intro _ r;exact ⟨rfl,by simp⟩) ?_
 rintro v r H
 try dsimp only at H
 unfold bqp at H
 simp only [Tryz.f31,jn]
 refine rA ?_
 refine jj fun K2 hK2=>?_
 obtain ⟨r1,hr1,H⟩:=bind_some H
 obtain ⟨⟨hg19,hg20,hg21⟩,H⟩:=aj3 H
 have q:=aI qe hr1
 refine rAq ?_
 refine cnd H (fun h4 H=>?_) (fun h4 H=>?_)
 ·refine rA ?_
  refine jp ?_
  refine lf ?_
  obtain rfl:=Option.some.inj H
  exact rt []
 refine jo ?_
 refine hK2 _ ?_
 refine jS (fun (x:Unit)=>cwt v) (fun x=>bz5 n v=some r) ?_ ?_
 ·refine rA ?_
  refine jr ?_
  obtain ⟨y8,hy8,Ho8⟩:=bind_some H
  refine jL _ (fun x=>czq v x) hy8 (wb [some 16]) ?_
  rintro k z8 H
  try dsimp only at H
  unfold cwx at H
  refine Sm.st (czq.eq_1 ..) ?_
  refine jj fun K9 hK9=>?_
  refine rA ?_
  refine cnd H (fun h11 H=>?_) (fun h11 H=>?_)
  ·refine jo ?_
   refine hK9 _ ?_
   refine jj fun K12 hK12=>?_
   refine jr ?_
   obtain ⟨hg16,H⟩:=aj3 H
   obtain ⟨r4,hr4,H⟩:=bind_some H
   obtain ⟨⟨hg17,hg18⟩,H⟩:=aj3 H
   have q:=aI qe hr4
   refine rDq ?_
   refine cnd H (fun h14 H=>?_) (fun h14 H=>?_)
   ·refine rA ?_
    refine jp ?_
    refine lf ?_
    refine lx H fun hyy=>?_
    subst hyy
    have H:=Ho8
    try dsimp only at H
    refine lf ?_
    obtain rfl:=Option.some.inj H
    exact rt []
   refine jo ?_
   refine hK12 _ ?_
   refine eA ?_
   refine lf ?_
   exact nx H (wb [some 9002])
  refine jR ?_
  refine lf ?_
  refine lx H fun hyy=>?_
  subst hyy
  have H:=Ho8
  try dsimp only at H
  refine lf ?_
  exact ⟨(),H,wb [some 9002]⟩
 rintro ⟨⟩ H
 try dsimp only at H
 unfold bz5 at H
 refine Sm.st (cwt.eq_1 ..) ?_
 obtain ⟨r2,hr2,H⟩:=bind_some H
 obtain ⟨r3,hr3,H⟩:=bind_some H
 have q:=aI qe (aI hr2 hr3)
 refine rAq ?_
 refine jp ?_
 refine lf ?_
 obtain rfl:=Option.some.inj H
 exact rt []
def ckc (n:Nat):Option (List Int) :=
 some [64,90,127,123,91,108,80,125,77,93,92,78,107,96,75,97,240,241,242,243,244,245,246,247,248,249,122,94,76,126,110,111,124,193,194,195,196,197,198,199,200,201,209,210,211,212,213,214,215,216,217,226,227,228,229,230,231,232,233,186,224,187,176,109,121,129,130,131,132,133,134,135,136,137,145,146,147,148,149,150,151,152,153,162,163,164,165,166,167,168,169,192,79,208,161]
def dwm (n:Nat):Go.AE.Fn:=mkFn (A:=Unit) (R:=(List Int)) 195 [] false (fun xs=>()) (fun a=>[]) (fun a=>ckc n) (fun r=>[.own 0 [.int .u8] 0 r.length]) (fun r=>[.row 5 (List.map ajw r)])
theorem ezl (n:Nat):aj1 jd (dwm n):=by
 have hΓ:=@g0 (aj1 jd)
 refine aj6 (Tryz.f195.body.getD .skip) h00 Tryz.func195 rfl Tryz.call195 (by decide) (fun _ r=>⟨rfl,m1 ⟨5,_,_,rfl,ty5,rfl⟩ m0⟩) ?_
 rintro ⟨⟩ r H
 try dsimp only at H
 unfold ckc at H
 simp only [Tryz.f195,jn]
 refine rA ?_
 refine rA ?_
 refine jp ?_
 refine lf ?_
 obtain rfl:=Option.some.inj H
 exact rto [some 16]
def dqc (n:Nat) (c:Int):Option (Int×Bool) :=
 bif (if (decide (c < 32))=true then true else (decide (c > 126))) then
  some (0,false)
 else
  (ckc n).bind fun r1 =>
  gd ((0≤(jc .u8 (c - 32))∧(jc .u8 (c - 32)) < (r1.length:Int))∧(Int.toNat (jc .u8 (c - 32))) < r1.length) <|
  some ((gt r1 (Int.toNat (jc .u8 (c - 32)))),true)
def dzq (n:Nat):Go.AE.Fn:=mkFn (A:=Int) (R:=Int×Bool) 163 [(false,[.int .u8])] false (fun xs=>(cg (xs.getD 0 []) 0).toInt) (fun a=>[[.int a]]) (fun a=>dqc n a) (fun r=>[.c (.int .u8) (.int r.1),.c .bool (.bool r.2)]) (fun r=>[])
theorem ey0 (n:Nat):aj1 jd (dzq n):=by
 have hΓ:=g1 (ezl n) (@g0 (aj1 jd))
 refine aj6 (Tryz.f163.body.getD .skip) h00 Tryz.func163 rfl Tryz.call163 (by decide) (by intro _ r;exact ⟨rfl,by simp⟩) ?_
 rintro c r H
 try dsimp only at H
 unfold dqc at H
 simp only [Tryz.f163,jn]
 refine rA ?_
 refine jj fun K2 hK2=>?_
 refine rA ?_
 refine cnd H (fun h4 H=>?_) (fun h4 H=>?_)
 ·refine rA ?_
  refine jp ?_
  refine lf ?_
  obtain rfl:=Option.some.inj H
  exact rt []
 refine jo ?_
 refine hK2 _ ?_
 obtain ⟨r1,hr1,H⟩:=bind_some H
 obtain ⟨⟨hg7,hg8⟩,H⟩:=aj3 H
 have q:=aI @dwm.eq_1 hr1
 refine rAq ?_
 refine jp ?_
 refine lf ?_
 obtain rfl:=Option.some.inj H
 exact rt []
abbrev cjg (out:List Int):S:=stB [(4,.own 9000 [.int .u8] 0 out.length)] [(9000,.row 5 (List.map ajw out))]
def bql (n:Nat) (out:List Int):Option ((List Int)×Int) :=
 some (out,0)
abbrev cqb (s:List UInt8) (out_1:List Int) (i:Int):S:=stB [(0,.c .str (.str s)),(4,.own 9002 [.int .u8] 0 out_1.length),(5,.c (.int .i64) (.int i))] [(9002,.row 5 (List.map ajw out_1))]
def cqo (n:Nat) (s:List UInt8) (out_1:List Int) (i:Int):Option (((List Int)×Int) ⊕ ((((List Int)×Int) ⊕ ((List Int))))) :=
 bif (decide (i < (s.length:Int))) then
  gd ((0≤i∧i < (s.length:Int))) <|
  (dqc n (((s.getD (Int.toNat i) 0).toNat:Nat):Int)).bind fun r1 =>
  bif (!r1.2) then
   some (.inr (.inl ([],20)))
  else
   gd ((out_1.length+1)≤2147483648) <|
   some (.inl ((out_1 ++ [r1.1]),(jc .i64 (i+1))))
 else
  some (.inr (.inr out_1))
def cqc (n:Nat) (s:List UInt8):Option ((List Int)×Int) :=
 (aql (fun (x:(List Int)×Int)=>cqo n s x.1 x.2) n ([],0)).bind fun y5 =>
 match y5 with
 | .inl vv =>
  some (vv.1,vv.2)
 | .inr vv =>
  bql n vv
def ckv (n:Nat):Go.AE.Fn:=mkFn (A:=(List UInt8)) (R:=(List Int)×Int) 123 [(false,[.str])] false (fun xs=>(cg (xs.getD 0 []) 0).toStr) (fun a=>[[.str a]]) (fun a=>cqc n a) (fun r=>[.own 0 [.int .u8] 0 r.1.length,.c (.int .i64) (.int r.2)]) (fun r=>[.row 5 (List.map ajw r.1)])
theorem eqj (n:Nat):aj1 jd (ckv n):=by
 have hΓ:=g1 (ey0 n) (@g0 (aj1 jd))
 refine aj6 (Tryz.f123.body.getD .skip) h00 Tryz.func123 rfl Tryz.call123 (by decide) (fun _ r=>⟨rfl,m1 ⟨5,_,_,rfl,ty5,rfl⟩ m0⟩) ?_
 rintro s r H
 try dsimp only at H
 unfold cqc at H
 simp only [Tryz.f123,jn]
 refine rA ?_
 refine rA ?_
 refine jS (fun (x:(List Int))=>cjg x) (fun x=>bql n x=some r) ?_ ?_
 ·refine rA ?_
  refine jr ?_
  obtain ⟨y5,hy5,Ho5⟩:=bind_some H
  refine jL _ (fun x=>cqb s x.1 x.2) hy5 (wb [none]) ?_
  rintro ⟨out_1,i⟩ z5 H
  try dsimp only at H
  unfold cqo at H
  refine Sm.st (cqb.eq_1 ..) ?_
  refine jj fun K6 hK6=>?_
  refine rA ?_
  refine cnd H (fun h8 H=>?_) (fun h8 H=>?_)
  ·refine jo ?_
   refine hK6 _ ?_
   refine jj fun K9 hK9=>?_
   refine jr ?_
   obtain ⟨hg16,H⟩:=aj3 H
   obtain ⟨r1,hr1,H⟩:=bind_some H
   have q:=aI @dzq.eq_1 hr1
   refine rAq ?_
   refine jj fun K11 hK11=>?_
   refine rA ?_
   refine cnd H (fun h13 H=>?_) (fun h13 H=>?_)
   ·refine rA ?_
    refine jp ?_
    refine lf ?_
    refine lx H fun hyy=>?_
    subst hyy
    have H:=Ho5
    try dsimp only at H
    refine lf ?_
    obtain rfl:=Option.some.inj H
    exact rto [none]
   refine jo ?_
   refine hK11 _ ?_
   obtain ⟨hg15,H⟩:=aj3 H
   refine eA ?_
   refine hK9 _ ?_
   refine eA ?_
   refine lf ?_
   exact nx H (wb [some 416])
  refine jR ?_
  refine lf ?_
  refine lx H fun hyy=>?_
  subst hyy
  have H:=Ho5
  try dsimp only at H
  refine lf ?_
  exact ⟨_,H,wb [some 9002]⟩
 rintro out H
 try dsimp only at H
 unfold bql at H
 refine Sm.st (cjg.eq_1 ..) ?_
 refine rA ?_
 refine jp ?_
 refine lf ?_
 obtain rfl:=Option.some.inj H
 exact rto [some 9000]
abbrev cyt (b:List Int):S:=stB [(5,.own 9000 [.int .u8] 0 b.length)] [(9000,.row 5 (List.map ajw b))]
def bkc (n:Nat) (b:List Int):Option (List Int) :=
 some b
abbrev dj2 (n_:Int) (b_1:List Int):S:=stB [(1,.c (.int .i64) (.int n_)),(5,.own 9001 [.int .u8] 0 b_1.length)] [(9001,.row 5 (List.map ajw b_1))]
def djw (n:Nat) (n_:Int) (b_1:List Int):Option (((List Int)) ⊕ (((List Int)))) :=
 bif (decide (((b_1.length:Nat):Int) < n_)) then
  gd ((b_1.length+1)≤2147483648) <|
  some (.inl (b_1 ++ [64]))
 else
  some (.inr b_1)
def ayk (n:Nat) (s:List UInt8) (n_:Int):Option (List Int) :=
 (cqc n s).bind fun r1 =>
 (aql (fun (x:(List Int))=>djw n n_ x) n r1.1).bind fun y4 =>
 bkc n y4
def ckb (n:Nat):Go.AE.Fn:=mkFn (A:=(List UInt8)×Int) (R:=(List Int)) 64 [(false,[.str]),(false,[.int .i64])] false (fun xs=>((cg (xs.getD 0 []) 0).toStr,(cg (xs.getD 1 []) 0).toInt)) (fun a=>[[.str a.1],[.int a.2]]) (fun a=>ayk n a.1 a.2) (fun r=>[.own 0 [.int .u8] 0 r.length]) (fun r=>[.row 5 (List.map ajw r)])
theorem dzs (n:Nat):aj1 jd (ckb n):=by
 have hΓ:=g1 (eqj n) (@g0 (aj1 jd))
 refine aj6 (Tryz.f64.body.getD .skip) h00 Tryz.func64 rfl Tryz.call64 (by decide) (fun _ r=>⟨rfl,m1 ⟨5,_,_,rfl,ty5,rfl⟩ m0⟩) ?_
 rintro ⟨s,n_⟩ r H
 try dsimp only at H
 unfold ayk at H
 simp only [Tryz.f64,jn]
 refine rA ?_
 obtain ⟨r1,hr1,H⟩:=bind_some H
 have q:=aI @ckv.eq_1 hr1
 refine rAq ?_
 refine jS (fun (x:(List Int))=>cyt x) (fun x=>bkc n x=some r) ?_ ?_
 ·refine jr ?_
  obtain ⟨y4,hy4,Ho4⟩:=bind_some H
  refine jL _ (fun x=>dj2 n_ x) hy4 (wb [some 144]) ?_
  rintro b_1 z4 H
  try dsimp only at H
  unfold djw at H
  refine Sm.st (dj2.eq_1 ..) ?_
  refine jj fun K5 hK5=>?_
  refine rA ?_
  refine cnd H (fun h7 H=>?_) (fun h7 H=>?_)
  ·refine jo ?_
   refine hK5 _ ?_
   refine jr ?_
   obtain ⟨hg8,H⟩:=aj3 H
   refine eA ?_
   refine lf ?_
   exact nx H (wb [some 288])
  refine jR ?_
  refine lf ?_
  refine lx H fun hyy=>?_
  subst hyy
  have H:=Ho4
  try dsimp only at H
  refine lf ?_
  exact ⟨_,H,wb [some 9001]⟩
 rintro b H
 try dsimp only at H
 unfold bkc at H
 refine Sm.st (cyt.eq_1 ..) ?_
 refine rA ?_
 refine jp ?_
 refine lf ?_
 obtain rfl:=Option.some.inj H
 exact rto [some 9000]
def bjp (n:Nat) (n_:Int):Option (List Int) :=
 some [(jc .u8 ((jc .i64 (Int.tdiv n_ 256)))),(jc .u8 ((Int.tmod n_ 256)))]
def cka (n:Nat):Go.AE.Fn:=mkFn (A:=Int) (R:=(List Int)) 65 [(false,[.int .i64])] false (fun xs=>(cg (xs.getD 0 []) 0).toInt) (fun a=>[[.int a]]) (fun a=>bjp n a) (fun r=>[.own 0 [.int .u8] 0 r.length]) (fun r=>[.row 5 (List.map ajw r)])
theorem dzy (n:Nat):aj1 jd (cka n):=by
 have hΓ:=@g0 (aj1 jd)
 refine aj6 (Tryz.f65.body.getD .skip) h00 Tryz.func65 rfl Tryz.call65 (by decide) (fun _ r=>⟨rfl,m1 ⟨5,_,_,rfl,ty5,rfl⟩ m0⟩) ?_
 rintro n_ r H
 try dsimp only at H
 unfold bjp at H
 simp only [Tryz.f65,jn]
 refine rA ?_
 refine rA ?_
 refine jp ?_
 refine lf ?_
 obtain rfl:=Option.some.inj H
 exact rto [some 144]
def cw2 (n:Nat) (is:Bool) (n_:Int):Option Int :=
 bif is then
  some (jc .u8 (n_))
 else
  some 0
def dkh (n:Nat):Go.AE.Fn:=mkFn (A:=Bool×Int) (R:=Int) 124 [(false,[.bool]),(false,[.int .i64])] false (fun xs=>((cg (xs.getD 0 []) 0).toBool,(cg (xs.getD 1 []) 0).toInt)) (fun a=>[[.bool a.1],[.int a.2]]) (fun a=>cw2 n a.1 a.2) (fun r=>[.c (.int .u8) (.int r)]) (fun r=>[])
theorem fj4 (n:Nat):aj1 jd (dkh n):=by
 have hΓ:=@g0 (aj1 jd)
 refine aj6 (Tryz.f124.body.getD .skip) h00 Tryz.func124 rfl Tryz.call124 (by decide) (by intro _ r;exact ⟨rfl,by simp⟩) ?_
 rintro ⟨is,n_⟩ r H
 try dsimp only at H
 unfold cw2 at H
 simp only [Tryz.f124,jn]
 refine rA ?_
 refine jj fun K2 hK2=>?_
 refine rA ?_
 refine cnd H (fun h4 H=>?_) (fun h4 H=>?_)
 ·refine rA ?_
  refine jp ?_
  refine lf ?_
  obtain rfl:=Option.some.inj H
  exact rt []
 refine jo ?_
 refine hK2 _ ?_
 refine rA ?_
 refine jp ?_
 refine lf ?_
 obtain rfl:=Option.some.inj H
 exact rt []
abbrev cqd (n_:Int) (d:aja) (b_1:List Int):S:=stB [(0,.c (.int .i64) (.int n_)),(3,.box 9003 0),(4,.box 9004 0),(6,.own 9005 [.int .u8] 0 b_1.length)] [(9003,.box [.c .str (.str d.Name),.c (.int .i64) (.int d.Dcb.Org),.c (.int .i64) (.int d.Dcb.Format),.c .bool (.bool d.Dcb.Blocked),.c .bool (.bool d.Dcb.Asa),.c (.int .i64) (.int d.Dcb.Lrecl),.c (.int .i64) (.int d.Dcb.Blksize),.c (.int .i64) (.int d.Dcb.KeyLen),.c (.int .i64) (.int d.Dcb.KeyPos),.c (.slice 80) (.slice (List.map aj2 d.Extents)),.c (.int .i64) (.int d.Used)]),(9004,.box [.c (.int .i64) (.int 0),.nilsl,.nilsl,.c .bool (.bool false)]),(9005,.row 5 (List.map ajw b_1))]
def bq4 (n:Nat) (n_:Int) (d:aja) (b_1:List Int):Option TRec :=
 (ayk n d.Name 44).bind fun r3 =>
 some (⟨n_,r3,b_1,false⟩:TRec)
abbrev cq2 (n_:Int) (d:aja) (b_3:List Int) (k:Int):S:=stB [(0,.c (.int .i64) (.int n_)),(3,.box 9012 0),(4,.box 9013 0),(6,.own 9014 [.int .u8] 0 b_3.length),(9,.c (.int .i64) (.int k))] [(9012,.box [.c .str (.str d.Name),.c (.int .i64) (.int d.Dcb.Org),.c (.int .i64) (.int d.Dcb.Format),.c .bool (.bool d.Dcb.Blocked),.c .bool (.bool d.Dcb.Asa),.c (.int .i64) (.int d.Dcb.Lrecl),.c (.int .i64) (.int d.Dcb.Blksize),.c (.int .i64) (.int d.Dcb.KeyLen),.c (.int .i64) (.int d.Dcb.KeyPos),.c (.slice 80) (.slice (List.map aj2 d.Extents)),.c (.int .i64) (.int d.Used)]),(9013,.box [.c (.int .i64) (.int 0),.nilsl,.nilsl,.c .bool (.bool false)]),(9014,.row 5 (List.map ajw b_3))]
def bqa (n:Nat) (n_:Int) (d:aja) (b_3:List Int) (k:Int):Option (((List Int)×Int) ⊕ (((List Int)))) :=
 some (.inl (b_3,(jc .i64 (k+1))))
abbrev cjx (n_:Int) (d:aja) (b_2:List Int) (k:Int) (x_:Int) (x__1:Int):S:=stB [(0,.c (.int .i64) (.int n_)),(3,.box 9015 0),(4,.box 9016 0),(6,.own 9017 [.int .u8] 0 b_2.length),(9,.c (.int .i64) (.int k)),(10,.box 9018 0)] [(9015,.box [.c .str (.str d.Name),.c (.int .i64) (.int d.Dcb.Org),.c (.int .i64) (.int d.Dcb.Format),.c .bool (.bool d.Dcb.Blocked),.c .bool (.bool d.Dcb.Asa),.c (.int .i64) (.int d.Dcb.Lrecl),.c (.int .i64) (.int d.Dcb.Blksize),.c (.int .i64) (.int d.Dcb.KeyLen),.c (.int .i64) (.int d.Dcb.KeyPos),.c (.slice 80) (.slice (List.map aj2 d.Extents)),.c (.int .i64) (.int d.Used)]),(9016,.box [.c (.int .i64) (.int 0),.nilsl,.nilsl,.c .bool (.bool false)]),(9017,.row 5 (List.map ajw b_2)),(9018,.box [.c (.int .i64) (.int x_),.c (.int .i64) (.int x__1)])]
def akx (n:Nat) (n_:Int) (d:aja) (b_2:List Int) (k:Int) (x_:Int) (x__1:Int):Option (((List Int)×Int) ⊕ (((List Int)))) :=
 (bjp n x_).bind fun r4 =>
 gd ((b_2.length+r4.length)≤2147483648) <|
 (bjp n x__1).bind fun r5 =>
 gd (((b_2.length+r4.length)+r5.length)≤2147483648) <|
 bqa n n_ d ((b_2 ++ r4) ++ r5) k
abbrev cjz (n_:Int) (d:aja) (b_2:List Int) (k:Int):S:=stB [(0,.c (.int .i64) (.int n_)),(3,.box 9009 0),(4,.box 9010 0),(6,.own 9011 [.int .u8] 0 b_2.length),(9,.c (.int .i64) (.int k))] [(9009,.box [.c .str (.str d.Name),.c (.int .i64) (.int d.Dcb.Org),.c (.int .i64) (.int d.Dcb.Format),.c .bool (.bool d.Dcb.Blocked),.c .bool (.bool d.Dcb.Asa),.c (.int .i64) (.int d.Dcb.Lrecl),.c (.int .i64) (.int d.Dcb.Blksize),.c (.int .i64) (.int d.Dcb.KeyLen),.c (.int .i64) (.int d.Dcb.KeyPos),.c (.slice 80) (.slice (List.map aj2 d.Extents)),.c (.int .i64) (.int d.Used)]),(9010,.box [.c (.int .i64) (.int 0),.nilsl,.nilsl,.c .bool (.bool false)]),(9011,.row 5 (List.map ajw b_2))]
def cje (n:Nat) (n_:Int) (d:aja) (b_2:List Int) (k:Int):Option (((List Int)×Int) ⊕ (((List Int)))) :=
 bif (decide (k < 8)) then
  bif (decide (k < (d.Extents.length:Int))) then
   gd ((0≤k∧k < (d.Extents.length:Int))) <|
   akx n n_ d b_2 k ((gt d.Extents (Int.toNat k)).At) ((gt d.Extents (Int.toNat k)).Len)
  else
   akx n n_ d b_2 k 0 0
 else
  some (.inr b_2)
abbrev byk (n_:Int) (d:aja) (b:List Int):S:=stB [(0,.c (.int .i64) (.int n_)),(3,.box 9000 0),(4,.box 9001 0),(6,.own 9002 [.int .u8] 0 b.length)] [(9000,.box [.c .str (.str d.Name),.c (.int .i64) (.int d.Dcb.Org),.c (.int .i64) (.int d.Dcb.Format),.c .bool (.bool d.Dcb.Blocked),.c .bool (.bool d.Dcb.Asa),.c (.int .i64) (.int d.Dcb.Lrecl),.c (.int .i64) (.int d.Dcb.Blksize),.c (.int .i64) (.int d.Dcb.KeyLen),.c (.int .i64) (.int d.Dcb.KeyPos),.c (.slice 80) (.slice (List.map aj2 d.Extents)),.c (.int .i64) (.int d.Used)]),(9001,.box [.c (.int .i64) (.int 0),.nilsl,.nilsl,.c .bool (.bool false)]),(9002,.row 5 (List.map ajw b))]
def bq9 (n:Nat) (n_:Int) (d:aja) (b:List Int):Option TRec :=
 gd ((b.length+1)≤2147483648) <|
 (aql (fun (x:(List Int)×Int)=>cje n n_ d x.1 x.2) n ((b ++ [(jc .u8 ((d.Extents.length:Int)))]),0)).bind fun y8 =>
 bq4 n n_ d y8
abbrev cjd (n_:Int) (d:aja) (l:List Int) (b_4:List Int) (k_1:Int):S:=stB [(0,.c (.int .i64) (.int n_)),(3,.box 9023 0),(4,.box 9024 0),(6,.own 9025 [.int .u8] 0 b_4.length),(7,.own 9026 [.int .i64] 0 l.length),(8,.c (.int .i64) (.int k_1))] [(9023,.box [.c .str (.str d.Name),.c (.int .i64) (.int d.Dcb.Org),.c (.int .i64) (.int d.Dcb.Format),.c .bool (.bool d.Dcb.Blocked),.c .bool (.bool d.Dcb.Asa),.c (.int .i64) (.int d.Dcb.Lrecl),.c (.int .i64) (.int d.Dcb.Blksize),.c (.int .i64) (.int d.Dcb.KeyLen),.c (.int .i64) (.int d.Dcb.KeyPos),.c (.slice 80) (.slice (List.map aj2 d.Extents)),.c (.int .i64) (.int d.Used)]),(9024,.box [.c (.int .i64) (.int 0),.nilsl,.nilsl,.c .bool (.bool false)]),(9025,.row 5 (List.map ajw b_4)),(9026,.row 3 (List.map ajw l))]
def cq8 (n:Nat) (n_:Int) (d:aja) (l:List Int) (b_4:List Int) (k_1:Int):Option (((List Int)×Int) ⊕ (((List Int)))) :=
 bif (decide (k_1 < 4)) then
  gd ((0≤k_1∧k_1 < (l.length:Int))∧(Int.toNat k_1) < l.length) <|
  (bjp n (gt l (Int.toNat k_1))).bind fun r6 =>
  gd ((b_4.length+r6.length)≤2147483648) <|
  some (.inl ((b_4 ++ r6),(jc .i64 (k_1+1))))
 else
  some (.inr b_4)
def cq0 (n:Nat) (n_:Int) (d:aja):Option TRec :=
 (cw2 n d.Dcb.Blocked 128).bind fun r1 =>
 (cw2 n d.Dcb.Asa 64).bind fun r2 =>
 (aql (fun (x:(List Int)×Int)=>cq8 n n_ d [d.Dcb.Lrecl,d.Dcb.Blksize,d.Dcb.KeyPos,d.Used] x.1 x.2) n ([(jc .u8 (d.Dcb.Org)),(jc .u8 (d.Dcb.Format)),(jc .u8 (r1+r2)),(jc .u8 (d.Dcb.KeyLen))],0)).bind fun y21 =>
 bq9 n n_ d y21
def cyj (n:Nat):Go.AE.Fn:=mkFn (A:=Int×aja) (R:=TRec) 66 [(false,[.int .i64]),(true,[.str,.int .i64,.int .i64,.bool,.bool,.int .i64,.int .i64,.int .i64,.int .i64,.slice 80,.int .i64])] false (fun xs=>((cg (xs.getD 0 []) 0).toInt,(⟨(cg (xs.getD 1 []) 0).toStr,(⟨(cg (xs.getD 1 []) 1).toInt,(cg (xs.getD 1 []) 2).toInt,(cg (xs.getD 1 []) 3).toBool,(cg (xs.getD 1 []) 4).toBool,(cg (xs.getD 1 []) 5).toInt,(cg (xs.getD 1 []) 6).toInt,(cg (xs.getD 1 []) 7).toInt,(cg (xs.getD 1 []) 8).toInt⟩:TDcb),((cg (xs.getD 1 []) 9).toSl.map aji),(cg (xs.getD 1 []) 10).toInt⟩:aja))) (fun a=>[[.int a.1],[.str a.2.Name,.int a.2.Dcb.Org,.int a.2.Dcb.Format,.bool a.2.Dcb.Blocked,.bool a.2.Dcb.Asa,.int a.2.Dcb.Lrecl,.int a.2.Dcb.Blksize,.int a.2.Dcb.KeyLen,.int a.2.Dcb.KeyPos,.slice (List.map aj2 a.2.Extents),.int a.2.Used]]) (fun a=>cq0 n a.1 a.2) (fun r=>[.agg [.c (.int .i64) (.int r.R),.own 0 [.int .u8] 0 r.Key.length,.own 1 [.int .u8] 0 r.Data.length,.c .bool (.bool r.Bad)]]) (fun r=>[.row 5 (List.map ajw r.Key),.row 5 (List.map ajw r.Data)])
theorem eqi (n:Nat):aj1 jd (cyj n):=by
 have hΓ:=g1 (fj4 n) (g1 (dzy n) (g1 (dzs n) (@g0 (aj1 jd))))
 have qe:=aI @dkh.eq_1 (aI @cka.eq_1 @ckb.eq_1)
 refine aj6 (Tryz.f66.body.getD .skip) h00 Tryz.func66 rfl Tryz.call66 (by decide) (fun _ r=>⟨rfl,m1 ⟨5,_,_,rfl,ty5,rfl⟩ (m1 ⟨5,_,_,rfl,ty5,rfl⟩ m0)⟩) ?_
 rintro ⟨n_,d⟩ r H
 try dsimp only at H
 unfold cq0 at H
 simp only [Tryz.f66,jn]
 refine rA ?_
 refine rA ?_
 obtain ⟨r1,hr1,H⟩:=bind_some H
 obtain ⟨r2,hr2,H⟩:=bind_some H
 have q:=aI qe (aI hr1 hr2)
 refine rDq ?_
 refine rA ?_
 refine jS (fun (x:(List Int))=>byk n_ d x) (fun x=>bq9 n n_ d x=some r) ?_ ?_
 ·refine rA ?_
  refine jr ?_
  obtain ⟨y21,hy21,Ho21⟩:=bind_some H
  refine jL _ (fun x=>cjd n_ d [d.Dcb.Lrecl,d.Dcb.Blksize,d.Dcb.KeyPos,d.Used] x.1 x.2) hy21 (wb [some 48,some 64,some 464,some 608]) ?_
  rintro ⟨b_4,k_1⟩ z21 H
  try dsimp only at H
  unfold cq8 at H
  refine Sm.st (cjd.eq_1 ..) ?_
  refine jj fun K22 hK22=>?_
  refine rA ?_
  refine cnd H (fun h24 H=>?_) (fun h24 H=>?_)
  ·refine jo ?_
   refine hK22 _ ?_
   refine jj fun K25 hK25=>?_
   refine jr ?_
   obtain ⟨⟨hg26,hg27⟩,H⟩:=aj3 H
   obtain ⟨r6,hr6,H⟩:=bind_some H
   obtain ⟨hg28,H⟩:=aj3 H
   have q:=aI qe hr6
   refine eAq ?_
   refine hK25 _ ?_
   refine eA ?_
   refine lf ?_
   exact nx H (wb [some 9023,some 9024,some 784,some 9026])
  refine jR ?_
  refine lf ?_
  refine lx H fun hyy=>?_
  subst hyy
  have H:=Ho21
  try dsimp only at H
  refine lf ?_
  exact ⟨_,H,wb [some 9023,some 9024,some 9025]⟩
 rintro b H
 try dsimp only at H
 unfold bq9 at H
 refine Sm.st (byk.eq_1 ..) ?_
 obtain ⟨hg19,H⟩:=aj3 H
 refine rA ?_
 refine jS (fun (x:(List Int))=>cqd n_ d x) (fun x=>bq4 n n_ d x=some r) ?_ ?_
 ·refine rA ?_
  refine jr ?_
  obtain ⟨y8,hy8,Ho8⟩:=bind_some H
  refine jL _ (fun x=>cjz n_ d x.1 x.2) hy8 (wb [some 9000,some 9001,some 896]) ?_
  rintro ⟨b_2,k⟩ z8 H
  try dsimp only at H
  unfold cje at H
  refine Sm.st (cjz.eq_1 ..) ?_
  refine jj fun K9 hK9=>?_
  refine rA ?_
  refine cnd H (fun h11 H=>?_) (fun h11 H=>?_)
  ·refine jo ?_
   refine hK9 _ ?_
   refine jS (fun (x:(List Int))=>cq2 n_ d x k) (fun x=>bqa n n_ d x k=some z8) ?_ ?_
   ·refine jr ?_
    refine rA ?_
    refine jS (fun (x:Int×Int)=>cjx n_ d b_2 k x.1 x.2) (fun x=>akx n n_ d b_2 k x.1 x.2=some z8) ?_ ?_
    ·refine rA ?_
     refine cnd H (fun h17 H=>?_) (fun h17 H=>?_)
     ·obtain ⟨hg18,H⟩:=aj3 H
      refine eA ?_
      refine lf ?_
      exact ⟨(((gt d.Extents (Int.toNat k)).At),((gt d.Extents (Int.toNat k)).Len)),H,wb [some 9009,some 9010,some 9011,some 160]⟩
     refine jo ?_
     refine lf ?_
     exact ⟨(0,0),H,wb [some 9009,some 9010,some 9011,some 160]⟩
    rintro ⟨x_,x__1⟩ H
    try dsimp only at H
    unfold akx at H
    refine Sm.st (cjx.eq_1 ..) ?_
    obtain ⟨r4,hr4,H⟩:=bind_some H
    obtain ⟨hg15,H⟩:=aj3 H
    have q:=aI qe hr4
    refine rAq ?_
    obtain ⟨r5,hr5,H⟩:=bind_some H
    obtain ⟨hg14,H⟩:=aj3 H
    have q:=aI qe hr5
    refine eAq ?_
    refine lf ?_
    exact ⟨_,H,wb [some 9015,some 9016,some 1296]⟩
   rintro b_3 H
   try dsimp only at H
   unfold bqa at H
   refine Sm.st (cq2.eq_1 ..) ?_
   refine eA ?_
   refine lf ?_
   exact nx H (wb [some 9012,some 9013,some 9014])
  refine jR ?_
  refine lf ?_
  refine lx H fun hyy=>?_
  subst hyy
  have H:=Ho8
  try dsimp only at H
  refine lf ?_
  exact ⟨_,H,wb [some 9009,some 9010,some 9011]⟩
 rintro b_1 H
 try dsimp only at H
 unfold bq4 at H
 refine Sm.st (cqd.eq_1 ..) ?_
 obtain ⟨r3,hr3,H⟩:=bind_some H
 have q:=aI qe hr3
 refine rAq ?_
 refine jp ?_
 refine lf ?_
 obtain rfl:=Option.some.inj H
 exact rto [some 1360,some 9005]
abbrev cqi (out:List (List TRec)):S:=stB [(7,.own 9002 [.slice 87] 0 out.length)] [(9002,.row 84 (List.map aq3 out))]
def bq7 (n:Nat) (out:List (List TRec)):Option ((List (List TRec))×Int) :=
 some (out,0)
abbrev byv (v:aj9) (out_2:List (List TRec)) (n_:Int):S:=stB [(1,.box 9007 0),(7,.own 9008 [.slice 87] 0 out_2.length),(8,.c (.int .i64) (.int n_))] [(9007,.box [.c .str (.str v.Serial),.c (.int .i64) (.int v.Cyls),.c (.int .i64) (.int v.Heads),.c (.int .i64) (.int v.Size),.c (.slice 41) (.slice (List.map aj4 v.Sets))]),(9008,.row 84 (List.map aq3 out_2))]
def bjt (n:Nat) (v:aj9) (out_2:List (List TRec)) (n_:Int):Option (((List (List TRec))×Int) ⊕ (((List (List TRec))))) :=
 some (.inl (out_2,(jc .i64 (n_+1))))
abbrev cqk (v:aj9) (out_1:List (List TRec)) (n_:Int) (t:List TRec):S:=stB [(1,.box 9009 0),(7,.own 9010 [.slice 87] 0 out_1.length),(8,.c (.int .i64) (.int n_)),(9,.own 9011 [.int .i64,.slice 5,.slice 5,.bool] 0 t.length)] [(9009,.box [.c .str (.str v.Serial),.c (.int .i64) (.int v.Cyls),.c (.int .i64) (.int v.Heads),.c (.int .i64) (.int v.Size),.c (.slice 41) (.slice (List.map aj4 v.Sets))]),(9010,.row 84 (List.map aq3 out_1)),(9011,.row 87 (List.map aqm t))]
def bq6 (n:Nat) (v:aj9) (out_1:List (List TRec)) (n_:Int) (t:List TRec):Option (((List (List TRec))×Int) ⊕ (((List (List TRec))))) :=
 gd ((out_1.length+1)≤2147483648) <|
 bjt n v (out_1 ++ [t]) n_
abbrev byq (v:aj9) (out_1:List (List TRec)) (n_:Int) (t_1:List TRec) (k:Int):S:=stB [(1,.box 9017 0),(7,.own 9018 [.slice 87] 0 out_1.length),(8,.c (.int .i64) (.int n_)),(9,.own 9019 [.int .i64,.slice 5,.slice 5,.bool] 0 t_1.length),(10,.c (.int .i64) (.int k))] [(9017,.box [.c .str (.str v.Serial),.c (.int .i64) (.int v.Cyls),.c (.int .i64) (.int v.Heads),.c (.int .i64) (.int v.Size),.c (.slice 41) (.slice (List.map aj4 v.Sets))]),(9018,.row 84 (List.map aq3 out_1)),(9019,.row 87 (List.map aqm t_1))]
def cqf (n:Nat) (v:aj9) (out_1:List (List TRec)) (n_:Int) (t_1:List TRec) (k:Int):Option (((List TRec)×Int) ⊕ (((List TRec)))) :=
 bif (if (decide (k < 14))=true then (decide ((jc .i64 ((jc .i64 (n_ * 14))+k)) < (v.Sets.length:Int))) else false) then
  gd ((0≤(jc .i64 ((jc .i64 (n_ * 14))+k))∧(jc .i64 ((jc .i64 (n_ * 14))+k)) < (v.Sets.length:Int))) <|
  (cq0 n (jc .i64 (k+1)) (gt v.Sets (Int.toNat (jc .i64 ((jc .i64 (n_ * 14))+k))))).bind fun r6 =>
  gd ((t_1.length+1)≤2147483648) <|
  some (.inl ((t_1 ++ [r6]),(jc .i64 (k+1))))
 else
  some (.inr t_1)
abbrev byj (v:aj9) (out_1:List (List TRec)) (n_:Int):S:=stB [(1,.box 9005 0),(7,.own 9006 [.slice 87] 0 out_1.length),(8,.c (.int .i64) (.int n_))] [(9005,.box [.c .str (.str v.Serial),.c (.int .i64) (.int v.Cyls),.c (.int .i64) (.int v.Heads),.c (.int .i64) (.int v.Size),.c (.slice 41) (.slice (List.map aj4 v.Sets))]),(9006,.row 84 (List.map aq3 out_1))]
def cjy (n:Nat) (v:aj9) (out_1:List (List TRec)) (n_:Int):Option (((List (List TRec))×Int) ⊕ (((List (List TRec))))) :=
 bif (decide (n_ < v.Size)) then
  (aql (fun (x:(List TRec)×Int)=>cqf n v out_1 n_ x.1 x.2) n ([],0)).bind fun y20 =>
  bq6 n v out_1 n_ y20
 else
  some (.inr out_1)
abbrev cj1 (v:aj9) (b:List Int):S:=stB [(1,.box 9000 0),(4,.own 9001 [.int .u8] 0 b.length)] [(9000,.box [.c .str (.str v.Serial),.c (.int .i64) (.int v.Cyls),.c (.int .i64) (.int v.Heads),.c (.int .i64) (.int v.Size),.c (.slice 41) (.slice (List.map aj4 v.Sets))]),(9001,.row 5 (List.map ajw b))]
def bju (n:Nat) (v:aj9) (b:List Int):Option ((List (List TRec))×Int) :=
 (ayk n [] 64).bind fun r4 =>
 gd ((b.length+r4.length)≤2147483648) <|
 (ayk n [86,79,76,49] 4).bind fun r5 =>
 (aql (fun (x:(List (List TRec))×Int)=>cjy n v x.1 x.2) n ([[(⟨3,r5,(b ++ r4),false⟩:TRec)]],0)).bind fun y13 =>
 bq7 n y13
abbrev bys (v:aj9) (l:List Int) (b_1:List Int) (k_1:Int):S:=stB [(1,.box 9023 0),(4,.own 9024 [.int .u8] 0 b_1.length),(5,.own 9025 [.int .i64] 0 l.length),(6,.c (.int .i64) (.int k_1))] [(9023,.box [.c .str (.str v.Serial),.c (.int .i64) (.int v.Cyls),.c (.int .i64) (.int v.Heads),.c (.int .i64) (.int v.Size),.c (.slice 41) (.slice (List.map aj4 v.Sets))]),(9024,.row 5 (List.map ajw b_1)),(9025,.row 3 (List.map ajw l))]
def cq5 (n:Nat) (v:aj9) (l:List Int) (b_1:List Int) (k_1:Int):Option (((List Int)×Int) ⊕ (((List Int)))) :=
 bif (decide (k_1 < 3)) then
  gd ((0≤k_1∧k_1 < (l.length:Int))∧(Int.toNat k_1) < l.length) <|
  (bjp n (gt l (Int.toNat k_1))).bind fun r7 =>
  gd ((b_1.length+r7.length)≤2147483648) <|
  some (.inl ((b_1 ++ r7),(jc .i64 (k_1+1))))
 else
  some (.inr b_1)
def cjn (n:Nat) (v:aj9):Option ((List (List TRec))×Int) :=
 (bqp n v).bind fun r1 =>
 bif (!r1) then
  some ([],5)
 else
  (ayk n [86,79,76,49] 4).bind fun r2 =>
  (ayk n v.Serial 6).bind fun r3 =>
  gd ((r2.length+r3.length)≤2147483648) <|
  (aql (fun (x:(List Int)×Int)=>cq5 n v [v.Cyls,v.Heads,v.Size] x.1 x.2) n ((r2 ++ r3),0)).bind fun y29 =>
  bju n v y29
def djv (n:Nat):Go.AE.Fn:=mkFn (A:=aj9) (R:=(List (List TRec))×Int) 29 [(true,[.str,.int .i64,.int .i64,.int .i64,.slice 41])] true (fun xs=>(⟨(cg (xs.getD 0 []) 0).toStr,(cg (xs.getD 0 []) 1).toInt,(cg (xs.getD 0 []) 2).toInt,(cg (xs.getD 0 []) 3).toInt,((cg (xs.getD 0 []) 4).toSl.map aqi)⟩:aj9)) (fun a=>[[.str a.Serial,.int a.Cyls,.int a.Heads,.int a.Size,.slice (List.map aj4 a.Sets)]]) (fun a=>cjn n a) (fun r=>[.own 0 [.slice 87] 0 r.1.length,.c (.int .i64) (.int r.2)]) (fun r=>[.row 84 (List.map aq3 r.1)])
theorem ewh (n:Nat):aj1 jd (djv n):=by
 have hΓ:=g1 (byx n) (g1 (dzs n) (g1 (dzy n) (g1 (eqi n) (@g0 (aj1 jd)))))
 have qe:=aI @bwa.eq_1 (aI @ckb.eq_1 (aI @cka.eq_1 @cyj.eq_1))
 refine aj6 (Tryz.f29.body.getD .skip) h00 Tryz.func29 rfl Tryz.call29 (by decide) (by intro h;cases h) ?_
 rintro v r H
 try dsimp only at H
 unfold cjn at H
 simp only [Tryz.f29,jn]
 refine rA ?_
 refine jj fun K2 hK2=>?_
 obtain ⟨r1,hr1,H⟩:=bind_some H
 have q:=aI qe hr1
 refine rAq ?_
 refine cnd H (fun h4 H=>?_) (fun h4 H=>?_)
 ·refine rA ?_
  refine jp ?_
  refine lf ?_
  obtain rfl:=Option.some.inj H
  exact rto [none]
 refine jo ?_
 refine hK2 _ ?_
 obtain ⟨r2,hr2,H⟩:=bind_some H
 obtain ⟨r3,hr3,H⟩:=bind_some H
 obtain ⟨hg7,H⟩:=aj3 H
 refine sQ [0,1,2,3,4,5] [(none,[],[239,238,237,236,235,234,233,232,231,230,229,228,227,226,225,224]),(none,[16],[]),(none,[16],[]),(none,[],[287,286,285,284,283,282,281,280,279,278,277,276,275,274,273,272]),(none,[224,272],[288,224]),(none,[],[])] fun K6 hK6=>?_
 have q:=aI qe (aI hr2 hr3)
 iterate 6 refine oQq ?_
 refine bjh ?_
 refine hK6 _ ?_
 refine rA ?_
 refine jS (fun (x:(List Int))=>cj1 v x) (fun x=>bju n v x=some r) ?_ ?_
 ·refine rA ?_
  refine jr ?_
  obtain ⟨y29,hy29,Ho29⟩:=bind_some H
  refine jL _ (fun x=>bys v [v.Cyls,v.Heads,v.Size] x.1 x.2) hy29 (wb [some 16,some 288,some 400]) ?_
  rintro ⟨b_1,k_1⟩ z29 H
  try dsimp only at H
  unfold cq5 at H
  refine Sm.st (bys.eq_1 ..) ?_
  refine jj fun K30 hK30=>?_
  refine rA ?_
  refine cnd H (fun h32 H=>?_) (fun h32 H=>?_)
  ·refine jo ?_
   refine hK30 _ ?_
   refine jj fun K33 hK33=>?_
   refine jr ?_
   obtain ⟨⟨hg34,hg35⟩,H⟩:=aj3 H
   obtain ⟨r7,hr7,H⟩:=bind_some H
   obtain ⟨hg36,H⟩:=aj3 H
   have q:=aI qe hr7
   refine eAq ?_
   refine hK33 _ ?_
   refine eA ?_
   refine lf ?_
   exact nx H (wb [some 9023,some 576,some 9025])
  refine jR ?_
  refine lf ?_
  refine lx H fun hyy=>?_
  subst hyy
  have H:=Ho29
  try dsimp only at H
  refine lf ?_
  exact ⟨_,H,wb [some 9023,some 9024]⟩
 rintro b H
 try dsimp only at H
 unfold bju at H
 refine Sm.st (cj1.eq_1 ..) ?_
 obtain ⟨r4,hr4,H⟩:=bind_some H
 obtain ⟨hg27,H⟩:=aj3 H
 have q:=aI qe hr4
 refine rAq ?_
 obtain ⟨r5,hr5,H⟩:=bind_some H
 have q:=aI qe hr5
 refine rAq ?_
 refine jS (fun (x:(List (List TRec)))=>cqi x) (fun x=>bq7 n x=some r) ?_ ?_
 ·refine rA ?_
  refine jr ?_
  obtain ⟨y13,hy13,Ho13⟩:=bind_some H
  refine jL _ (fun x=>byj v x.1 x.2) hy13 (wb [some 9000,some 704]) ?_
  rintro ⟨out_1,n_⟩ z13 H
  try dsimp only at H
  unfold cjy at H
  refine Sm.st (byj.eq_1 ..) ?_
  refine jj fun K14 hK14=>?_
  refine rA ?_
  refine cnd H (fun h16 H=>?_) (fun h16 H=>?_)
  ·refine jo ?_
   refine hK14 _ ?_
   refine jS (fun (x:(List (List TRec)))=>byv v x n_) (fun x=>bjt n v x n_=some z13) ?_ ?_
   ·refine jr ?_
    refine rA ?_
    refine jS (fun (x:(List TRec))=>cqk v out_1 n_ x) (fun x=>bq6 n v out_1 n_ x=some z13) ?_ ?_
    ·refine rA ?_
     refine jr ?_
     obtain ⟨y20,hy20,Ho20⟩:=bind_some H
     refine jL _ (fun x=>byq v out_1 n_ x.1 x.2) hy20 (wb [some 9005,some 9006,none]) ?_
     rintro ⟨t_1,k⟩ z20 H
     try dsimp only at H
     unfold cqf at H
     refine Sm.st (byq.eq_1 ..) ?_
     refine jj fun K21 hK21=>?_
     refine rA ?_
     refine cnd H (fun h23 H=>?_) (fun h23 H=>?_)
     ·refine jo ?_
      refine hK21 _ ?_
      refine jj fun K24 hK24=>?_
      refine jr ?_
      obtain ⟨hg25,H⟩:=aj3 H
      obtain ⟨r6,hr6,H⟩:=bind_some H
      obtain ⟨hg26,H⟩:=aj3 H
      have q:=aI qe hr6
      refine eAq ?_
      refine hK24 _ ?_
      refine eA ?_
      refine lf ?_
      exact nx H (wb [some 9017,some 9018,some 1248])
     refine jR ?_
     refine lf ?_
     refine lx H fun hyy=>?_
     subst hyy
     have H:=Ho20
     try dsimp only at H
     refine lf ?_
     exact ⟨_,H,wb [some 9017,some 9018,some 9019]⟩
    rintro t H
    try dsimp only at H
    unfold bq6 at H
    refine Sm.st (cqk.eq_1 ..) ?_
    obtain ⟨hg18,H⟩:=aj3 H
    refine eA ?_
    refine lf ?_
    exact ⟨_,H,wb [some 9009,some 1312]⟩
   rintro out_2 H
   try dsimp only at H
   unfold bjt at H
   refine Sm.st (byv.eq_1 ..) ?_
   refine eA ?_
   refine lf ?_
   exact nx H (wb [some 9007,some 9008])
  refine jR ?_
  refine lf ?_
  refine lx H fun hyy=>?_
  subst hyy
  have H:=Ho13
  try dsimp only at H
  refine lf ?_
  exact ⟨_,H,wb [some 9006]⟩
 rintro out H
 try dsimp only at H
 unfold bq7 at H
 refine Sm.st (cqi.eq_1 ..) ?_
 refine rA ?_
 refine jp ?_
 refine lf ?_
 obtain rfl:=Option.some.inj H
 exact rto [some 9002]
def bkm (n:Nat) (a:TRec) (b:TRec):Option Bool :=
 bif (if (a.R == b.R)=true then (a.Bad == b.Bad) else false) then
  gd ((if (a.R == b.R)=true then (a.Bad == b.Bad) else false)=true) <|
  bif ((bje a.Key) == (bje b.Key)) then
   gd (((bje a.Key) == (bje b.Key))=true) <|
   some ((bje a.Data) == (bje b.Data))
  else
   some false
 else
  some false
def ck1 (n:Nat):Go.AE.Fn:=mkFn (A:=TRec×TRec) (R:=Bool) 129 [(true,[.int .i64,.slice 5,.slice 5,.bool]),(true,[.int .i64,.slice 5,.slice 5,.bool])] false (fun xs=>((⟨(cg (xs.getD 0 []) 0).toInt,((cg (xs.getD 0 []) 1).toSl.map dyq),((cg (xs.getD 0 []) 2).toSl.map dyq),(cg (xs.getD 0 []) 3).toBool⟩:TRec),(⟨(cg (xs.getD 1 []) 0).toInt,((cg (xs.getD 1 []) 1).toSl.map dyq),((cg (xs.getD 1 []) 2).toSl.map dyq),(cg (xs.getD 1 []) 3).toBool⟩:TRec))) (fun a=>[[.int a.1.R,.slice (List.map ajw a.1.Key),.slice (List.map ajw a.1.Data),.bool a.1.Bad],[.int a.2.R,.slice (List.map ajw a.2.Key),.slice (List.map ajw a.2.Data),.bool a.2.Bad]]) (fun a=>bkm n a.1 a.2) (fun r=>[.c .bool (.bool r)]) (fun r=>[])
theorem ej3 (n:Nat):aj1 jd (ck1 n):=by
 have hΓ:=@g0 (aj1 jd)
 refine aj6 (Tryz.f129.body.getD .skip) h00 Tryz.func129 rfl Tryz.call129 (by decide) (by intro _ r;exact ⟨rfl,by simp⟩) ?_
 rintro ⟨a,b⟩ r H
 try dsimp only at H
 unfold bkm at H
 simp only [Tryz.f129,jn]
 refine rA ?_
 refine sX fun K2 hK2=>?_
 iterate 15 refine oX ?_
 refine azn H (fun hs3 H=>?_) (fun hs3 H=>?_)
 ·obtain ⟨hg4,H⟩:=aj3 H
  have q:=hs3
  refine oTE aqw ?_
  refine oTG ?_
  refine oTG ?_
  refine oTE aqw ?_
  refine oTG ?_
  refine oPl ?_
  iterate 3 refine oXq ?_
  refine azn H (fun hs5 H=>?_) (fun hs5 H=>?_)
  ·try simp only [z,seval,hs3] at hs5
   obtain ⟨hg6,H⟩:=aj3 H
   have q:=aI hs3 hs5
   refine oTE aqw ?_
   refine oTG ?_
   refine oTG ?_
   refine oTE aqw ?_
   refine oTG ?_
   refine oPl ?_
   refine oXq ?_
   refine hK2 _ ?_
   refine jp ?_
   refine lf ?_
   obtain rfl:=Option.some.inj H
   exact rt []
  try simp only [z,seval,hs3] at hs5
  have q:=aI hs3 hs5
  refine oFq ?_
  refine oFq ?_
  refine oFq ?_
  refine oFq ?_
  refine oFq ?_
  refine oPr ?_
  refine oXq ?_
  refine hK2 _ ?_
  refine jp ?_
  refine lf ?_
  obtain rfl:=Option.some.inj H
  exact rt []
 have q:=hs3
 refine oFq ?_
 refine oFq ?_
 refine oFq ?_
 refine oFq ?_
 refine oFq ?_
 refine oPr ?_
 refine oXq ?_
 refine oFq ?_
 refine oFq ?_
 refine oFq ?_
 refine oFq ?_
 refine oFq ?_
 refine oFq ?_
 refine oFq ?_
 refine oPr ?_
 refine oXq ?_
 refine hK2 _ ?_
 refine jp ?_
 refine lf ?_
 obtain rfl:=Option.some.inj H
 exact rt []
abbrev cyr:S:=stB [] []
def bk1 (n:Nat):Option Bool :=
 some true
abbrev cyx (a:List TRec) (b:List TRec) (i:Int):S:=stB [(0,.c (.slice 87) (.slice (List.map aqm a))),(1,.c (.slice 87) (.slice (List.map aqm b))),(5,.c (.int .i64) (.int i))] []
def djx (n:Nat) (a:List TRec) (b:List TRec) (i:Int):Option ((Int) ⊕ (((Bool) ⊕ (Unit)))) :=
 bif (decide (i < (a.length:Int))) then
  gd ((0≤i∧i < (a.length:Int))∧(0≤i∧i < (b.length:Int))) <|
  (bkm n (gt a (Int.toNat i)) (gt b (Int.toNat i))).bind fun r1 =>
  bif (!r1) then
   some (.inr (.inl false))
  else
   some (.inl (jc .i64 (i+1)))
 else
  some (.inr (.inr ()))
def dqo (n:Nat) (a:List TRec) (b:List TRec):Option Bool :=
 bif ((a.length:Int) != (b.length:Int)) then
  some false
 else
  (aql (fun (x:Int)=>djx n a b x) n 0).bind fun y8 =>
  match y8 with
  | .inl vv =>
   some vv
  | .inr vv =>
   bk1 n
def dy6 (n:Nat):Go.AE.Fn:=mkFn (A:=(List TRec)×(List TRec)) (R:=Bool) 75 [(false,[.slice 87]),(false,[.slice 87])] false (fun xs=>(((cg (xs.getD 0 []) 0).toSl.map dyo),((cg (xs.getD 1 []) 0).toSl.map dyo))) (fun a=>[[.slice (List.map aqm a.1)],[.slice (List.map aqm a.2)]]) (fun a=>dqo n a.1 a.2) (fun r=>[.c .bool (.bool r)]) (fun r=>[])
theorem fj1 (n:Nat):aj1 jd (dy6 n):=by
 have hΓ:=g1 (ej3 n) (@g0 (aj1 jd))
 refine aj6 (Tryz.f75.body.getD .skip) h00 Tryz.func75 rfl Tryz.call75 (by decide) (by intro _ r;exact ⟨rfl,by simp⟩) ?_
 rintro ⟨a,b⟩ r H
 try dsimp only at H
 unfold dqo at H
 simp only [Tryz.f75,jn]
 refine rA ?_
 refine jj fun K2 hK2=>?_
 refine rA ?_
 refine cnd H (fun h4 H=>?_) (fun h4 H=>?_)
 ·refine rA ?_
  refine jp ?_
  refine lf ?_
  obtain rfl:=Option.some.inj H
  exact rt []
 refine jo ?_
 refine hK2 _ ?_
 refine jS (fun (x:Unit)=>cyr) (fun x=>bk1 n=some r) ?_ ?_
 ·refine rA ?_
  refine jr ?_
  obtain ⟨y8,hy8,Ho8⟩:=bind_some H
  refine jL _ (fun x=>cyx a b x) hy8 (wb []) ?_
  rintro i z8 H
  try dsimp only at H
  unfold djx at H
  refine Sm.st (cyx.eq_1 ..) ?_
  refine jj fun K9 hK9=>?_
  refine rA ?_
  refine cnd H (fun h11 H=>?_) (fun h11 H=>?_)
  ·refine jo ?_
   refine hK9 _ ?_
   refine jj fun K12 hK12=>?_
   refine jr ?_
   obtain ⟨⟨hg16,hg17⟩,H⟩:=aj3 H
   obtain ⟨r1,hr1,H⟩:=bind_some H
   have q:=aI @ck1.eq_1 hr1
   refine rDq ?_
   refine cnd H (fun h14 H=>?_) (fun h14 H=>?_)
   ·refine rA ?_
    refine jp ?_
    refine lf ?_
    refine lx H fun hyy=>?_
    subst hyy
    have H:=Ho8
    try dsimp only at H
    refine lf ?_
    obtain rfl:=Option.some.inj H
    exact rt []
   refine jo ?_
   refine hK12 _ ?_
   refine eA ?_
   refine lf ?_
   exact nx H (wb [])
  refine jR ?_
  refine lf ?_
  refine lx H fun hyy=>?_
  subst hyy
  have H:=Ho8
  try dsimp only at H
  refine lf ?_
  exact ⟨(),H,wb []⟩
 rintro ⟨⟩ H
 try dsimp only at H
 unfold bk1 at H
 refine Sm.st (cyr.eq_1 ..) ?_
 refine rA ?_
 refine jp ?_
 refine lf ?_
 obtain rfl:=Option.some.inj H
 exact rt []
abbrev bqn:S:=stB [] []
def akh (n:Nat):Option Bool :=
 some true
abbrev bjs (a:List (List TRec)) (b:List (List TRec)) (i:Int):S:=stB [(0,.c (.slice 84) (.slice (List.map aq3 a))),(1,.c (.slice 84) (.slice (List.map aq3 b))),(5,.c (.int .i64) (.int i))] []
def bq5 (n:Nat) (a:List (List TRec)) (b:List (List TRec)) (i:Int):Option ((Int) ⊕ (((Bool) ⊕ (Unit)))) :=
 bif (decide (i < (a.length:Int))) then
  gd ((0≤i∧i < (a.length:Int))∧(0≤i∧i < (b.length:Int))) <|
  (dqo n (gt a (Int.toNat i)) (gt b (Int.toNat i))).bind fun r1 =>
  bif (!r1) then
   some (.inr (.inl false))
  else
   some (.inl (jc .i64 (i+1)))
 else
  some (.inr (.inr ()))
def bja (n:Nat) (a:List (List TRec)) (b:List (List TRec)):Option Bool :=
 bif ((a.length:Int) != (b.length:Int)) then
  some false
 else
  (aql (fun (x:Int)=>bq5 n a b x) n 0).bind fun y8 =>
  match y8 with
  | .inl vv =>
   some vv
  | .inr vv =>
   akh n
def bzm (n:Nat):Go.AE.Fn:=mkFn (A:=(List (List TRec))×(List (List TRec))) (R:=Bool) 32 [(false,[.slice 84]),(false,[.slice 84])] false (fun xs=>(((cg (xs.getD 0 []) 0).toSl.map dqs),((cg (xs.getD 1 []) 0).toSl.map dqs))) (fun a=>[[.slice (List.map aq3 a.1)],[.slice (List.map aq3 a.2)]]) (fun a=>bja n a.1 a.2) (fun r=>[.c .bool (.bool r)]) (fun r=>[])
theorem dq6 (n:Nat):aj1 jd (bzm n):=by
 have hΓ:=g1 (fj1 n) (@g0 (aj1 jd))
 refine aj6 (Tryz.f32.body.getD .skip) h00 Tryz.func32 rfl Tryz.call32 (by decide) (by intro _ r;exact ⟨rfl,by simp⟩) ?_
 rintro ⟨a,b⟩ r H
 try dsimp only at H
 unfold bja at H
 simp only [Tryz.f32,jn]
 refine rA ?_
 refine jj fun K2 hK2=>?_
 refine rA ?_
 refine cnd H (fun h4 H=>?_) (fun h4 H=>?_)
 ·refine rA ?_
  refine jp ?_
  refine lf ?_
  obtain rfl:=Option.some.inj H
  exact rt []
 refine jo ?_
 refine hK2 _ ?_
 refine jS (fun (x:Unit)=>bqn) (fun x=>akh n=some r) ?_ ?_
 ·refine rA ?_
  refine jr ?_
  obtain ⟨y8,hy8,Ho8⟩:=bind_some H
  refine jL _ (fun x=>bjs a b x) hy8 (wb []) ?_
  rintro i z8 H
  try dsimp only at H
  unfold bq5 at H
  refine Sm.st (bjs.eq_1 ..) ?_
  refine jj fun K9 hK9=>?_
  refine rA ?_
  refine cnd H (fun h11 H=>?_) (fun h11 H=>?_)
  ·refine jo ?_
   refine hK9 _ ?_
   refine jj fun K12 hK12=>?_
   refine jr ?_
   obtain ⟨⟨hg16,hg17⟩,H⟩:=aj3 H
   obtain ⟨r1,hr1,H⟩:=bind_some H
   have q:=aI @dy6.eq_1 hr1
   refine rDq ?_
   refine cnd H (fun h14 H=>?_) (fun h14 H=>?_)
   ·refine rA ?_
    refine jp ?_
    refine lf ?_
    refine lx H fun hyy=>?_
    subst hyy
    have H:=Ho8
    try dsimp only at H
    refine lf ?_
    obtain rfl:=Option.some.inj H
    exact rt []
   refine jo ?_
   refine hK12 _ ?_
   refine eA ?_
   refine lf ?_
   exact nx H (wb [])
  refine jR ?_
  refine lf ?_
  refine lx H fun hyy=>?_
  subst hyy
  have H:=Ho8
  try dsimp only at H
  refine lf ?_
  exact ⟨(),H,wb []⟩
 rintro ⟨⟩ H
 try dsimp only at H
 unfold akh at H
 refine Sm.st (bqn.eq_1 ..) ?_
 refine rA ?_
 refine jp ?_
 refine lf ?_
 obtain rfl:=Option.some.inj H
 exact rt []
abbrev dwy (v2:List Bool) (out:List Bool):S:=stB [(2,.elt 9000 1 [.bool] 0 0),(3,.elt 9001 1 [.bool] 0 0)] [(9000,.row 4 (List.map awx v2)),(9001,.row 4 (List.map awx out))]
def cq9 (n:Nat) (v2:List Bool) (out:List Bool):Option (List Bool) :=
 gd (out.length=512∧v2.length=512) <|
 gd (out.length=512) <|
 some out
abbrev dww (v2_1:List Bool) (t:List Int) (out_1:List Bool) (i:Int):S:=stB [(2,.elt 9005 1 [.bool] 0 0),(3,.elt 9006 1 [.bool] 0 0),(4,.own 9007 [.int .i64] 0 t.length),(6,.c (.int .i64) (.int i))] [(9005,.row 4 (List.map awx v2_1)),(9006,.row 4 (List.map awx out_1)),(9007,.row 3 (List.map ajw t))]
def dw3 (n:Nat) (v2_1:List Bool) (t:List Int) (out_1:List Bool) (i:Int):Option (((List Bool)×Int) ⊕ (((List Bool)))) :=
 bif (decide (i < ((t.length:Nat):Int))) then
  gd ((0≤i∧i < (t.length:Int))∧(Int.toNat i) < t.length∧(0≤(gt t (Int.toNat i))∧(gt t (Int.toNat i)) < 512∧out_1.length=512)∧(Int.toNat (gt t (Int.toNat i))) < out_1.length) <|
  some (.inl ((List.set out_1 (Int.toNat (gt t (Int.toNat i))) true),(jc .i64 (i+1))))
 else
  some (.inr out_1)
def dym (n:Nat) (l:List aj0):Option (List Bool) :=
 (ayy n l).bind fun r1 =>
 (aql (fun (x:(List Bool)×Int)=>dw3 n (aqt 512 false) r1.1 x.1 x.2) n ((aqt 512 false),0)).bind fun y8 =>
 cq9 n (aqt 512 false) y8
def ejt (n:Nat):Go.AE.Fn:=mkFn (A:=(List aj0)) (R:=(List Bool)) 130 [(false,[.slice 80])] true (fun xs=>((cg (xs.getD 0 []) 0).toSl.map aji)) (fun a=>[[.slice (List.map aj2 a)]]) (fun a=>dym n a) (fun r=>[.c (.arr 159) (.slice (List.map awx r))]) (fun r=>[])
theorem fwz (n:Nat):aj1 jd (ejt n):=by
 have hΓ:=g1 (bzp n) (@g0 (aj1 jd))
 refine aj6 (Tryz.f130.body.getD .skip) h00 Tryz.func130 rfl Tryz.call130 (by decide) (by intro h;cases h) ?_
 rintro l r H
 try dsimp only at H
 unfold dym at H
 simp only [Tryz.f130,jn]
 refine sX fun K1 hK1=>?_
 refine oY ?_
 refine hK1 _ ?_
 refine sX fun K2 hK2=>?_
 refine oY ?_
 refine hK2 _ ?_
 obtain ⟨r1,hr1,H⟩:=bind_some H
 have q:=aI @bjf.eq_1 hr1
 refine rAq ?_
 refine jS (fun (x:(List Bool)×(List Bool))=>dwy x.1 x.2) (fun x=>cq9 n x.1 x.2=some r) ?_ ?_
 ·refine rA ?_
  refine jr ?_
  obtain ⟨y8,hy8,Ho8⟩:=bind_some H
  refine jL _ (fun x=>dww (aqt 512 false) r1.1 x.1 x.2) hy8 (wb [some 32,some 48,some 144]) ?_
  rintro ⟨out_1,i⟩ z8 H
  try dsimp only at H
  unfold dw3 at H
  refine Sm.st (dww.eq_1 ..) ?_
  refine jj fun K9 hK9=>?_
  refine rA ?_
  refine cnd H (fun h11 H=>?_) (fun h11 H=>?_)
  ·refine jo ?_
   refine hK9 _ ?_
   refine jj fun K12 hK12=>?_
   refine jr ?_
   obtain ⟨⟨hg13,hg14,hg15,hg16⟩,H⟩:=aj3 H
   refine eA ?_
   refine hK12 _ ?_
   refine eA ?_
   refine lf ?_
   exact nx H (wb [some 9005,some 9006,some 9007])
  refine jR ?_
  refine lf ?_
  refine lx H fun hyy=>?_
  subst hyy
  have H:=Ho8
  try dsimp only at H
  refine lf ?_
  exact ⟨((aqt 512 false),out_1),H,wb [some 9005,some 9006]⟩
 rintro ⟨v2,out⟩ H
 try dsimp only at H
 unfold cq9 at H
 refine Sm.st (dwy.eq_1 ..) ?_
 refine sX fun K4 hK4=>?_
 obtain ⟨⟨hg5,hg6⟩,H⟩:=aj3 H
 iterate 2 refine oY ?_
 refine hK4 _ ?_
 refine jp ?_
 refine lf ?_
 obtain ⟨hga,H⟩:=aj3 H
 obtain rfl:=Option.some.inj H
 refine Ret.ofR [] (.inr rfl) ?_
 simp only [z,seval]
 (repeat (first | refine gcI ?_ | trivial));try trivial
abbrev cqj (out:List aj0):S:=stB [(3,.own 9000 [.int .i64,.int .i64] 0 out.length)] [(9000,.row 80 (List.map aj2 out))]
def bjw (n:Nat) (out:List aj0):Option (List aj0) :=
 some out
abbrev cqp (in_:List Bool) (out_2:List aj0) (k:Int):S:=stB [(1,.elt 9006 1 [.bool] 0 0),(3,.own 9007 [.int .i64,.int .i64] 0 out_2.length),(4,.c (.int .i64) (.int k))] [(9006,.row 4 (List.map awx in_)),(9007,.row 80 (List.map aj2 out_2))]
def azg (n:Nat) (in_:List Bool) (out_2:List aj0) (k:Int):Option (((List aj0)×Int) ⊕ (((List aj0)))) :=
 some (.inl (out_2,(jc .i64 (k+1))))
abbrev bye (in_:List Bool) (out_1:List aj0) (k:Int):S:=stB [(1,.elt 9004 1 [.bool] 0 0),(3,.own 9005 [.int .i64,.int .i64] 0 out_1.length),(4,.c (.int .i64) (.int k))] [(9004,.row 4 (List.map awx in_)),(9005,.row 80 (List.map aj2 out_1))]
def cj7 (n:Nat) (in_:List Bool) (out_1:List aj0) (k:Int):Option (((List aj0)×Int) ⊕ (((List aj0)))) :=
 bif (decide (k < 512)) then
  gd ((0≤k∧k < 512∧in_.length=512)∧(Int.toNat k) < in_.length) <|
  bif (!(gt in_ (Int.toNat k))) then
   azg n in_ out_1 k
  else
   gd (((decide (((out_1.length:Nat):Int) > 0))=true→(0≤(jc .i64 (((out_1.length:Nat):Int) - 1))∧(jc .i64 (((out_1.length:Nat):Int) - 1)) < (out_1.length:Int)))∧((decide (((out_1.length:Nat):Int) > 0))=true→(Int.toNat (jc .i64 (((out_1.length:Nat):Int) - 1))) < out_1.length)∧((decide (((out_1.length:Nat):Int) > 0))=true→(0≤(jc .i64 (((out_1.length:Nat):Int) - 1))∧(jc .i64 (((out_1.length:Nat):Int) - 1)) < (out_1.length:Int)))∧((decide (((out_1.length:Nat):Int) > 0))=true→(Int.toNat (jc .i64 (((out_1.length:Nat):Int) - 1))) < out_1.length)) <|
   bif (if (decide (((out_1.length:Nat):Int) > 0))=true then ((jc .i64 (((gt out_1 (Int.toNat (jc .i64 (((out_1.length:Nat):Int) - 1)))).At)+((gt out_1 (Int.toNat (jc .i64 (((out_1.length:Nat):Int) - 1)))).Len))) == k) else false) then
    gd ((0≤(jc .i64 (((out_1.length:Nat):Int) - 1))∧(jc .i64 (((out_1.length:Nat):Int) - 1)) < (out_1.length:Int))∧(Int.toNat (jc .i64 (((out_1.length:Nat):Int) - 1))) < out_1.length∧(0≤(jc .i64 (((out_1.length:Nat):Int) - 1))∧(jc .i64 (((out_1.length:Nat):Int) - 1)) < (out_1.length:Int))∧(Int.toNat (jc .i64 (((out_1.length:Nat):Int) - 1))) < out_1.length) <|
    azg n in_ (List.set out_1 (Int.toNat (jc .i64 (((out_1.length:Nat):Int) - 1))) (⟨(gt out_1 (Int.toNat (jc .i64 (((out_1.length:Nat):Int) - 1)))).At,(jc .i64 (((gt out_1 (Int.toNat (jc .i64 (((out_1.length:Nat):Int) - 1)))).Len)+1))⟩:aj0)) k
   else
    gd ((out_1.length+1)≤2147483648) <|
    azg n in_ (out_1 ++ [(⟨k,1⟩:aj0)]) k
 else
  some (.inr out_1)
def bym (n:Nat) (in_:List Bool):Option (List aj0) :=
 (aql (fun (x:(List aj0)×Int)=>cj7 n in_ x.1 x.2) n ([],0)).bind fun y5 =>
 bjw n y5
def dja (n:Nat):Go.AE.Fn:=mkFn (A:=(List Bool)) (R:=(List aj0)) 131 [(false,[.arr 159])] false (fun xs=>((cg (xs.getD 0 []) 0).toSl.map ek6)) (fun a=>[[.slice (List.map awx a)]]) (fun a=>bym n a) (fun r=>[.own 0 [.int .i64,.int .i64] 0 r.length]) (fun r=>[.row 80 (List.map aj2 r)])
theorem eqr (n:Nat):aj1 jd (dja n):=by
 have hΓ:=@g0 (aj1 jd)
 refine aj6 (Tryz.f131.body.getD .skip) h00 Tryz.func131 rfl Tryz.call131 (by decide) (fun _ r=>⟨rfl,m1 ⟨80,_,_,rfl,ty80,rfl⟩ m0⟩) ?_
 rintro in_ r H
 try dsimp only at H
 unfold bym at H
 simp only [Tryz.f131,jn]
 refine sX fun K1 hK1=>?_
 refine oY ?_
 refine oX ?_
 refine hK1 _ ?_
 refine rA ?_
 refine jS (fun (x:(List aj0))=>cqj x) (fun x=>bjw n x=some r) ?_ ?_
 ·refine rA ?_
  refine jr ?_
  obtain ⟨y5,hy5,Ho5⟩:=bind_some H
  refine jL _ (fun x=>bye in_ x.1 x.2) hy5 (wb [some 16,none]) ?_
  rintro ⟨out_1,k⟩ z5 H
  try dsimp only at H
  unfold cj7 at H
  refine Sm.st (bye.eq_1 ..) ?_
  refine jj fun K6 hK6=>?_
  refine rA ?_
  refine cnd H (fun h8 H=>?_) (fun h8 H=>?_)
  ·refine jo ?_
   refine hK6 _ ?_
   refine jS (fun (x:(List aj0))=>cqp in_ x k) (fun x=>azg n in_ x k=some z5) ?_ ?_
   ·refine jr ?_
    refine jj fun K9 hK9=>?_
    obtain ⟨⟨hg24,hg25⟩,H⟩:=aj3 H
    refine rA ?_
    refine cnd H (fun h11 H=>?_) (fun h11 H=>?_)
    ·refine jR ?_
     refine lf ?_
     exact ⟨_,H,wb [some 9004,some 9005]⟩
    refine jo ?_
    refine hK9 _ ?_
    refine rA ?_
    obtain ⟨⟨hg20,hg21,hg22,hg23⟩,H⟩:=aj3 H
    refine rD ?_
    refine cnd H (fun h14 H=>?_) (fun h14 H=>?_)
    ·obtain ⟨⟨hg15,hg16,hg17,hg18⟩,H⟩:=aj3 H
     refine eA ?_
     refine lf ?_
     exact ⟨_,H,wb [some 9004,some 9005]⟩
    obtain ⟨hg19,H⟩:=aj3 H
    refine eA ?_
    refine lf ?_
    exact ⟨_,H,wb [some 9004,some 768]⟩
   rintro out_2 H
   try dsimp only at H
   unfold azg at H
   refine Sm.st (cqp.eq_1 ..) ?_
   refine eA ?_
   refine lf ?_
   exact nx H (wb [some 9006,some 9007])
  refine jR ?_
  refine lf ?_
  refine lx H fun hyy=>?_
  subst hyy
  have H:=Ho5
  try dsimp only at H
  refine lf ?_
  exact ⟨_,H,wb [some 9005]⟩
 rintro out H
 try dsimp only at H
 unfold bjw at H
 refine Sm.st (cqj.eq_1 ..) ?_
 refine rA ?_
 refine jp ?_
 refine lf ?_
 obtain rfl:=Option.some.inj H
 exact rto [some 9000]
abbrev dj5 (out:List Bool):S:=stB [(6,.elt 9000 1 [.bool] 0 0)] [(9000,.row 4 (List.map awx out))]
def bkd (n:Nat) (out:List Bool):Option (List aj0) :=
 gd (out.length=512) <|
 (bym n out).bind fun r3 =>
 some r3
abbrev djm (n_:Int) (in_:List Bool) (out_1:List Bool) (k:Int):S:=stB [(1,.c (.int .i64) (.int n_)),(5,.elt 9003 1 [.bool] 0 0),(6,.elt 9004 1 [.bool] 0 0),(7,.c (.int .i64) (.int k))] [(9003,.row 4 (List.map awx in_)),(9004,.row 4 (List.map awx out_1))]
def djc (n:Nat) (n_:Int) (in_:List Bool) (out_1:List Bool) (k:Int):Option (((List Bool)×Int) ⊕ (((List Bool)))) :=
 bif (decide (k < n_)) then
  gd ((0≤k∧k < 512∧in_.length=512)∧(Int.toNat k) < in_.length∧(0≤k∧k < 512∧out_1.length=512)∧(Int.toNat k) < out_1.length) <|
  some (.inl ((List.set out_1 (Int.toNat k) (!(gt in_ (Int.toNat k)))),(jc .i64 (k+1))))
 else
  some (.inr out_1)
def dqk (n:Nat) (used:List aj0) (n_:Int):Option (List aj0) :=
 (azm n used).bind fun r1 =>
 bif (if (if (!r1)=true then true else (decide (n_ < 0)))=true then true else (decide (n_ > 512))) then
  some []
 else
  (dym n used).bind fun r2 =>
  gd (512=512) <|
  (aql (fun (x:(List Bool)×Int)=>djc n n_ r2 x.1 x.2) n ((aqt 512 false),0)).bind fun y12 =>
  bkd n y12
def dkn (n:Nat):Go.AE.Fn:=mkFn (A:=(List aj0)×Int) (R:=(List aj0)) 77 [(false,[.slice 80]),(false,[.int .i64])] false (fun xs=>(((cg (xs.getD 0 []) 0).toSl.map aji),(cg (xs.getD 1 []) 0).toInt)) (fun a=>[[.slice (List.map aj2 a.1)],[.int a.2]]) (fun a=>dqk n a.1 a.2) (fun r=>[.own 0 [.int .i64,.int .i64] 0 r.length]) (fun r=>[.row 80 (List.map aj2 r)])
theorem eya (n:Nat):aj1 jd (dkn n):=by
 have hΓ:=g1 (cj0 n) (g1 (fwz n) (g1 (eqr n) (@g0 (aj1 jd))))
 have qe:=aI @bqu.eq_1 (aI @ejt.eq_1 @dja.eq_1)
 refine aj6 (Tryz.f77.body.getD .skip) h00 Tryz.func77 rfl Tryz.call77 (by decide) (fun _ r=>⟨rfl,m1 ⟨80,_,_,rfl,ty80,rfl⟩ m0⟩) ?_
 rintro ⟨used,n_⟩ r H
 try dsimp only at H
 unfold dqk at H
 simp only [Tryz.f77,jn]
 refine rA ?_
 refine jj fun K2 hK2=>?_
 obtain ⟨r1,hr1,H⟩:=bind_some H
 have q:=aI qe hr1
 refine rAq ?_
 refine cnd H (fun h4 H=>?_) (fun h4 H=>?_)
 ·refine rA ?_
  refine jp ?_
  refine lf ?_
  obtain rfl:=Option.some.inj H
  exact rto [none]
 refine jo ?_
 refine hK2 _ ?_
 refine sX fun K6 hK6=>?_
 obtain ⟨r2,hr2,H⟩:=bind_some H
 obtain ⟨hg7,H⟩:=aj3 H
 have q:=aI qe hr2
 iterate 2 refine oXq ?_
 iterate 2 refine oYq ?_
 refine hK6 _ ?_
 refine sX fun K8 hK8=>?_
 refine oY ?_
 refine hK8 _ ?_
 refine jS (fun (x:(List Bool))=>dj5 x) (fun x=>bkd n x=some r) ?_ ?_
 ·refine rA ?_
  refine jr ?_
  obtain ⟨y12,hy12,Ho12⟩:=bind_some H
  refine jL _ (fun x=>djm n_ r2 x.1 x.2) hy12 (wb [some 80,some 96]) ?_
  rintro ⟨out_1,k⟩ z12 H
  try dsimp only at H
  unfold djc at H
  refine Sm.st (djm.eq_1 ..) ?_
  refine jj fun K13 hK13=>?_
  refine rA ?_
  refine cnd H (fun h15 H=>?_) (fun h15 H=>?_)
  ·refine jo ?_
   refine hK13 _ ?_
   refine jj fun K16 hK16=>?_
   refine jr ?_
   obtain ⟨⟨hg17,hg18,hg19,hg20⟩,H⟩:=aj3 H
   refine eA ?_
   refine hK16 _ ?_
   refine eA ?_
   refine lf ?_
   exact nx H (wb [some 9003,some 9004])
  refine jR ?_
  refine lf ?_
  refine lx H fun hyy=>?_
  subst hyy
  have H:=Ho12
  try dsimp only at H
  refine lf ?_
  exact ⟨_,H,wb [some 9004]⟩
 rintro out H
 try dsimp only at H
 unfold bkd at H
 refine Sm.st (dj5.eq_1 ..) ?_
 refine sX fun K9 hK9=>?_
 obtain ⟨hg10,H⟩:=aj3 H
 obtain ⟨r3,hr3,H⟩:=bind_some H
 have q:=aI qe hr3
 refine oYq ?_
 iterate 2 refine oXq ?_
 refine hK9 _ ?_
 refine jp ?_
 refine lf ?_
 obtain rfl:=Option.some.inj H
 exact rto [some 528]
def dql (n:Nat) (v:aj9):Option (List aj0) :=
 (bqp n v).bind fun r1 =>
 bif (!r1) then
  some []
 else
  (dj9 n v).bind fun r2 =>
  gd ((r2.length+1)≤2147483648) <|
  (dqk n (r2 ++ [(⟨0,(jc .i64 (v.Size+1))⟩:aj0)]) (jc .i64 (v.Cyls * v.Heads))).bind fun r3 =>
  some r3
def dzw (n:Nat):Go.AE.Fn:=mkFn (A:=aj9) (R:=(List aj0)) 35 [(true,[.str,.int .i64,.int .i64,.int .i64,.slice 41])] false (fun xs=>(⟨(cg (xs.getD 0 []) 0).toStr,(cg (xs.getD 0 []) 1).toInt,(cg (xs.getD 0 []) 2).toInt,(cg (xs.getD 0 []) 3).toInt,((cg (xs.getD 0 []) 4).toSl.map aqi)⟩:aj9)) (fun a=>[[.str a.Serial,.int a.Cyls,.int a.Heads,.int a.Size,.slice (List.map aj4 a.Sets)]]) (fun a=>dql n a) (fun r=>[.own 0 [.int .i64,.int .i64] 0 r.length]) (fun r=>[.row 80 (List.map aj2 r)])
theorem ekz (n:Nat):aj1 jd (dzw n):=by
 have hΓ:=g1 (byx n) (g1 (ejj n) (g1 (eya n) (@g0 (aj1 jd))))
 have qe:=aI @bwa.eq_1 (aI @dq8.eq_1 @dkn.eq_1)
 refine aj6 (Tryz.f35.body.getD .skip) h00 Tryz.func35 rfl Tryz.call35 (by decide) (fun _ r=>⟨rfl,m1 ⟨80,_,_,rfl,ty80,rfl⟩ m0⟩) ?_
 rintro v r H
 try dsimp only at H
 unfold dql at H
 simp only [Tryz.f35,jn]
 refine rA ?_
 refine jj fun K2 hK2=>?_
 obtain ⟨r1,hr1,H⟩:=bind_some H
 have q:=aI qe hr1
 refine rAq ?_
 refine cnd H (fun h4 H=>?_) (fun h4 H=>?_)
 ·refine rA ?_
  refine jp ?_
  refine lf ?_
  obtain rfl:=Option.some.inj H
  exact rto [none]
 refine jo ?_
 refine hK2 _ ?_
 obtain ⟨r2,hr2,H⟩:=bind_some H
 obtain ⟨hg7,H⟩:=aj3 H
 obtain ⟨r3,hr3,H⟩:=bind_some H
 refine sQ [0,1,2,3,4,5,6,7,8,9,10,11,12,13,14] [(none,[16],[]),(none,[],[127,126,125,124,123,122,121,120,119,118,117,116,115,114,113,112]),(none,[16],[]),(none,[16],[]),(none,[],[]),(none,[],[]),(none,[],[192]),(none,[112,192],[208,112]),(none,[16],[]),(none,[16],[]),(none,[16],[]),(none,[16],[]),(none,[],[]),(none,[208],[319,318,317,316,315,314,313,312,311,310,309,308,307,306,305,304,208]),(none,[],[])] fun K6 hK6=>?_
 have q:=aI qe (aI hr2 hr3)
 iterate 15 refine oQq ?_
 refine bjh ?_
 refine hK6 _ ?_
 refine jp ?_
 refine lf ?_
 obtain rfl:=Option.some.inj H
 exact rto [some 304]
abbrev cy9:S:=stB [] []
def bk5 (n:Nat):Option Bool :=
 some true
abbrev cy4 (a:List aj0) (b:List aj0) (i:Int):S:=stB [(0,.c (.slice 80) (.slice (List.map aj2 a))),(1,.c (.slice 80) (.slice (List.map aj2 b))),(5,.c (.int .i64) (.int i))] []
def cyy (n:Nat) (a:List aj0) (b:List aj0) (i:Int):Option ((Int) ⊕ (((Bool) ⊕ (Unit)))) :=
 bif (decide (i < (a.length:Int))) then
  gd ((0≤i∧i < (a.length:Int))∧(0≤i∧i < (b.length:Int))) <|
  bif (!((((gt a (Int.toNat i)).At) == ((gt b (Int.toNat i)).At)) && (((gt a (Int.toNat i)).Len) == ((gt b (Int.toNat i)).Len)))) then
   some (.inr (.inl false))
  else
   some (.inl (jc .i64 (i+1)))
 else
  some (.inr (.inr ()))
def dqi (n:Nat) (a:List aj0) (b:List aj0):Option Bool :=
 bif ((a.length:Int) != (b.length:Int)) then
  some false
 else
  (aql (fun (x:Int)=>cyy n a b x) n 0).bind fun y8 =>
  match y8 with
  | .inl vv =>
   some vv
  | .inr vv =>
   bk5 n
def dkm (n:Nat):Go.AE.Fn:=mkFn (A:=(List aj0)×(List aj0)) (R:=Bool) 33 [(false,[.slice 80]),(false,[.slice 80])] false (fun xs=>(((cg (xs.getD 0 []) 0).toSl.map aji),((cg (xs.getD 1 []) 0).toSl.map aji))) (fun a=>[[.slice (List.map aj2 a.1)],[.slice (List.map aj2 a.2)]]) (fun a=>dqi n a.1 a.2) (fun r=>[.c .bool (.bool r)]) (fun r=>[])
theorem fj0 (n:Nat):aj1 jd (dkm n):=by
 have hΓ:=@g0 (aj1 jd)
 refine aj6 (Tryz.f33.body.getD .skip) h00 Tryz.func33 rfl Tryz.call33 (by decide) (by intro _ r;exact ⟨rfl,by simp⟩) ?_
 rintro ⟨a,b⟩ r H
 try dsimp only at H
 unfold dqi at H
 simp only [Tryz.f33,jn]
 refine rA ?_
 refine jj fun K2 hK2=>?_
 refine rA ?_
 refine cnd H (fun h4 H=>?_) (fun h4 H=>?_)
 ·refine rA ?_
  refine jp ?_
  refine lf ?_
  obtain rfl:=Option.some.inj H
  exact rt []
 refine jo ?_
 refine hK2 _ ?_
 refine jS (fun (x:Unit)=>cy9) (fun x=>bk5 n=some r) ?_ ?_
 ·refine rA ?_
  refine jr ?_
  obtain ⟨y8,hy8,Ho8⟩:=bind_some H
  refine jL _ (fun x=>cy4 a b x) hy8 (wb []) ?_
  rintro i z8 H
  try dsimp only at H
  unfold cyy at H
  refine Sm.st (cy4.eq_1 ..) ?_
  refine jj fun K9 hK9=>?_
  refine rA ?_
  refine cnd H (fun h11 H=>?_) (fun h11 H=>?_)
  ·refine jo ?_
   refine hK9 _ ?_
   refine jj fun K12 hK12=>?_
   refine jr ?_
   obtain ⟨⟨hg16,hg17⟩,H⟩:=aj3 H
   refine rD ?_
   refine cnd H (fun h14 H=>?_) (fun h14 H=>?_)
   ·refine rA ?_
    refine jp ?_
    refine lf ?_
    refine lx H fun hyy=>?_
    subst hyy
    have H:=Ho8
    try dsimp only at H
    refine lf ?_
    obtain rfl:=Option.some.inj H
    exact rt []
   refine jo ?_
   refine hK12 _ ?_
   refine eA ?_
   refine lf ?_
   exact nx H (wb [])
  refine jR ?_
  refine lf ?_
  refine lx H fun hyy=>?_
  subst hyy
  have H:=Ho8
  try dsimp only at H
  refine lf ?_
  exact ⟨(),H,wb []⟩
 rintro ⟨⟩ H
 try dsimp only at H
 unfold bk5 at H
 refine Sm.st (cy9.eq_1 ..) ?_
 refine rA ?_
 refine jp ?_
 refine lf ?_
 obtain rfl:=Option.some.inj H
 exact rt []
abbrev bku:S:=stB [] []
def bj9 (n:Nat):Option Bool :=
 some true
abbrev by6 (a:aja) (b:aja) (k:Int):S:=stB [(2,.box 9002 0),(3,.box 9003 0),(5,.c (.int .i64) (.int k))] [(9002,.box [.c .str (.str a.Name),.c (.int .i64) (.int a.Dcb.Org),.c (.int .i64) (.int a.Dcb.Format),.c .bool (.bool a.Dcb.Blocked),.c .bool (.bool a.Dcb.Asa),.c (.int .i64) (.int a.Dcb.Lrecl),.c (.int .i64) (.int a.Dcb.Blksize),.c (.int .i64) (.int a.Dcb.KeyLen),.c (.int .i64) (.int a.Dcb.KeyPos),.c (.slice 80) (.slice (List.map aj2 a.Extents)),.c (.int .i64) (.int a.Used)]),(9003,.box [.c .str (.str b.Name),.c (.int .i64) (.int b.Dcb.Org),.c (.int .i64) (.int b.Dcb.Format),.c .bool (.bool b.Dcb.Blocked),.c .bool (.bool b.Dcb.Asa),.c (.int .i64) (.int b.Dcb.Lrecl),.c (.int .i64) (.int b.Dcb.Blksize),.c (.int .i64) (.int b.Dcb.KeyLen),.c (.int .i64) (.int b.Dcb.KeyPos),.c (.slice 80) (.slice (List.map aj2 b.Extents)),.c (.int .i64) (.int b.Used)])]
def bky (n:Nat) (a:aja) (b:aja) (k:Int):Option ((Int) ⊕ (((Bool) ⊕ (Unit)))) :=
 bif (decide (k < (a.Extents.length:Int))) then
  gd ((0≤k∧k < (a.Extents.length:Int))∧(0≤k∧k < (b.Extents.length:Int))) <|
  bif (!((((gt a.Extents (Int.toNat k)).At) == ((gt b.Extents (Int.toNat k)).At)) && (((gt a.Extents (Int.toNat k)).Len) == ((gt b.Extents (Int.toNat k)).Len)))) then
   some (.inr (.inl false))
  else
   some (.inl (jc .i64 (k+1)))
 else
  some (.inr (.inr ()))
def bki (n:Nat) (a:aja) (b:aja):Option Bool :=
 bif (if (if (if (a.Name != b.Name)=true then true else (!((a.Dcb.Org == b.Dcb.Org) && ((a.Dcb.Format == b.Dcb.Format) && ((a.Dcb.Blocked == b.Dcb.Blocked) && ((a.Dcb.Asa == b.Dcb.Asa) && ((a.Dcb.Lrecl == b.Dcb.Lrecl) && ((a.Dcb.Blksize == b.Dcb.Blksize) && ((a.Dcb.KeyLen == b.Dcb.KeyLen) && (a.Dcb.KeyPos == b.Dcb.KeyPos))))))))))=true then true else (a.Used != b.Used))=true then true else ((a.Extents.length:Int) != (b.Extents.length:Int))) then
  some false
 else
  (aql (fun (x:Int)=>bky n a b x) n 0).bind fun y8 =>
  match y8 with
  | .inl vv =>
   some vv
  | .inr vv =>
   bj9 n
def czm (n:Nat):Go.AE.Fn:=mkFn (A:=aja×aja) (R:=Bool) 26 [(true,[.str,.int .i64,.int .i64,.bool,.bool,.int .i64,.int .i64,.int .i64,.int .i64,.slice 80,.int .i64]),(true,[.str,.int .i64,.int .i64,.bool,.bool,.int .i64,.int .i64,.int .i64,.int .i64,.slice 80,.int .i64])] false (fun xs=>((⟨(cg (xs.getD 0 []) 0).toStr,(⟨(cg (xs.getD 0 []) 1).toInt,(cg (xs.getD 0 []) 2).toInt,(cg (xs.getD 0 []) 3).toBool,(cg (xs.getD 0 []) 4).toBool,(cg (xs.getD 0 []) 5).toInt,(cg (xs.getD 0 []) 6).toInt,(cg (xs.getD 0 []) 7).toInt,(cg (xs.getD 0 []) 8).toInt⟩:TDcb),((cg (xs.getD 0 []) 9).toSl.map aji),(cg (xs.getD 0 []) 10).toInt⟩:aja),(⟨(cg (xs.getD 1 []) 0).toStr,(⟨(cg (xs.getD 1 []) 1).toInt,(cg (xs.getD 1 []) 2).toInt,(cg (xs.getD 1 []) 3).toBool,(cg (xs.getD 1 []) 4).toBool,(cg (xs.getD 1 []) 5).toInt,(cg (xs.getD 1 []) 6).toInt,(cg (xs.getD 1 []) 7).toInt,(cg (xs.getD 1 []) 8).toInt⟩:TDcb),((cg (xs.getD 1 []) 9).toSl.map aji),(cg (xs.getD 1 []) 10).toInt⟩:aja))) (fun a=>[[.str a.1.Name,.int a.1.Dcb.Org,.int a.1.Dcb.Format,.bool a.1.Dcb.Blocked,.bool a.1.Dcb.Asa,.int a.1.Dcb.Lrecl,.int a.1.Dcb.Blksize,.int a.1.Dcb.KeyLen,.int a.1.Dcb.KeyPos,.slice (List.map aj2 a.1.Extents),.int a.1.Used],[.str a.2.Name,.int a.2.Dcb.Org,.int a.2.Dcb.Format,.bool a.2.Dcb.Blocked,.bool a.2.Dcb.Asa,.int a.2.Dcb.Lrecl,.int a.2.Dcb.Blksize,.int a.2.Dcb.KeyLen,.int a.2.Dcb.KeyPos,.slice (List.map aj2 a.2.Extents),.int a.2.Used]]) (fun a=>bki n a.1 a.2) (fun r=>[.c .bool (.bool r)]) (fun r=>[])
theorem ej2 (n:Nat):aj1 jd (czm n):=by
 have hΓ:=@g0 (aj1 jd)
 refine aj6 (Tryz.f26.body.getD .skip) h00 Tryz.func26 rfl Tryz.call26 (by decide) (by intro _ r;exact ⟨rfl,by simp⟩) ?_
 rintro ⟨a,b⟩ r H
 try dsimp only at H
 unfold bki at H
 simp only [Tryz.f26,jn]
 refine rA ?_
 refine jj fun K2 hK2=>?_
 refine rA ?_
 refine cnd H (fun h4 H=>?_) (fun h4 H=>?_)
 ·refine rA ?_
  refine jp ?_
  refine lf ?_
  obtain rfl:=Option.some.inj H
  exact rt []
 refine jo ?_
 refine hK2 _ ?_
 refine jS (fun (x:Unit)=>bku) (fun x=>bj9 n=some r) ?_ ?_
 ·refine rA ?_
  refine jr ?_
  obtain ⟨y8,hy8,Ho8⟩:=bind_some H
  refine jL _ (fun x=>by6 a b x) hy8 (wb [some 32,some 48]) ?_
  rintro k z8 H
  try dsimp only at H
  unfold bky at H
  refine Sm.st (by6.eq_1 ..) ?_
  refine jj fun K9 hK9=>?_
  refine rA ?_
  refine cnd H (fun h11 H=>?_) (fun h11 H=>?_)
  ·refine jo ?_
   refine hK9 _ ?_
   refine jj fun K12 hK12=>?_
   refine jr ?_
   obtain ⟨⟨hg16,hg17⟩,H⟩:=aj3 H
   refine rD ?_
   refine cnd H (fun h14 H=>?_) (fun h14 H=>?_)
   ·refine rA ?_
    refine jp ?_
    refine lf ?_
    refine lx H fun hyy=>?_
    subst hyy
    have H:=Ho8
    try dsimp only at H
    refine lf ?_
    obtain rfl:=Option.some.inj H
    exact rt []
   refine jo ?_
   refine hK12 _ ?_
   refine eA ?_
   refine lf ?_
   exact nx H (wb [some 9002,some 9003])
  refine jR ?_
  refine lf ?_
  refine lx H fun hyy=>?_
  subst hyy
  have H:=Ho8
  try dsimp only at H
  refine lf ?_
  exact ⟨(),H,wb []⟩
 rintro ⟨⟩ H
 try dsimp only at H
 unfold bj9 at H
 refine Sm.st (bku.eq_1 ..) ?_
 refine rA ?_
 refine jp ?_
 refine lf ?_
 obtain rfl:=Option.some.inj H
 exact rt []
abbrev dju:S:=stB [] []
def bkk (n:Nat):Option Bool :=
 some true
abbrev cy7 (a:aj9) (b:aj9) (k:Int):S:=stB [(2,.box 9002 0),(3,.box 9003 0),(5,.c (.int .i64) (.int k))] [(9002,.box [.c .str (.str a.Serial),.c (.int .i64) (.int a.Cyls),.c (.int .i64) (.int a.Heads),.c (.int .i64) (.int a.Size),.c (.slice 41) (.slice (List.map aj4 a.Sets))]),(9003,.box [.c .str (.str b.Serial),.c (.int .i64) (.int b.Cyls),.c (.int .i64) (.int b.Heads),.c (.int .i64) (.int b.Size),.c (.slice 41) (.slice (List.map aj4 b.Sets))])]
def cym (n:Nat) (a:aj9) (b:aj9) (k:Int):Option ((Int) ⊕ (((Bool) ⊕ (Unit)))) :=
 bif (decide (k < (a.Sets.length:Int))) then
  gd ((0≤k∧k < (a.Sets.length:Int))∧(0≤k∧k < (b.Sets.length:Int))) <|
  (bki n (gt a.Sets (Int.toNat k)) (gt b.Sets (Int.toNat k))).bind fun r1 =>
  bif (!r1) then
   some (.inr (.inl false))
  else
   some (.inl (jc .i64 (k+1)))
 else
  some (.inr (.inr ()))
def dqa (n:Nat) (a:aj9) (b:aj9):Option Bool :=
 bif (if (if (if (if (a.Serial != b.Serial)=true then true else (a.Cyls != b.Cyls))=true then true else (a.Heads != b.Heads))=true then true else (a.Size != b.Size))=true then true else ((a.Sets.length:Int) != (b.Sets.length:Int))) then
  some false
 else
  (aql (fun (x:Int)=>cym n a b x) n 0).bind fun y8 =>
  match y8 with
  | .inl vv =>
   some vv
  | .inr vv =>
   bkk n
def dk5 (n:Nat):Go.AE.Fn:=mkFn (A:=aj9×aj9) (R:=Bool) 19 [(true,[.str,.int .i64,.int .i64,.int .i64,.slice 41]),(true,[.str,.int .i64,.int .i64,.int .i64,.slice 41])] false (fun xs=>((⟨(cg (xs.getD 0 []) 0).toStr,(cg (xs.getD 0 []) 1).toInt,(cg (xs.getD 0 []) 2).toInt,(cg (xs.getD 0 []) 3).toInt,((cg (xs.getD 0 []) 4).toSl.map aqi)⟩:aj9),(⟨(cg (xs.getD 1 []) 0).toStr,(cg (xs.getD 1 []) 1).toInt,(cg (xs.getD 1 []) 2).toInt,(cg (xs.getD 1 []) 3).toInt,((cg (xs.getD 1 []) 4).toSl.map aqi)⟩:aj9))) (fun a=>[[.str a.1.Serial,.int a.1.Cyls,.int a.1.Heads,.int a.1.Size,.slice (List.map aj4 a.1.Sets)],[.str a.2.Serial,.int a.2.Cyls,.int a.2.Heads,.int a.2.Size,.slice (List.map aj4 a.2.Sets)]]) (fun a=>dqa n a.1 a.2) (fun r=>[.c .bool (.bool r)]) (fun r=>[])
theorem eyl (n:Nat):aj1 jd (dk5 n):=by
 have hΓ:=g1 (ej2 n) (@g0 (aj1 jd))
 refine aj6 (Tryz.f19.body.getD .skip) h00 Tryz.func19 rfl Tryz.call19 (by decide) (by intro _ r;exact ⟨rfl,by simp⟩) ?_
 rintro ⟨a,b⟩ r H
 try dsimp only at H
 unfold dqa at H
 simp only [Tryz.f19,jn]
 refine rA ?_
 refine jj fun K2 hK2=>?_
 refine rA ?_
 refine cnd H (fun h4 H=>?_) (fun h4 H=>?_)
 ·refine rA ?_
  refine jp ?_
  refine lf ?_
  obtain rfl:=Option.some.inj H
  exact rt []
 refine jo ?_
 refine hK2 _ ?_
 refine jS (fun (x:Unit)=>dju) (fun x=>bkk n=some r) ?_ ?_
 ·refine rA ?_
  refine jr ?_
  obtain ⟨y8,hy8,Ho8⟩:=bind_some H
  refine jL _ (fun x=>cy7 a b x) hy8 (wb [some 32,some 48]) ?_
  rintro k z8 H
  try dsimp only at H
  unfold cym at H
  refine Sm.st (cy7.eq_1 ..) ?_
  refine jj fun K9 hK9=>?_
  refine rA ?_
  refine cnd H (fun h11 H=>?_) (fun h11 H=>?_)
  ·refine jo ?_
   refine hK9 _ ?_
   refine jj fun K12 hK12=>?_
   refine jr ?_
   obtain ⟨⟨hg16,hg17⟩,H⟩:=aj3 H
   obtain ⟨r1,hr1,H⟩:=bind_some H
   have q:=aI @czm.eq_1 hr1
   refine rDq ?_
   refine cnd H (fun h14 H=>?_) (fun h14 H=>?_)
   ·refine rA ?_
    refine jp ?_
    refine lf ?_
    refine lx H fun hyy=>?_
    subst hyy
    have H:=Ho8
    try dsimp only at H
    refine lf ?_
    obtain rfl:=Option.some.inj H
    exact rt []
   refine jo ?_
   refine hK12 _ ?_
   refine eA ?_
   refine lf ?_
   exact nx H (wb [some 9002,some 9003])
  refine jR ?_
  refine lf ?_
  refine lx H fun hyy=>?_
  subst hyy
  have H:=Ho8
  try dsimp only at H
  refine lf ?_
  exact ⟨(),H,wb []⟩
 rintro ⟨⟩ H
 try dsimp only at H
 unfold bkk at H
 refine Sm.st (dju.eq_1 ..) ?_
 refine rA ?_
 refine jp ?_
 refine lf ?_
 obtain rfl:=Option.some.inj H
 exact rt []
def ayf (n:Nat) (p0:List aja) (p0_i:Nat):Option Int :=
 some 0
theorem cyg (n:Nat) (p0:List aja) (p0_i:Nat) (r:Int) (H:ayf n p0 p0_i=some r):awi jd 88 [.ref (.elt 0 11 [.str,.int .i64,.int .i64,.bool,.bool,.int .i64,.int .i64,.int .i64,.int .i64,.slice 80,.int .i64] p0_i 0)] [.row 41 (List.map aj4 p0)] [.c (.int .i64) (.int r)] [.row 41 (List.map aj4 p0)]:=by
 have hΓ:=@g0 (aj1 jd)
 refine awt (Tryz.f88.body.getD .skip) h00 Tryz.func88 rfl Tryz.call88 (ju rfl) (ju rfl) ?_
 unfold ayf at H
 simp only [Tryz.f88,jn]
 refine rA ?_
 refine rA ?_
 refine jp ?_
 refine lf ?_
 obtain rfl:=Option.some.inj H
 exact rtM [some 0]
def bwo (n:Nat) (v:aj9) (name:List UInt8):Option (aj9×Int) :=
 (aq5 n v).bind fun r1 =>
 bif (r1 != 0) then
  some ((⟨[],0,0,0,[]⟩:aj9),r1)
 else
  (aqp n v name).bind fun r2 =>
  bif (!r2.2) then
   some ((⟨[],0,0,0,[]⟩:aj9),3)
  else
   (ajy n v).bind fun r3 =>
   gd ((0≤r2.1∧r2.1 < (r3.Sets.length:Int))) <|
   (ayf n r3.Sets (Int.toNat r2.1)).bind fun r4 =>
   bif (r4 != 0) then
    some ((⟨[],0,0,0,[]⟩:aj9),r4)
   else
    some (r3,0)
theorem dy4 (n:Nat) (v:aj9) (name:List UInt8) (r:aj9×Int) (H:bwo n v name=some r):awi jd 87 [.dat (true,[.str,.int .i64,.int .i64,.int .i64,.slice 41]) [.str v.Serial,.int v.Cyls,.int v.Heads,.int v.Size,.slice (List.map aj4 v.Sets)],.dat (false,[.str]) [.str name],.ref (.fnv 88 [])] [] [.agg [.c .str (.str r.1.Serial),.c (.int .i64) (.int r.1.Cyls),.c (.int .i64) (.int r.1.Heads),.c (.int .i64) (.int r.1.Size),.own 0 [.str,.int .i64,.int .i64,.bool,.bool,.int .i64,.int .i64,.int .i64,.int .i64,.slice 80,.int .i64] 0 r.1.Sets.length],.c (.int .i64) (.int r.2)] [.row 41 (List.map aj4 r.1.Sets)]:=by
 have hΓ:=g1 (aw4 n) (g1 (awo n) (g1 (azb n) (@g0 (aj1 jd))))
 have qe:=aI @aqc.eq_1 (aI @aqz.eq_1 @awe.eq_1)
 refine awt (Tryz.f87.body.getD .skip) h00 Tryz.func87 rfl Tryz.call87 (ju rfl) (ju rfl) ?_
 unfold bwo at H
 simp only [Tryz.f87,jn]
 refine rA ?_
 refine jj fun K2 hK2=>?_
 obtain ⟨r1,hr1,H⟩:=bind_some H
 have q:=aI qe hr1
 refine rAq ?_
 refine rA ?_
 refine cnd H (fun h5 H=>?_) (fun h5 H=>?_)
 ·refine rA ?_
  refine jp ?_
  refine lf ?_
  obtain rfl:=Option.some.inj H
  exact rtM [none]
 refine jo ?_
 refine hK2 _ ?_
 obtain ⟨r2,hr2,H⟩:=bind_some H
 have q:=aI qe hr2
 refine rAq ?_
 refine jj fun K8 hK8=>?_
 refine rA ?_
 refine cnd H (fun h10 H=>?_) (fun h10 H=>?_)
 ·refine rA ?_
  refine jp ?_
  refine lf ?_
  obtain rfl:=Option.some.inj H
  exact rtM [none]
 refine jo ?_
 refine hK8 _ ?_
 obtain ⟨r3,hr3,H⟩:=bind_some H
 have q:=aI qe hr3
 refine rAq ?_
 refine jj fun K13 hK13=>?_
 refine sX fun K14 hK14=>?_
 obtain ⟨hg15,H⟩:=aj3 H
 obtain ⟨r4,hr4,H⟩:=bind_some H
 have q:=hr4
 iterate 5 refine oX ?_
 refine oMq (cyg n _ _ r4 hr4) [464] [] ?_
 refine oXq ?_
 refine hK14 _ ?_
 refine rA ?_
 refine cnd H (fun h17 H=>?_) (fun h17 H=>?_)
 ·refine rA ?_
  refine jp ?_
  refine lf ?_
  obtain rfl:=Option.some.inj H
  exact rtM [none]
 refine jo ?_
 refine hK13 _ ?_
 refine rA ?_
 refine jp ?_
 refine lf ?_
 obtain rfl:=Option.some.inj H
 exact rtM [some 464]
def azu (n:Nat) (d:aja) (p1:List UInt8):Option Bool :=
 some (d.Name == p1)
theorem bqs (n:Nat) (d:aja) (p1:List UInt8) (r:Bool) (H:azu n d p1=some r):awi jd 90 [.dat (true,[.str,.int .i64,.int .i64,.bool,.bool,.int .i64,.int .i64,.int .i64,.int .i64,.slice 80,.int .i64]) [.str d.Name,.int d.Dcb.Org,.int d.Dcb.Format,.bool d.Dcb.Blocked,.bool d.Dcb.Asa,.int d.Dcb.Lrecl,.int d.Dcb.Blksize,.int d.Dcb.KeyLen,.int d.Dcb.KeyPos,.slice (List.map aj2 d.Extents),.int d.Used],.ref (.box 0 0)] [.box [.c .str (.str p1)]] [.c .bool (.bool r)] [.box [.c .str (.str p1)]]:=by
 have hΓ:=@g0 (aj1 jd)
 refine awt (Tryz.f90.body.getD .skip) h00 Tryz.func90 rfl Tryz.call90 (ju rfl) (ju rfl) ?_
 unfold azu at H
 simp only [Tryz.f90,jn]
 refine rA ?_
 refine rA ?_
 refine jp ?_
 refine lf ?_
 obtain rfl:=Option.some.inj H
 exact rtM [some 0]
abbrev azl (s:List aja) (f:List UInt8):S:=stB [] [(0,.row 41 (List.map aj4 s)),(1,.box [.c .str (.str f)])]
def aw2 (n:Nat) (s:List aja) (f:List UInt8):Option Int :=
 some (-1)
abbrev azp (s:List aja) (f:List UInt8) (v7:Int) (v8:Int):S:=stB [(0,.own 0 [.str,.int .i64,.int .i64,.bool,.bool,.int .i64,.int .i64,.int .i64,.int .i64,.slice 80,.int .i64] 0 s.length),(1,.fnv 90 [.box 1 0]),(7,.c (.int .i64) (.int v7)),(8,.c (.int .i64) (.int v8))] [(0,.row 41 (List.map aj4 s)),(1,.box [.c .str (.str f)])]
def azk (n:Nat) (s:List aja) (f:List UInt8) (v7:Int) (v8:Int):Option ((Int) ⊕ (((Int) ⊕ (Unit)))) :=
 bif (decide (v8 < v7)) then
  gd ((0≤v8∧v8 < (s.length:Int))∧(Int.toNat v8) < s.length) <|
  (azu n (gt s (Int.toNat v8)) f).bind fun r1 =>
  bif r1 then
   some (.inr (.inl v8))
  else
   some (.inl (jc .i64 (v8+1)))
 else
  some (.inr (.inr ()))
def awq (n:Nat) (s:List aja) (f:List UInt8):Option Int :=
 (aql (fun (x:Int)=>azk n s f ((s.length:Nat):Int) x) n 0).bind fun y4 =>
 match y4 with
 | .inl vv =>
  some vv
 | .inr vv =>
  aw2 n s f
theorem bwy (n:Nat) (s:List aja) (f:List UInt8) (r:Int) (H:awq n s f=some r):awi jd 141 [.ref (.own 0 [.str,.int .i64,.int .i64,.bool,.bool,.int .i64,.int .i64,.int .i64,.int .i64,.slice 80,.int .i64] 0 s.length),.ref (.fnv 90 [.box 1 0])] [.row 41 (List.map aj4 s),.box [.c .str (.str f)]] [.c (.int .i64) (.int r)] [.row 41 (List.map aj4 s),.box [.c .str (.str f)]]:=by
 have hΓ:=@g0 (aj1 jd)
 refine awt (Tryz.f141.body.getD .skip) h00 Tryz.func141 rfl Tryz.call141 (ju rfl) (ju rfl) ?_
 unfold awq at H
 simp only [Tryz.f141,jn]
 refine rA ?_
 refine jS (fun (x:Unit)=>azl s f) (fun x=>aw2 n s f=some r) ?_ ?_
 ·refine rA ?_
  refine jr ?_
  obtain ⟨y4,hy4,Ho4⟩:=bind_some H
  refine jL _ (fun x=>azp s f ((s.length:Nat):Int) x) hy4 (wb [some 0,some 1]) ?_
  rintro v8 z4 H
  try dsimp only at H
  unfold azk at H
  refine Sm.st (azp.eq_1 ..) ?_
  refine rA ?_
  refine jj fun K6 hK6=>?_
  refine cnd H (fun h7 H=>?_) (fun h7 H=>?_)
  ·refine jo ?_
   refine hK6 _ ?_
   refine jj fun K8 hK8=>?_
   refine jr ?_
   refine rA ?_
   refine sX fun K10 hK10=>?_
   obtain ⟨⟨hg11,hg12⟩,H⟩:=aj3 H
   obtain ⟨r1,hr1,H⟩:=bind_some H
   have q:=hr1
   iterate 5 refine oX ?_
   refine oMq (bqs n _ _ r1 hr1) [1] [] ?_
   refine hK10 _ ?_
   refine cnd H (fun h13 H=>?_) (fun h13 H=>?_)
   ·refine rA ?_
    refine jp ?_
    refine lf ?_
    refine lx H fun hyy=>?_
    subst hyy
    have H:=Ho4
    try dsimp only at H
    refine lf ?_
    obtain rfl:=Option.some.inj H
    exact rtM [some 0,some 1]
   refine jo ?_
   refine hK8 _ ?_
   refine eA ?_
   refine lf ?_
   exact nx H (wb [some 0,some 1])
  refine jR ?_
  refine lf ?_
  refine lx H fun hyy=>?_
  subst hyy
  have H:=Ho4
  try dsimp only at H
  refine lf ?_
  exact ⟨(),H,wb [some 0,some 1]⟩
 rintro ⟨⟩ H
 try dsimp only at H
 unfold aw2 at H
 refine Sm.st (azl.eq_1 ..) ?_
 refine rA ?_
 refine jp ?_
 refine lf ?_
 obtain rfl:=Option.some.inj H
 exact rtM [some 0,some 1]
abbrev azh (b0:List aja) (del:List UInt8) (i:Int):S:=stB [(0,.own 0 [.str,.int .i64,.int .i64,.bool,.bool,.int .i64,.int .i64,.int .i64,.int .i64,.slice 80,.int .i64] 0 b0.length),(5,.c (.int .i64) (.int i))] [(0,.row 41 (List.map aj4 b0)),(1,.box [.c .str (.str del)])]
def aw5 (n:Nat) (b0:List aja) (del:List UInt8) (i:Int):Option (Nat×(List aja)) :=
 gd ((0≤i∧i≤(b0.length:Int)∧(b0.length:Int)≤(b0.length:Int))∧((Int.toNat i)+(Int.toNat ((b0.length:Int) - i)))≤b0.length) <|
 gd ((0≤i∧i≤(b0.length:Int))) <|
 some ((Int.toNat (i - 0)),(bkf b0 (Int.toNat i) (aqt (Int.toNat ((b0.length:Int) - i)) (⟨[],(⟨0,0,false,false,0,0,0,0⟩:TDcb),[],0⟩:aja))))
abbrev azo (b0_2:List aja) (del:List UInt8) (i_2:Int) (j:Int):S:=stB [(0,.own 0 [.str,.int .i64,.int .i64,.bool,.bool,.int .i64,.int .i64,.int .i64,.int .i64,.slice 80,.int .i64] 0 b0_2.length),(1,.fnv 90 [.box 1 0]),(5,.c (.int .i64) (.int i_2)),(6,.c (.int .i64) (.int j))] [(0,.row 41 (List.map aj4 b0_2)),(1,.box [.c .str (.str del)])]
def aq8 (n:Nat) (b0_2:List aja) (del:List UInt8) (i_2:Int) (j:Int):Option (((List aja)×Int×Int) ⊕ (((List aja)×Int))) :=
 some (.inl (b0_2,i_2,(jc .i64 (j+1))))
abbrev azi (del:List UInt8) (b0_1:List aja) (i_1:Int) (j:Int):S:=stB [(0,.own 0 [.str,.int .i64,.int .i64,.bool,.bool,.int .i64,.int .i64,.int .i64,.int .i64,.slice 80,.int .i64] 0 b0_1.length),(1,.fnv 90 [.box 1 0]),(5,.c (.int .i64) (.int i_1)),(6,.c (.int .i64) (.int j))] [(0,.row 41 (List.map aj4 b0_1)),(1,.box [.c .str (.str del)])]
def azs (n:Nat) (del:List UInt8) (b0_1:List aja) (i_1:Int) (j:Int):Option (((List aja)×Int×Int) ⊕ (((List aja)×Int))) :=
 bif (decide (j < ((b0_1.length:Nat):Int))) then
  gd ((0≤j∧j < (b0_1.length:Int))∧(Int.toNat j) < b0_1.length) <|
  (azu n (gt b0_1 (Int.toNat j)) del).bind fun r2 =>
  bif (!r2) then
   gd ((0≤i_1∧i_1 < (b0_1.length:Int))∧(Int.toNat i_1) < b0_1.length) <|
   aq8 n (List.set b0_1 (Int.toNat i_1) (gt b0_1 (Int.toNat j))) del (jc .i64 (i_1+1)) j
  else
   aq8 n b0_1 del i_1 j
 else
  some (.inr (b0_1,i_1))
def aws (n:Nat) (s:List aja) (del:List UInt8):Option (Nat×(List aja)) :=
 (awq n s del).bind fun r1 =>
 bif (r1 == (-1)) then
  some (s.length,s)
 else
  (aql (fun (x:(List aja)×Int×Int)=>azs n del x.1 x.2.1 x.2.2) n (s,r1,(jc .i64 (r1+1)))).bind fun y13 =>
  aw5 n y13.1 del y13.2
theorem bz4 (n:Nat) (s:List aja) (del:List UInt8) (r:Nat×(List aja)) (H:aws n s del=some r):awi jd 89 [.ref (.own 0 [.str,.int .i64,.int .i64,.bool,.bool,.int .i64,.int .i64,.int .i64,.int .i64,.slice 80,.int .i64] 0 s.length),.ref (.fnv 90 [.box 1 0])] [.row 41 (List.map aj4 s),.box [.c .str (.str del)]] [.own 0 [.str,.int .i64,.int .i64,.bool,.bool,.int .i64,.int .i64,.int .i64,.int .i64,.slice 80,.int .i64] 0 r.1] [.row 41 (List.map aj4 r.2),.box [.c .str (.str del)]]:=by
 have hΓ:=@g0 (aj1 jd)
 refine awt (Tryz.f89.body.getD .skip) h00 Tryz.func89 rfl Tryz.call89 (ju rfl) (ju rfl) ?_
 unfold aws at H
 simp only [Tryz.f89,jn]
 refine rA ?_
 refine sX fun K2 hK2=>?_
 obtain ⟨r1,hr1,H⟩:=bind_some H
 have q:=hr1
 iterate 2 refine oX ?_
 refine oMq (bwy n _ _ r1 hr1) [0,1] [] ?_
 refine oXq ?_
 refine hK2 _ ?_
 refine jj fun K3 hK3=>?_
 refine rA ?_
 refine cnd H (fun h5 H=>?_) (fun h5 H=>?_)
 ·refine rA ?_
  refine jp ?_
  refine lf ?_
  obtain rfl:=Option.some.inj H
  exact rtM [some 0,some 1]
 refine jo ?_
 refine hK3 _ ?_
 refine jS (fun (x:(List aja)×Int)=>azh x.1 del x.2) (fun x=>aw5 n x.1 del x.2=some r) ?_ ?_
 ·refine rA ?_
  refine jr ?_
  obtain ⟨y13,hy13,Ho13⟩:=bind_some H
  refine jL _ (fun x=>azi del x.1 x.2.1 x.2.2) hy13 (wb [some 0,some 1]) ?_
  rintro ⟨b0_1,i_1,j⟩ z13 H
  try dsimp only at H
  unfold azs at H
  refine Sm.st (azi.eq_1 ..) ?_
  refine jj fun K14 hK14=>?_
  refine rA ?_
  refine cnd H (fun h16 H=>?_) (fun h16 H=>?_)
  ·refine jo ?_
   refine hK14 _ ?_
   refine jS (fun (x:(List aja)×Int)=>azo x.1 del x.2 j) (fun x=>aq8 n x.1 del x.2 j=some z13) ?_ ?_
   ·refine jr ?_
    obtain ⟨⟨hg23,hg24⟩,H⟩:=aj3 H
    refine rA ?_
    refine sX fun K18 hK18=>?_
    obtain ⟨r2,hr2,H⟩:=bind_some H
    have q:=hr2
    iterate 2 refine oX ?_
    refine oMq (bqs n _ _ r2 hr2) [1] [] ?_
    refine oXq ?_
    refine hK18 _ ?_
    refine cnd H (fun h19 H=>?_) (fun h19 H=>?_)
    ·obtain ⟨⟨hg21,hg22⟩,H⟩:=aj3 H
     refine rA ?_
     refine eA ?_
     refine lf ?_
     exact ⟨((List.set b0_1 (Int.toNat i_1) (gt b0_1 (Int.toNat j))),(jc .i64 (i_1+1))),H,wb [some 0,some 1]⟩
    refine jo ?_
    refine lf ?_
    exact ⟨(b0_1,i_1),H,wb [some 0,some 1]⟩
   rintro ⟨b0_2,i_2⟩ H
   try dsimp only at H
   unfold aq8 at H
   refine Sm.st (azo.eq_1 ..) ?_
   refine eA ?_
   refine lf ?_
   exact nx H (wb [some 0,some 1])
  refine jR ?_
  refine lf ?_
  refine lx H fun hyy=>?_
  subst hyy
  have H:=Ho13
  try dsimp only at H
  refine lf ?_
  exact ⟨(b0_1,i_1),H,wb [some 0,some 1]⟩
 rintro ⟨b0,i⟩ H
 try dsimp only at H
 unfold aw5 at H
 refine Sm.st (azh.eq_1 ..) ?_
 refine sX fun K7 hK7=>?_
 obtain ⟨⟨hg8,hg9⟩,H⟩:=aj3 H
 iterate 3 refine oX ?_
 refine oY ?_
 refine hK7 _ ?_
 obtain ⟨hg11,H⟩:=aj3 H
 refine rA ?_
 refine jp ?_
 refine lf ?_
 obtain rfl:=Option.some.inj H
 exact rtM [some 0,some 1]
def cqn (n:Nat) (v:aj9) (name:List UInt8):Option (aj9×Int) :=
 (bwo n v name).bind fun r1 =>
 bif (r1.2 != 0) then
  some ((⟨[],0,0,0,[]⟩:aj9),r1.2)
 else
  (aws n r1.1.Sets name).bind fun r2 =>
  some ((⟨r1.1.Serial,r1.1.Cyls,r1.1.Heads,r1.1.Size,(List.take r2.1 r2.2)⟩:aj9),0)
def dje (n:Nat):Go.AE.Fn:=mkFn (A:=aj9×(List UInt8)) (R:=aj9×Int) 43 [(true,[.str,.int .i64,.int .i64,.int .i64,.slice 41]),(false,[.str])] true (fun xs=>((⟨(cg (xs.getD 0 []) 0).toStr,(cg (xs.getD 0 []) 1).toInt,(cg (xs.getD 0 []) 2).toInt,(cg (xs.getD 0 []) 3).toInt,((cg (xs.getD 0 []) 4).toSl.map aqi)⟩:aj9),(cg (xs.getD 1 []) 0).toStr)) (fun a=>[[.str a.1.Serial,.int a.1.Cyls,.int a.1.Heads,.int a.1.Size,.slice (List.map aj4 a.1.Sets)],[.str a.2]]) (fun a=>cqn n a.1 a.2) (fun r=>[.agg [.c .str (.str r.1.Serial),.c (.int .i64) (.int r.1.Cyls),.c (.int .i64) (.int r.1.Heads),.c (.int .i64) (.int r.1.Size),.c (.slice 41) (.slice (List.map aj4 r.1.Sets))],.c (.int .i64) (.int r.2)]) (fun r=>[])
theorem ew6 (n:Nat):aj1 jd (dje n):=by
 have hΓ:=@g0 (aj1 jd)
 refine aj6 (Tryz.f43.body.getD .skip) h00 Tryz.func43 rfl Tryz.call43 (by decide) (by intro h;cases h) ?_
 rintro ⟨v,name⟩ r H
 try dsimp only at H
 unfold cqn at H
 simp only [Tryz.f43,jn]
 refine rA ?_
 refine sX fun K2 hK2=>?_
 obtain ⟨r1,hr1,H⟩:=bind_some H
 have q:=hr1
 iterate 2 refine oX ?_
 refine oMq (dy4 n _ _ r1 hr1) [] [176] ?_
 iterate 6 refine oXq ?_
 refine hK2 _ ?_
 refine jj fun K3 hK3=>?_
 refine rA ?_
 refine cnd H (fun h5 H=>?_) (fun h5 H=>?_)
 ·refine rA ?_
  refine jp ?_
  refine lf ?_
  obtain rfl:=Option.some.inj H
  exact rt []
 refine jo ?_
 refine hK3 _ ?_
 refine sX fun K7 hK7=>?_
 obtain ⟨r2,hr2,H⟩:=bind_some H
 have q:=hr2
 iterate 2 refine oX ?_
 refine oY ?_
 refine oMq (bz4 n _ _ r2 hr2) [176,48] [] ?_
 iterate 2 refine oXq ?_
 refine hK7 _ ?_
 refine rA ?_
 refine jp ?_
 refine lf ?_
 obtain rfl:=Option.some.inj H
 exact rt []
end Go.Proofs.YtijnkhcfondehaaGreatDoor
