/- Text. -/
import Derived.Test.YtijnkhcfondehaaGreatDoorT
import Derived.Test.YtijnkhcfondehaaGreatDoorL92
import Derived.Test.YtijnkhcfondehaaGreatDoorN2
import Derived.Test.YtijnkhcfondehaaGreatDoorJ
set_option maxHeartbeats 8000000
set_option linter.unusedVariables false
set_option linter.unusedSimpArgs false
set_option maxRecDepth 100000
open _root_.Bool renaming not_false→jS,not_true→jK,false_eq_true→jj
open Go.IntKind renaming wrap→jd,bits→JF
open _root_.Nat renaming le_of_ble_eq_true→jk
open _root_.Option renaming getD→jt
open Go.AE.Sm renaming ret→js,seqK→jr,skip→jq,cut→j4,block→jC,loopB→j3,exit→Jb
open Go.Proofs.Tryz renaming prog→je
namespace Go.Proofs.YtijnkhcfondehaaGreatDoor
open Go.AE
def aqa (n:Nat) (n_:Int) (lo:Int) (hi:Int):Option Bool :=
 some (if (decide (lo≤n_))=true then (decide (n_≤hi)) else false)
def dju (n:Nat):Go.AE.Fn:=mkFn (A:=Int×Int×Int) (R:=Bool) 67 [(false,[.int .i64]),(false,[.int .i64]),(false,[.int .i64])] false (fun xs=>((cg (xs.getD 0 []) 0).toInt,(cg (xs.getD 1 []) 0).toInt,(cg (xs.getD 2 []) 0).toInt)) (fun a=>[[.int a.1],[.int a.2.1],[.int a.2.2]]) (fun a=>aqa n a.1 a.2.1 a.2.2) (fun r=>[.c .bool (.bool r)]) (fun r=>[])
theorem dyi (n:Nat):aj2 je (dju n):=by
 have hΓ:=@g0 (aj2 je)
 refine ajb (Tryz.f67.body.getD .skip) h00 Tryz.func67 rfl Tryz.call67 (by decide) (by intro _ r;exact ⟨rfl,by simp⟩) ?_
 rintro ⟨n_,lo,hi⟩ r H
 try dsimp only at H
 unfold aqa at H
 simp only [Tryz.f67,jt]
 refine rA ?_
 refine rA ?_
 refine js ?_
 refine lf ?_
 obtain rfl:=Option.some.inj H
 exact rt []
abbrev dkr:S:=stB [] []
def cz9 (n:Nat):Option Bool :=
 some true
abbrev dk8 (v9:List (List UInt8)) (v10:Int) (v11:Int):S:=stB [(9,.own 9001 [.str] 0 v9.length),(10,.c (.int .i64) (.int v10)),(11,.c (.int .i64) (.int v11))] [(9001,.row 9 (List.map dwk v9))]
def bzd (n:Nat) (v9:List (List UInt8)) (v10:Int) (v11:Int):Option ((Int) ⊕ (((Bool) ⊕ (Unit)))) :=
 bif (decide (v11 < v10)) then
  gd ((0≤v11∧v11 < (v9.length:Int))∧(Int.toNat v11) < v9.length) <|
  gd (((!(if (decide (((gt v9 (Int.toNat v11)).length:Int) < 1))=true then true else (decide (((gt v9 (Int.toNat v11)).length:Int) > 8))))=true→0 < ((gt v9 (Int.toNat v11)).length:Int))∧(((!(if (decide (((gt v9 (Int.toNat v11)).length:Int) < 1))=true then true else (decide (((gt v9 (Int.toNat v11)).length:Int) > 8)))) && (decide (((((gt v9 (Int.toNat v11)).getD 0 0).toNat:Nat):Int) ≥ 48)))=true→0 < ((gt v9 (Int.toNat v11)).length:Int))) <|
  bif (if (if (decide (((gt v9 (Int.toNat v11)).length:Int) < 1))=true then true else (decide (((gt v9 (Int.toNat v11)).length:Int) > 8)))=true then true else (if (decide (((((gt v9 (Int.toNat v11)).getD 0 0).toNat:Nat):Int) ≥ 48))=true then (decide (((((gt v9 (Int.toNat v11)).getD 0 0).toNat:Nat):Int)≤57)) else false)) then
   some (.inr (.inl false))
  else
   (aqz n (gt v9 (Int.toNat v11)) [65,66,67,68,69,70,71,72,73,74,75,76,77,78,79,80,81,82,83,84,85,86,87,88,89,90,48,49,50,51,52,53,54,55,56,57,64,35,36]).bind fun r2 =>
   bif (r2 != []) then
    some (.inr (.inl false))
   else
    some (.inl (jd .i64 (v11+1)))
 else
  some (.inr (.inr ()))
def by8 (n:Nat) (s:List UInt8):Option Bool :=
 bif (decide ((s.length:Int) > 44)) then
  some false
 else
  (strings_Split n s [46]).bind fun r1 =>
  (ajk (fun (x:Int)=>bzd n r1 ((r1.length:Nat):Int) x) n 0).bind fun y8 =>
  match y8 with
  | .inl vv =>
   some vv
  | .inr vv =>
   cz9 n
def cka (n:Nat):Go.AE.Fn:=mkFn (A:=(List UInt8)) (R:=Bool) 17 [(false,[.str])] false (fun xs=>(cg (xs.getD 0 []) 0).toStr) (fun a=>[[.str a]]) (fun a=>by8 n a) (fun r=>[.c .bool (.bool r)]) (fun r=>[])
theorem dzh (n:Nat):aj2 je (cka n):=by
 have hΓ:=g1 (ew0 n) (g1 (dq0 n) (@g0 (aj2 je)))
 have qe:=aI @bz1.eq_1 @ayb.eq_1
 refine ajb (Tryz.f17.body.getD .skip) h00 Tryz.func17 rfl Tryz.call17 (by decide) (by intro _ r;exact ⟨rfl,by simp⟩) ?_
 rintro s r H
 try dsimp only at H
 unfold by8 at H
 simp only [Tryz.f17,jt]
 refine rA ?_
 refine jr fun K2 hK2=>?_
 refine rA ?_
 refine cnd H (fun h4 H=>?_) (fun h4 H=>?_)
 ·refine rA ?_
  refine js ?_
  refine lf ?_
  obtain rfl:=Option.some.inj H
  exact rt []
 refine jq ?_
 refine hK2 _ ?_
 refine j4 (fun (x:Unit)=>dkr) (fun x=>cz9 n=some r) ?_ ?_
 ·obtain ⟨r1,hr1,H⟩:=bind_some H
  have q:=aI qe hr1
  refine rAq ?_
  refine jC ?_
  obtain ⟨y8,hy8,Ho8⟩:=bind_some H
  refine j3 _ (fun x=>dk8 r1 ((r1.length:Nat):Int) x) hy8 (wb [some 144]) ?_
  rintro v11 z8 H
  try dsimp only at H
  unfold bzd at H
  refine Sm.st (dk8.eq_1 ..) ?_
  refine rA ?_
  refine jr fun K10 hK10=>?_
  refine cnd H (fun h11 H=>?_) (fun h11 H=>?_)
  ·refine jq ?_
   refine hK10 _ ?_
   refine jr fun K12 hK12=>?_
   refine jC ?_
   obtain ⟨⟨hg23,hg24⟩,H⟩:=aj7 H
   refine rA ?_
   refine jr fun K14 hK14=>?_
   obtain ⟨⟨hg21,hg22⟩,H⟩:=aj7 H
   refine rA ?_
   refine cnd H (fun h16 H=>?_) (fun h16 H=>?_)
   ·refine rA ?_
    refine js ?_
    refine lf ?_
    refine lx H fun hyy=>?_
    subst hyy
    have H:=Ho8
    try dsimp only at H
    refine lf ?_
    obtain rfl:=Option.some.inj H
    exact rt []
   refine jq ?_
   refine hK14 _ ?_
   obtain ⟨r2,hr2,H⟩:=bind_some H
   have q:=aI qe hr2
   refine rAq ?_
   refine cnd H (fun h19 H=>?_) (fun h19 H=>?_)
   ·refine rA ?_
    refine js ?_
    refine lf ?_
    refine lx H fun hyy=>?_
    subst hyy
    have H:=Ho8
    try dsimp only at H
    refine lf ?_
    obtain rfl:=Option.some.inj H
    exact rt []
   refine jq ?_
   refine hK12 _ ?_
   refine eA ?_
   refine lf ?_
   exact nx H (wb [some 9001])
  refine Jb ?_
  refine lf ?_
  refine lx H fun hyy=>?_
  subst hyy
  have H:=Ho8
  try dsimp only at H
  refine lf ?_
  exact ⟨(),H,wb []⟩
 rintro ⟨⟩ H
 try dsimp only at H
 unfold cz9 at H
 refine Sm.st (dkr.eq_1 ..) ?_
 refine rA ?_
 refine js ?_
 refine lf ?_
 obtain rfl:=Option.some.inj H
 exact rt []
def aqn (n:Nat) (d:TDcb):Option Bool :=
 (aqa n d.Org 1 3).bind fun r1 =>
 gd ((r1=true→(aqa n d.Format 1 3).isSome=true)∧((if r1=true then ((aqa n d.Format 1 3).getD default) else false)=true→(aqa n d.Lrecl 0 1024).isSome=true)∧((if (if r1=true then ((aqa n d.Format 1 3).getD default) else false)=true then ((aqa n d.Lrecl 0 1024).getD default) else false)=true→(aqa n d.Blksize 0 1024).isSome=true)∧((if (if (if r1=true then ((aqa n d.Format 1 3).getD default) else false)=true then ((aqa n d.Lrecl 0 1024).getD default) else false)=true then ((aqa n d.Blksize 0 1024).getD default) else false)=true→(aqa n d.KeyPos 0 1024).isSome=true)∧((if (if (if (if r1=true then ((aqa n d.Format 1 3).getD default) else false)=true then ((aqa n d.Lrecl 0 1024).getD default) else false)=true then ((aqa n d.Blksize 0 1024).getD default) else false)=true then ((aqa n d.KeyPos 0 1024).getD default) else false)=true→(aqa n d.KeyLen 0 64).isSome=true)) <|
 some (if (if (if (if (if r1=true then ((aqa n d.Format 1 3).getD default) else false)=true then ((aqa n d.Lrecl 0 1024).getD default) else false)=true then ((aqa n d.Blksize 0 1024).getD default) else false)=true then ((aqa n d.KeyPos 0 1024).getD default) else false)=true then ((aqa n d.KeyLen 0 64).getD default) else false)
def bw0 (n:Nat):Go.AE.Fn:=mkFn (A:=TDcb) (R:=Bool) 84 [(true,[.int .i64,.int .i64,.bool,.bool,.int .i64,.int .i64,.int .i64,.int .i64])] false (fun xs=>(⟨(cg (xs.getD 0 []) 0).toInt,(cg (xs.getD 0 []) 1).toInt,(cg (xs.getD 0 []) 2).toBool,(cg (xs.getD 0 []) 3).toBool,(cg (xs.getD 0 []) 4).toInt,(cg (xs.getD 0 []) 5).toInt,(cg (xs.getD 0 []) 6).toInt,(cg (xs.getD 0 []) 7).toInt⟩:TDcb)) (fun a=>[[.int a.Org,.int a.Format,.bool a.Blocked,.bool a.Asa,.int a.Lrecl,.int a.Blksize,.int a.KeyLen,.int a.KeyPos]]) (fun a=>aqn n a) (fun r=>[.c .bool (.bool r)]) (fun r=>[])
theorem by9 (n:Nat):aj2 je (bw0 n):=by
 have hΓ:=g1 (dyi n) (@g0 (aj2 je))
 refine ajb (Tryz.f84.body.getD .skip) h00 Tryz.func84 rfl Tryz.call84 (by decide) (by intro _ r;exact ⟨rfl,by simp⟩) ?_
 rintro d r H
 try dsimp only at H
 unfold aqn at H
 simp only [Tryz.f84,jt]
 refine rA ?_
 obtain ⟨r1,hr1,H⟩:=bind_some H
 obtain ⟨⟨hg3,hg4,hg5,hg6,hg7⟩,H⟩:=aj7 H
 have q:=aI @dju.eq_1 hr1
 refine rAq ?_
 refine js ?_
 refine lf ?_
 obtain rfl:=Option.some.inj H
 exact rt []
def bq5 (n:Nat) (x_:aj0):Option Bool :=
 some (if (if (if (decide (x_.At ≥ 0))=true then (decide (x_.Len ≥ 1)) else false)=true then (decide (x_.At < 512)) else false)=true then (decide (x_.Len≤(jd .i64 (512 - x_.At)))) else false)
def cq3 (n:Nat):Go.AE.Fn:=mkFn (A:=aj0) (R:=Bool) 125 [(true,[.int .i64,.int .i64])] false (fun xs=>(⟨(cg (xs.getD 0 []) 0).toInt,(cg (xs.getD 0 []) 1).toInt⟩:aj0)) (fun a=>[[.int a.At,.int a.Len]]) (fun a=>bq5 n a) (fun r=>[.c .bool (.bool r)]) (fun r=>[])
theorem dq8 (n:Nat):aj2 je (cq3 n):=by
 have hΓ:=@g0 (aj2 je)
 refine ajb (Tryz.f125.body.getD .skip) h00 Tryz.func125 rfl Tryz.call125 (by decide) (by intro _ r;exact ⟨rfl,by simp⟩) ?_
 rintro x_ r H
 try dsimp only at H
 unfold bq5 at H
 simp only [Tryz.f125,jt]
 refine rA ?_
 refine rA ?_
 refine js ?_
 refine lf ?_
 obtain rfl:=Option.some.inj H
 exact rt []
def awl (n:Nat) (s:List aj0):Option (List aj0) :=
 uniB s fun nb1 =>
 bif nb1 then
  some []
 else
  gd (s.length≤2147483648) <|
  some s
def aw9 (n:Nat):Go.AE.Fn:=mkFn (A:=(List aj0)) (R:=(List aj0)) 118 [(false,[.slice 80])] false (fun xs=>((cg (xs.getD 0 []) 0).toSl.map ajl)) (fun a=>[[.slice (List.map aj1 a)]]) (fun a=>awl n a) (fun r=>[.own 0 [.int .i64,.int .i64] 0 r.length]) (fun r=>[.row 80 (List.map aj1 r)])
theorem akp (n:Nat):aj2 je (aw9 n):=by
 have hΓ:=@g0 (aj2 je)
 refine ajb (Tryz.f118.body.getD .skip) h00 Tryz.func118 rfl Tryz.call118 (by decide) (fun _ r=>⟨rfl,m1 ⟨80,_,_,rfl,ty80,rfl⟩ m0⟩) ?_
 rintro s r H
 try dsimp only at H
 unfold awl at H
 simp only [Tryz.f118,jt]
 refine rA ?_
 refine jr fun K2 hK2=>?_
 refine sX fun K3 hK3=>?_
 refine oX ?_
 refine opsN fun K hK=>?_;simp only [z,seval];(repeat (first | refine gcI ?_ | refine fun (_:_≤_)=>?_));intro nb1 hnb1;refine hK _ ?_;clear hK K
 replace H:=gko H nb1 (fun hb=>by simpa using hnb1 hb)
 refine hK3 _ ?_
 refine cnd H (fun h4 H=>?_) (fun h4 H=>?_)
 ·refine rA ?_
  refine js ?_
  refine lf ?_
  obtain rfl:=Option.some.inj H
  exact rto [none]
 refine jq ?_
 refine hK2 _ ?_
 obtain ⟨hg7,H⟩:=aj7 H
 refine rA ?_
 refine js ?_
 refine lf ?_
 obtain rfl:=Option.some.inj H
 exact rto [some 112]
def bz0 (n:Nat) (x_:Int):Option Bool :=
 some (x_ != x_)
def bzw (n:Nat) (x_:Int) (y:Int):Option Int :=
 (bz0 n x_).bind fun r1 =>
 (bz0 n y).bind fun r2 =>
 bif r1 then
  bif r2 then
   some 0
  else
   some (-1)
 else
  bif r2 then
   some 1
  else
   bif (decide (x_ < y)) then
    some (-1)
   else
    bif (decide (x_ > y)) then
     some 1
    else
     some 0
def azn (n:Nat) (a:aj0) (b:aj0):Option Int :=
 (bzw n a.At b.At).bind fun r1 =>
 some r1
def azd (n:Nat) (s:List aj0):Option (List aj0):=fwm (fun x y=>azn n x y) s
theorem byc (n:Nat) (s:List aj0) (r:List aj0) (H:azd n s=some r):aqg je 164 [.ref (.own 0 [.int .i64,.int .i64] 0 s.length),.ref (.fnv 165 [])] [.row 80 (List.map aj1 s)] [] [.row 80 (List.map aj1 r)] :=
 dkf hky ty80 Tryz.isAgg80 Tryz.sizeOf80 (by decide) (by decide) (by intro args w;exact Tryz.call165 args w) aj1 (fun _=>rfl) (fun x y=>azn n x y) (fun x y c h=>hk6 _ _ _ _ _ (by
  simp only [azn,bzw,bz0,Option.bind_some,bne_self_eq_false,cond_false,gt_iff_lt] at h
  by_cases h1:x.At < y.At <;> by_cases h2:y.At < x.At <;> simp [h1,h2] at h ⊢ <;> first | exact h.symm | omega)) s r H
def ayu (n:Nat) (l:List aj0):Option (List aj0) :=
 (awl n l).bind fun r1 =>
 (azd n r1).bind fun r2 =>
 some (List.take r1.length r2)
def byz (n:Nat):Go.AE.Fn:=mkFn (A:=(List aj0)) (R:=(List aj0)) 126 [(false,[.slice 80])] true (fun xs=>((cg (xs.getD 0 []) 0).toSl.map ajl)) (fun a=>[[.slice (List.map aj1 a)]]) (fun a=>ayu n a) (fun r=>[.c (.slice 80) (.slice (List.map aj1 r))]) (fun r=>[])
theorem cko (n:Nat):aj2 je (byz n):=by
 have hΓ:=g1 (akp n) (@g0 (aj2 je))
 refine ajb (Tryz.f126.body.getD .skip) h00 Tryz.func126 rfl Tryz.call126 (by decide) (by intro h;cases h) ?_
 rintro l r H
 try dsimp only at H
 unfold ayu at H
 simp only [Tryz.f126,jt]
 refine rA ?_
 obtain ⟨r1,hr1,H⟩:=bind_some H
 have q:=aI @aw9.eq_1 hr1
 refine rAq ?_
 refine sX fun K3 hK3=>?_
 obtain ⟨r2,hr2,H⟩:=bind_some H
 have q:=hr2
 refine oX ?_
 refine oMq (byc n _ r2 hr2) [80] [] ?_
 refine hK3 _ ?_
 refine rA ?_
 refine js ?_
 refine lf ?_
 obtain rfl:=Option.some.inj H
 exact rt []
abbrev cz7:S:=stB [] []
def bqk (n:Nat):Option Bool :=
 some true
abbrev cz8 (s:List aj0) (i:Int):S:=stB [(5,.c (.slice 80) (.slice (List.map aj1 s))),(6,.c (.int .i64) (.int i))] []
def azt (n:Nat) (s:List aj0) (i:Int):Option ((Int) ⊕ (((Bool) ⊕ (Unit)))) :=
 bif (decide (i < (s.length:Int))) then
  gd ((0≤i∧i < (s.length:Int))∧(0≤(jd .i64 (i - 1))∧(jd .i64 (i - 1)) < (s.length:Int))∧(0≤(jd .i64 (i - 1))∧(jd .i64 (i - 1)) < (s.length:Int))) <|
  bif (decide (((gt s (Int.toNat i)).At) < (jd .i64 (((gt s (Int.toNat (jd .i64 (i - 1)))).At)+((gt s (Int.toNat (jd .i64 (i - 1)))).Len))))) then
   some (.inr (.inl false))
  else
   some (.inl (jd .i64 (i+1)))
 else
  some (.inr (.inr ()))
abbrev cz2 (l:List aj0):S:=stB [(0,.c (.slice 80) (.slice (List.map aj1 l)))] []
def bqf (n:Nat) (l:List aj0):Option Bool :=
 (ayu n l).bind fun r1 =>
 (ajk (fun (x:Int)=>azt n r1 x) n 1).bind fun y9 =>
 match y9 with
 | .inl vv =>
  some vv
 | .inr vv =>
  bqk n
abbrev czo (l:List aj0) (v11:Int) (v12:Int):S:=stB [(0,.c (.slice 80) (.slice (List.map aj1 l))),(10,.c (.slice 80) (.slice (List.map aj1 l))),(11,.c (.int .i64) (.int v11)),(12,.c (.int .i64) (.int v12))] []
def ay8 (n:Nat) (l:List aj0) (v11:Int) (v12:Int):Option ((Int) ⊕ (((Bool) ⊕ (Unit)))) :=
 bif (decide (v12 < v11)) then
  gd ((0≤v12∧v12 < (l.length:Int))) <|
  (bq5 n (gt l (Int.toNat v12))).bind fun r2 =>
  bif (!r2) then
   some (.inr (.inl false))
  else
   some (.inl (jd .i64 (v12+1)))
 else
  some (.inr (.inr ()))
def aw3 (n:Nat) (l:List aj0):Option Bool :=
 bif (decide ((l.length:Int) > 512)) then
  some false
 else
  (ajk (fun (x:Int)=>ay8 n l (l.length:Int) x) n 0).bind fun y21 =>
  match y21 with
  | .inl vv =>
   some vv
  | .inr vv =>
   bqf n l
def ayk (n:Nat):Go.AE.Fn:=mkFn (A:=(List aj0)) (R:=Bool) 69 [(false,[.slice 80])] false (fun xs=>((cg (xs.getD 0 []) 0).toSl.map ajl)) (fun a=>[[.slice (List.map aj1 a)]]) (fun a=>aw3 n a) (fun r=>[.c .bool (.bool r)]) (fun r=>[])
theorem bqw (n:Nat):aj2 je (ayk n):=by
 have hΓ:=g1 (dq8 n) (g1 (cko n) (@g0 (aj2 je)))
 have qe:=aI @cq3.eq_1 @byz.eq_1
 refine ajb (Tryz.f69.body.getD .skip) h00 Tryz.func69 rfl Tryz.call69 (by decide) (by intro _ r;exact ⟨rfl,by simp⟩) ?_
 rintro l r H
 try dsimp only at H
 unfold aw3 at H
 simp only [Tryz.f69,jt]
 refine rA ?_
 refine jr fun K2 hK2=>?_
 refine rA ?_
 refine cnd H (fun h4 H=>?_) (fun h4 H=>?_)
 ·refine rA ?_
  refine js ?_
  refine lf ?_
  obtain rfl:=Option.some.inj H
  exact rt []
 refine jq ?_
 refine hK2 _ ?_
 refine j4 (fun (x:Unit)=>cz2 l) (fun x=>bqf n l=some r) ?_ ?_
 ·refine rA ?_
  refine jC ?_
  obtain ⟨y21,hy21,Ho21⟩:=bind_some H
  refine j3 _ (fun x=>czo l (l.length:Int) x) hy21 (wb []) ?_
  rintro v12 z21 H
  try dsimp only at H
  unfold ay8 at H
  refine Sm.st (czo.eq_1 ..) ?_
  refine rA ?_
  refine jr fun K23 hK23=>?_
  refine cnd H (fun h24 H=>?_) (fun h24 H=>?_)
  ·refine jq ?_
   refine hK23 _ ?_
   refine jr fun K25 hK25=>?_
   refine jC ?_
   obtain ⟨hg30,H⟩:=aj7 H
   refine rA ?_
   obtain ⟨r2,hr2,H⟩:=bind_some H
   have q:=aI qe hr2
   refine rAq ?_
   refine cnd H (fun h28 H=>?_) (fun h28 H=>?_)
   ·refine rA ?_
    refine js ?_
    refine lf ?_
    refine lx H fun hyy=>?_
    subst hyy
    have H:=Ho21
    try dsimp only at H
    refine lf ?_
    obtain rfl:=Option.some.inj H
    exact rt []
   refine jq ?_
   refine hK25 _ ?_
   refine eA ?_
   refine lf ?_
   exact nx H (wb [])
  refine Jb ?_
  refine lf ?_
  refine lx H fun hyy=>?_
  subst hyy
  have H:=Ho21
  try dsimp only at H
  refine lf ?_
  exact ⟨(),H,wb []⟩
 rintro ⟨⟩ H
 try dsimp only at H
 unfold bqf at H
 refine Sm.st (cz2.eq_1 ..) ?_
 obtain ⟨r1,hr1,H⟩:=bind_some H
 have q:=aI qe hr1
 refine rAq ?_
 refine j4 (fun (x:Unit)=>cz7) (fun x=>bqk n=some r) ?_ ?_
 ·refine rA ?_
  refine jC ?_
  obtain ⟨y9,hy9,Ho9⟩:=bind_some H
  refine j3 _ (fun x=>cz8 r1 x) hy9 (wb []) ?_
  rintro i z9 H
  try dsimp only at H
  unfold azt at H
  refine Sm.st (cz8.eq_1 ..) ?_
  refine jr fun K10 hK10=>?_
  refine rA ?_
  refine cnd H (fun h12 H=>?_) (fun h12 H=>?_)
  ·refine jq ?_
   refine hK10 _ ?_
   refine jr fun K13 hK13=>?_
   refine jC ?_
   obtain ⟨⟨hg17,hg18,hg19⟩,H⟩:=aj7 H
   refine rD ?_
   refine cnd H (fun h15 H=>?_) (fun h15 H=>?_)
   ·refine rA ?_
    refine js ?_
    refine lf ?_
    refine lx H fun hyy=>?_
    subst hyy
    have H:=Ho9
    try dsimp only at H
    refine lf ?_
    obtain rfl:=Option.some.inj H
    exact rt []
   refine jq ?_
   refine hK13 _ ?_
   refine eA ?_
   refine lf ?_
   exact nx H (wb [])
  refine Jb ?_
  refine lf ?_
  refine lx H fun hyy=>?_
  subst hyy
  have H:=Ho9
  try dsimp only at H
  refine lf ?_
  exact ⟨(),H,wb []⟩
 rintro ⟨⟩ H
 try dsimp only at H
 unfold bqk at H
 refine Sm.st (cz7.eq_1 ..) ?_
 refine rA ?_
 refine js ?_
 refine lf ?_
 obtain rfl:=Option.some.inj H
 exact rt []
abbrev czj (n_:Int):S:=stB [(3,.c (.int .i64) (.int n_))] []
def bw6 (n:Nat) (n_:Int):Option Int :=
 some n_
abbrev czt (l:List aj0) (v10:Int) (n__1:Int) (v11:Int):S:=stB [(3,.c (.int .i64) (.int n__1)),(9,.c (.slice 80) (.slice (List.map aj1 l))),(10,.c (.int .i64) (.int v10)),(11,.c (.int .i64) (.int v11))] []
def azs (n:Nat) (l:List aj0) (v10:Int) (n__1:Int) (v11:Int):Option ((Int×Int) ⊕ ((Int))) :=
 bif (decide (v11 < v10)) then
  gd ((0≤v11∧v11 < (l.length:Int))) <|
  some (.inl ((jd .i64 (n__1+((gt l (Int.toNat v11)).Len))),(jd .i64 (v11+1))))
 else
  some (.inr n__1)
def bq3 (n:Nat) (l:List aj0):Option Int :=
 (aw3 n l).bind fun r1 =>
 bif (!r1) then
  some 0
 else
  (ajk (fun (x:Int×Int)=>azs n l (l.length:Int) x.1 x.2) n (0,0)).bind fun y9 =>
  bw6 n y9
def cqm (n:Nat):Go.AE.Fn:=mkFn (A:=(List aj0)) (R:=Int) 99 [(false,[.slice 80])] false (fun xs=>((cg (xs.getD 0 []) 0).toSl.map ajl)) (fun a=>[[.slice (List.map aj1 a)]]) (fun a=>bq3 n a) (fun r=>[.c (.int .i64) (.int r)]) (fun r=>[])
theorem dqs (n:Nat):aj2 je (cqm n):=by
 have hΓ:=g1 (bqw n) (@g0 (aj2 je))
 refine ajb (Tryz.f99.body.getD .skip) h00 Tryz.func99 rfl Tryz.call99 (by decide) (by intro _ r;exact ⟨rfl,by simp⟩) ?_
 rintro l r H
 try dsimp only at H
 unfold bq3 at H
 simp only [Tryz.f99,jt]
 refine rA ?_
 refine jr fun K2 hK2=>?_
 obtain ⟨r1,hr1,H⟩:=bind_some H
 have q:=aI @ayk.eq_1 hr1
 refine rAq ?_
 refine cnd H (fun h4 H=>?_) (fun h4 H=>?_)
 ·refine rA ?_
  refine js ?_
  refine lf ?_
  obtain rfl:=Option.some.inj H
  exact rt []
 refine jq ?_
 refine hK2 _ ?_
 refine rA ?_
 refine j4 (fun (x:Int)=>czj x) (fun x=>bw6 n x=some r) ?_ ?_
 ·refine rA ?_
  refine jC ?_
  obtain ⟨y9,hy9,Ho9⟩:=bind_some H
  refine j3 _ (fun x=>czt l (l.length:Int) x.1 x.2) hy9 (wb []) ?_
  rintro ⟨n__1,v11⟩ z9 H
  try dsimp only at H
  unfold azs at H
  refine Sm.st (czt.eq_1 ..) ?_
  refine rA ?_
  refine jr fun K11 hK11=>?_
  refine cnd H (fun h12 H=>?_) (fun h12 H=>?_)
  ·refine jq ?_
   refine hK11 _ ?_
   refine jr fun K13 hK13=>?_
   refine jC ?_
   obtain ⟨hg15,H⟩:=aj7 H
   refine rA ?_
   refine eA ?_
   refine hK13 _ ?_
   refine eA ?_
   refine lf ?_
   exact nx H (wb [])
  refine Jb ?_
  refine lf ?_
  refine lx H fun hyy=>?_
  subst hyy
  have H:=Ho9
  try dsimp only at H
  refine lf ?_
  exact ⟨_,H,wb []⟩
 rintro n_ H
 try dsimp only at H
 unfold bw6 at H
 refine Sm.st (czj.eq_1 ..) ?_
 refine rA ?_
 refine js ?_
 refine lf ?_
 obtain rfl:=Option.some.inj H
 exact rt []
abbrev byp (d:aj6):S:=stB [(3,.box 9000 0)] [(9000,.box [.c .str (.str d.Name),.c (.int .i64) (.int d.Dcb.Org),.c (.int .i64) (.int d.Dcb.Format),.c .bool (.bool d.Dcb.Blocked),.c .bool (.bool d.Dcb.Asa),.c (.int .i64) (.int d.Dcb.Lrecl),.c (.int .i64) (.int d.Dcb.Blksize),.c (.int .i64) (.int d.Dcb.KeyLen),.c (.int .i64) (.int d.Dcb.KeyPos),.c (.slice 80) (.slice (List.map aj1 d.Extents)),.c (.int .i64) (.int d.Used)])]
def akn (n:Nat) (d:aj6):Option Bool :=
 (bq3 n d.Extents).bind fun r2 =>
 (aqa n d.Used 0 r2).bind fun r3 =>
 some r3
abbrev byn (v:aj5) (d:aj6) (v32:Int) (v33:Int):S:=stB [(2,.box 9003 0),(3,.box 9004 0),(31,.c (.slice 80) (.slice (List.map aj1 d.Extents))),(32,.c (.int .i64) (.int v32)),(33,.c (.int .i64) (.int v33))] [(9003,.box [.c .str (.str v.Serial),.c (.int .i64) (.int v.Cyls),.c (.int .i64) (.int v.Heads),.c (.int .i64) (.int v.Size),.c (.slice 41) (.slice (List.map aj3 v.Sets))]),(9004,.box [.c .str (.str d.Name),.c (.int .i64) (.int d.Dcb.Org),.c (.int .i64) (.int d.Dcb.Format),.c .bool (.bool d.Dcb.Blocked),.c .bool (.bool d.Dcb.Asa),.c (.int .i64) (.int d.Dcb.Lrecl),.c (.int .i64) (.int d.Dcb.Blksize),.c (.int .i64) (.int d.Dcb.KeyLen),.c (.int .i64) (.int d.Dcb.KeyPos),.c (.slice 80) (.slice (List.map aj1 d.Extents)),.c (.int .i64) (.int d.Used)])]
def azc (n:Nat) (v:aj5) (d:aj6) (v32:Int) (v33:Int):Option ((Int) ⊕ (((Bool) ⊕ (Unit)))) :=
 bif (decide (v33 < v32)) then
  gd ((0≤v33∧v33 < (d.Extents.length:Int))) <|
  bif (decide ((jd .i64 (((gt d.Extents (Int.toNat v33)).At)+((gt d.Extents (Int.toNat v33)).Len))) > (jd .i64 (v.Cyls * v.Heads)))) then
   some (.inr (.inl false))
  else
   some (.inl (jd .i64 (v33+1)))
 else
  some (.inr (.inr ()))
def ay6 (n:Nat) (v:aj5) (d:aj6):Option Bool :=
 (by8 n d.Name).bind fun r1 =>
 gd (((!(!r1))=true→(aqn n d.Dcb).isSome=true)∧((!(if (!r1)=true then true else (!((aqn n d.Dcb).getD default))))=true→(aqa n (d.Extents.length:Int) 1 8).isSome=true)∧((!(if (if (!r1)=true then true else (!((aqn n d.Dcb).getD default)))=true then true else (!((aqa n (d.Extents.length:Int) 1 8).getD default))))=true→(aw3 n d.Extents).isSome=true)) <|
 bif (if (if (if (!r1)=true then true else (!((aqn n d.Dcb).getD default)))=true then true else (!((aqa n (d.Extents.length:Int) 1 8).getD default)))=true then true else (!((aw3 n d.Extents).getD default))) then
  some false
 else
  (ajk (fun (x:Int)=>azc n v d (d.Extents.length:Int) x) n 0).bind fun y8 =>
  match y8 with
  | .inl vv =>
   some vv
  | .inr vv =>
   akn n d
def cw7 (n:Nat):Go.AE.Fn:=mkFn (A:=aj5×aj6) (R:=Bool) 68 [(true,[.str,.int .i64,.int .i64,.int .i64,.slice 41]),(true,[.str,.int .i64,.int .i64,.bool,.bool,.int .i64,.int .i64,.int .i64,.int .i64,.slice 80,.int .i64])] false (fun xs=>((⟨(cg (xs.getD 0 []) 0).toStr,(cg (xs.getD 0 []) 1).toInt,(cg (xs.getD 0 []) 2).toInt,(cg (xs.getD 0 []) 3).toInt,((cg (xs.getD 0 []) 4).toSl.map aq3)⟩:aj5),(⟨(cg (xs.getD 1 []) 0).toStr,(⟨(cg (xs.getD 1 []) 1).toInt,(cg (xs.getD 1 []) 2).toInt,(cg (xs.getD 1 []) 3).toBool,(cg (xs.getD 1 []) 4).toBool,(cg (xs.getD 1 []) 5).toInt,(cg (xs.getD 1 []) 6).toInt,(cg (xs.getD 1 []) 7).toInt,(cg (xs.getD 1 []) 8).toInt⟩:TDcb),((cg (xs.getD 1 []) 9).toSl.map ajl),(cg (xs.getD 1 []) 10).toInt⟩:aj6))) (fun a=>[[.str a.1.Serial,.int a.1.Cyls,.int a.1.Heads,.int a.1.Size,.slice (List.map aj3 a.1.Sets)],[.str a.2.Name,.int a.2.Dcb.Org,.int a.2.Dcb.Format,.bool a.2.Dcb.Blocked,.bool a.2.Dcb.Asa,.int a.2.Dcb.Lrecl,.int a.2.Dcb.Blksize,.int a.2.Dcb.KeyLen,.int a.2.Dcb.KeyPos,.slice (List.map aj1 a.2.Extents),.int a.2.Used]]) (fun a=>ay6 n a.1 a.2) (fun r=>[.c .bool (.bool r)]) (fun r=>[])
theorem dy0 (n:Nat):aj2 je (cw7 n):=by
 have hΓ:=g1 (dzh n) (g1 (by9 n) (g1 (dyi n) (g1 (bqw n) (g1 (dqs n) (@g0 (aj2 je))))))
 have qe:=aI @cka.eq_1 (aI @bw0.eq_1 (aI @dju.eq_1 (aI @ayk.eq_1 @cqm.eq_1)))
 refine ajb (Tryz.f68.body.getD .skip) h00 Tryz.func68 rfl Tryz.call68 (by decide) (by intro _ r;exact ⟨rfl,by simp⟩) ?_
 rintro ⟨v,d⟩ r H
 try dsimp only at H
 unfold ay6 at H
 simp only [Tryz.f68,jt]
 refine rA ?_
 refine jr fun K2 hK2=>?_
 obtain ⟨r1,hr1,H⟩:=bind_some H
 obtain ⟨⟨hg18,hg19,hg20⟩,H⟩:=aj7 H
 have q:=aI qe hr1
 refine rAq ?_
 refine cnd H (fun h4 H=>?_) (fun h4 H=>?_)
 ·refine rA ?_
  refine js ?_
  refine lf ?_
  obtain rfl:=Option.some.inj H
  exact rt []
 refine jq ?_
 refine hK2 _ ?_
 refine j4 (fun (x:Unit)=>byp d) (fun x=>akn n d=some r) ?_ ?_
 ·refine rA ?_
  refine jC ?_
  obtain ⟨y8,hy8,Ho8⟩:=bind_some H
  refine j3 _ (fun x=>byn v d (d.Extents.length:Int) x) hy8 (wb [some 32,some 48]) ?_
  rintro v33 z8 H
  try dsimp only at H
  unfold azc at H
  refine Sm.st (byn.eq_1 ..) ?_
  refine rA ?_
  refine jr fun K10 hK10=>?_
  refine cnd H (fun h11 H=>?_) (fun h11 H=>?_)
  ·refine jq ?_
   refine hK10 _ ?_
   refine jr fun K12 hK12=>?_
   refine jC ?_
   obtain ⟨hg17,H⟩:=aj7 H
   refine rA ?_
   refine rA ?_
   refine cnd H (fun h15 H=>?_) (fun h15 H=>?_)
   ·refine rA ?_
    refine js ?_
    refine lf ?_
    refine lx H fun hyy=>?_
    subst hyy
    have H:=Ho8
    try dsimp only at H
    refine lf ?_
    obtain rfl:=Option.some.inj H
    exact rt []
   refine jq ?_
   refine hK12 _ ?_
   refine eA ?_
   refine lf ?_
   exact nx H (wb [some 9003,some 9004])
  refine Jb ?_
  refine lf ?_
  refine lx H fun hyy=>?_
  subst hyy
  have H:=Ho8
  try dsimp only at H
  refine lf ?_
  exact ⟨(),H,wb [some 9004]⟩
 rintro ⟨⟩ H
 try dsimp only at H
 unfold akn at H
 refine Sm.st (byp.eq_1 ..) ?_
 obtain ⟨r2,hr2,H⟩:=bind_some H
 obtain ⟨r3,hr3,H⟩:=bind_some H
 have q:=aI qe (aI hr2 hr3)
 refine rDq ?_
 refine js ?_
 refine lf ?_
 obtain rfl:=Option.some.inj H
 exact rt []
abbrev dqa (used:List aj0):S:=stB [(3,.own 9000 [.int .i64,.int .i64] 0 used.length)] [(9000,.row 80 (List.map aj1 used))]
def bk6 (n:Nat) (used:List aj0):Option Int :=
 (aw3 n used).bind fun r3 =>
 bif (!r3) then
  some 5
 else
  some 0
abbrev dwj (v:aj5) (v54:Int) (used_1:List aj0) (v55:Int):S:=stB [(1,.box 9003 0),(3,.own 9004 [.int .i64,.int .i64] 0 used_1.length),(53,.c (.slice 41) (.slice (List.map aj3 v.Sets))),(54,.c (.int .i64) (.int v54)),(55,.c (.int .i64) (.int v55))] [(9003,.box [.c .str (.str v.Serial),.c (.int .i64) (.int v.Cyls),.c (.int .i64) (.int v.Heads),.c (.int .i64) (.int v.Size),.c (.slice 41) (.slice (List.map aj3 v.Sets))]),(9004,.row 80 (List.map aj1 used_1))]
def ak4 (n:Nat) (v:aj5) (v54:Int) (used_1:List aj0) (v55:Int):Option (((List aj0)×Int) ⊕ (((Int) ⊕ ((List aj0))))) :=
 bif (decide (v55 < v54)) then
  gd ((0≤v55∧v55 < (v.Sets.length:Int))) <|
  (ay6 n v (gt v.Sets (Int.toNat v55))).bind fun r4 =>
  gd ((((!(!r4)) && (decide (v55 > 0)))=true→(0≤(jd .i64 (v55 - 1))∧(jd .i64 (v55 - 1)) < (v.Sets.length:Int)))) <|
  bif (if (!r4)=true then true else (if (decide (v55 > 0))=true then (!Op.bytesLess ((gt v.Sets (Int.toNat (jd .i64 (v55 - 1)))).Name) ((gt v.Sets (Int.toNat v55)).Name)) else false)) then
   some (.inr (.inl 5))
  else
   gd ((used_1.length+((gt v.Sets (Int.toNat v55)).Extents).length)≤2147483648) <|
   some (.inl ((used_1 ++ (gt v.Sets (Int.toNat v55)).Extents),(jd .i64 (v55+1))))
 else
  some (.inr (.inr used_1))
def az3 (n:Nat) (v:aj5):Option Int :=
 (aqa n (v.Serial.length:Int) 1 6).bind fun r1 =>
 gd (((!(!r1))=true→(aqz n v.Serial [65,66,67,68,69,70,71,72,73,74,75,76,77,78,79,80,81,82,83,84,85,86,87,88,89,90,48,49,50,51,52,53,54,55,56,57]).isSome=true)) <|
 bif (if (!r1)=true then true else (((aqz n v.Serial [65,66,67,68,69,70,71,72,73,74,75,76,77,78,79,80,81,82,83,84,85,86,87,88,89,90,48,49,50,51,52,53,54,55,56,57]).getD default) != [])) then
  some 5
 else
  (aqa n v.Cyls 1 64).bind fun r2 =>
  gd (((!(!r2))=true→(aqa n v.Heads 1 8).isSome=true)∧((!(if (!r2)=true then true else (!((aqa n v.Heads 1 8).getD default))))=true→(aqa n v.Size 1 (jd .i64 ((jd .i64 (v.Cyls * v.Heads)) - 1))).isSome=true)) <|
  bif (if (if (!r2)=true then true else (!((aqa n v.Heads 1 8).getD default)))=true then true else (!((aqa n v.Size 1 (jd .i64 ((jd .i64 (v.Cyls * v.Heads)) - 1))).getD default))) then
   some 5
  else
   bif (decide ((v.Sets.length:Int) > (if (jd .i64 (14 * v.Size)) < 64 then (jd .i64 (14 * v.Size)) else 64))) then
    some 5
   else
    (ajk (fun (x:(List aj0)×Int)=>ak4 n v (v.Sets.length:Int) x.1 x.2) n ([(⟨0,(jd .i64 (v.Size+1))⟩:aj0)],0)).bind fun y21 =>
    match y21 with
    | .inl vv =>
     some vv
    | .inr vv =>
     bk6 n vv
def azf (n:Nat):Go.AE.Fn:=mkFn (A:=aj5) (R:=Int) 30 [(true,[.str,.int .i64,.int .i64,.int .i64,.slice 41])] false (fun xs=>(⟨(cg (xs.getD 0 []) 0).toStr,(cg (xs.getD 0 []) 1).toInt,(cg (xs.getD 0 []) 2).toInt,(cg (xs.getD 0 []) 3).toInt,((cg (xs.getD 0 []) 4).toSl.map aq3)⟩:aj5)) (fun a=>[[.str a.Serial,.int a.Cyls,.int a.Heads,.int a.Size,.slice (List.map aj3 a.Sets)]]) (fun a=>az3 n a) (fun r=>[.c (.int .i64) (.int r)]) (fun r=>[])
theorem ak5 (n:Nat):aj2 je (azf n):=by
 have hΓ:=g1 (dyi n) (g1 (dq0 n) (g1 (dy0 n) (g1 (bqw n) (@g0 (aj2 je)))))
 have qe:=aI @dju.eq_1 (aI @ayb.eq_1 (aI @cw7.eq_1 @ayk.eq_1))
 refine ajb (Tryz.f30.body.getD .skip) h00 Tryz.func30 rfl Tryz.call30 (by decide) (by intro _ r;exact ⟨rfl,by simp⟩) ?_
 rintro v r H
 try dsimp only at H
 unfold az3 at H
 simp only [Tryz.f30,jt]
 refine rA ?_
 refine jr fun K2 hK2=>?_
 obtain ⟨r1,hr1,H⟩:=bind_some H
 obtain ⟨hg36,H⟩:=aj7 H
 have q:=aI qe hr1
 refine rAq ?_
 refine cnd H (fun h4 H=>?_) (fun h4 H=>?_)
 ·refine rA ?_
  refine js ?_
  refine lf ?_
  obtain rfl:=Option.some.inj H
  exact rt []
 refine jq ?_
 refine hK2 _ ?_
 refine jr fun K6 hK6=>?_
 obtain ⟨r2,hr2,H⟩:=bind_some H
 obtain ⟨⟨hg34,hg35⟩,H⟩:=aj7 H
 have q:=aI qe hr2
 refine rAq ?_
 refine cnd H (fun h8 H=>?_) (fun h8 H=>?_)
 ·refine rA ?_
  refine js ?_
  refine lf ?_
  obtain rfl:=Option.some.inj H
  exact rt []
 refine jq ?_
 refine hK6 _ ?_
 refine jr fun K10 hK10=>?_
 refine rA ?_
 refine cnd H (fun h12 H=>?_) (fun h12 H=>?_)
 ·refine rA ?_
  refine js ?_
  refine lf ?_
  obtain rfl:=Option.some.inj H
  exact rt []
 refine jq ?_
 refine hK10 _ ?_
 refine rA ?_
 refine j4 (fun (x:(List aj0))=>dqa x) (fun x=>bk6 n x=some r) ?_ ?_
 ·refine rA ?_
  refine jC ?_
  obtain ⟨y21,hy21,Ho21⟩:=bind_some H
  refine j3 _ (fun x=>dwj v (v.Sets.length:Int) x.1 x.2) hy21 (wb [some 16,some 816]) ?_
  rintro ⟨used_1,v55⟩ z21 H
  try dsimp only at H
  unfold ak4 at H
  refine Sm.st (dwj.eq_1 ..) ?_
  refine rA ?_
  refine jr fun K23 hK23=>?_
  refine cnd H (fun h24 H=>?_) (fun h24 H=>?_)
  ·refine jq ?_
   refine hK23 _ ?_
   refine jr fun K25 hK25=>?_
   refine jC ?_
   obtain ⟨hg33,H⟩:=aj7 H
   refine rA ?_
   refine jr fun K27 hK27=>?_
   obtain ⟨r4,hr4,H⟩:=bind_some H
   obtain ⟨hg32,H⟩:=aj7 H
   have q:=aI qe hr4
   refine rDq ?_
   refine cnd H (fun h29 H=>?_) (fun h29 H=>?_)
   ·refine rA ?_
    refine js ?_
    refine lf ?_
    refine lx H fun hyy=>?_
    subst hyy
    have H:=Ho21
    try dsimp only at H
    refine lf ?_
    obtain rfl:=Option.some.inj H
    exact rt []
   refine jq ?_
   refine hK27 _ ?_
   obtain ⟨hg31,H⟩:=aj7 H
   refine eA ?_
   refine hK25 _ ?_
   refine eA ?_
   refine lf ?_
   exact nx H (wb [some 9003,some 1328])
  refine Jb ?_
  refine lf ?_
  refine lx H fun hyy=>?_
  subst hyy
  have H:=Ho21
  try dsimp only at H
  refine lf ?_
  exact ⟨_,H,wb [some 9004]⟩
 rintro used H
 try dsimp only at H
 unfold bk6 at H
 refine Sm.st (dqa.eq_1 ..) ?_
 refine jr fun K15 hK15=>?_
 obtain ⟨r3,hr3,H⟩:=bind_some H
 have q:=aI qe hr3
 refine rAq ?_
 refine cnd H (fun h17 H=>?_) (fun h17 H=>?_)
 ·refine rA ?_
  refine js ?_
  refine lf ?_
  obtain rfl:=Option.some.inj H
  exact rt []
 refine jq ?_
 refine hK15 _ ?_
 refine rA ?_
 refine js ?_
 refine lf ?_
 obtain rfl:=Option.some.inj H
 exact rt []
def ek2 (n:Nat) (serial:List UInt8) (cyls:Int) (heads:Int) (size:Int):Option (aj5×Int) :=
 (az3 n (⟨serial,cyls,heads,size,[]⟩:aj5)).bind fun r1 =>
 bif (r1 != 0) then
  some ((⟨[],0,0,0,[]⟩:aj5),1)
 else
  some ((⟨serial,cyls,heads,size,[]⟩:aj5),0)
def fjr (n:Nat):Go.AE.Fn:=mkFn (A:=(List UInt8)×Int×Int×Int) (R:=aj5×Int) 15 [(false,[.str]),(false,[.int .i64]),(false,[.int .i64]),(false,[.int .i64])] false (fun xs=>((cg (xs.getD 0 []) 0).toStr,(cg (xs.getD 1 []) 0).toInt,(cg (xs.getD 2 []) 0).toInt,(cg (xs.getD 3 []) 0).toInt)) (fun a=>[[.str a.1],[.int a.2.1],[.int a.2.2.1],[.int a.2.2.2]]) (fun a=>ek2 n a.1 a.2.1 a.2.2.1 a.2.2.2) (fun r=>[.agg [.c .str (.str r.1.Serial),.c (.int .i64) (.int r.1.Cyls),.c (.int .i64) (.int r.1.Heads),.c (.int .i64) (.int r.1.Size),.nilsl],.c (.int .i64) (.int r.2)]) (fun r=>[])
theorem gkg (n:Nat):aj2 je (fjr n):=by
 have hΓ:=g1 (ak5 n) (@g0 (aj2 je))
 refine ajb (Tryz.f15.body.getD .skip) h00 Tryz.func15 rfl Tryz.call15 (by decide) (by intro _ r;exact ⟨rfl,by simp⟩) ?_
 rintro ⟨serial,cyls,heads,size⟩ r H
 try dsimp only at H
 unfold ek2 at H
 simp only [Tryz.f15,jt]
 refine rA ?_
 refine rA ?_
 refine jr fun K3 hK3=>?_
 obtain ⟨r1,hr1,H⟩:=bind_some H
 have q:=aI @azf.eq_1 hr1
 refine rAq ?_
 refine cnd H (fun h5 H=>?_) (fun h5 H=>?_)
 ·refine rA ?_
  refine js ?_
  refine lf ?_
  obtain rfl:=Option.some.inj H
  exact rt []
 refine jq ?_
 refine hK3 _ ?_
 refine rA ?_
 refine js ?_
 refine lf ?_
 obtain rfl:=Option.some.inj H
 exact rt []
def cqj (n:Nat):Option TDcb :=
 some (⟨1,1,false,false,80,80,0,0⟩:TDcb)
def dk0 (n:Nat):Go.AE.Fn:=mkFn (A:=Unit) (R:=TDcb) 42 [] false (fun xs=>()) (fun a=>[]) (fun a=>cqj n) (fun r=>[.agg [.c (.int .i64) (.int r.Org),.c (.int .i64) (.int r.Format),.c .bool (.bool r.Blocked),.c .bool (.bool r.Asa),.c (.int .i64) (.int r.Lrecl),.c (.int .i64) (.int r.Blksize),.c (.int .i64) (.int r.KeyLen),.c (.int .i64) (.int r.KeyPos)]]) (fun r=>[])
theorem fjl (n:Nat):aj2 je (dk0 n):=by
 have hΓ:=@g0 (aj2 je)
 refine ajb (Tryz.f42.body.getD .skip) h00 Tryz.func42 rfl Tryz.call42 (by decide) (by intro _ r;exact ⟨rfl,by simp⟩) ?_
 rintro ⟨⟩ r H
 try dsimp only at H
 unfold cqj at H
 simp only [Tryz.f42,jt]
 refine rA ?_
 refine rA ?_
 refine js ?_
 refine lf ?_
 obtain rfl:=Option.some.inj H
 exact rt []
def aqx (n:Nat) (d:aj6) (s:List UInt8):Option Int :=
 (strings_Compare n d.Name s).bind fun r1 =>
 some r1
def bjm (n:Nat):Go.AE.Fn:=mkFn (A:=aj6×(List UInt8)) (R:=Int) 117 [(true,[.str,.int .i64,.int .i64,.bool,.bool,.int .i64,.int .i64,.int .i64,.int .i64,.slice 80,.int .i64]),(false,[.str])] false (fun xs=>((⟨(cg (xs.getD 0 []) 0).toStr,(⟨(cg (xs.getD 0 []) 1).toInt,(cg (xs.getD 0 []) 2).toInt,(cg (xs.getD 0 []) 3).toBool,(cg (xs.getD 0 []) 4).toBool,(cg (xs.getD 0 []) 5).toInt,(cg (xs.getD 0 []) 6).toInt,(cg (xs.getD 0 []) 7).toInt,(cg (xs.getD 0 []) 8).toInt⟩:TDcb),((cg (xs.getD 0 []) 9).toSl.map ajl),(cg (xs.getD 0 []) 10).toInt⟩:aj6),(cg (xs.getD 1 []) 0).toStr)) (fun a=>[[.str a.1.Name,.int a.1.Dcb.Org,.int a.1.Dcb.Format,.bool a.1.Dcb.Blocked,.bool a.1.Dcb.Asa,.int a.1.Dcb.Lrecl,.int a.1.Dcb.Blksize,.int a.1.Dcb.KeyLen,.int a.1.Dcb.KeyPos,.slice (List.map aj1 a.1.Extents),.int a.1.Used],[.str a.2]]) (fun a=>aqx n a.1 a.2) (fun r=>[.c (.int .i64) (.int r)]) (fun r=>[])
theorem dj8 (n:Nat):aj2 je (bjm n):=by
 have hΓ:=g1 (dkz n) (@g0 (aj2 je))
 refine ajb (Tryz.f117.body.getD .skip) h00 Tryz.func117 rfl Tryz.call117 (by decide) (by intro _ r;exact ⟨rfl,by simp⟩) ?_
 rintro ⟨d,s⟩ r H
 try dsimp only at H
 unfold aqx at H
 simp only [Tryz.f117,jt]
 refine rA ?_
 obtain ⟨r1,hr1,H⟩:=bind_some H
 have q:=aI @akd.eq_1 hr1
 refine rAq ?_
 refine js ?_
 refine lf ?_
 obtain rfl:=Option.some.inj H
 exact rt []
abbrev awu (x_:List aj6) (target:List UInt8) (n_:Int) (i:Int):S:=stB [(0,.c (.slice 41) (.slice (List.map aj3 x_))),(1,.c .str (.str target)),(2,.fnv 117 []),(8,.c (.int .i64) (.int n_)),(9,.c (.int .i64) (.int i))] []
def aq6 (n:Nat) (x_:List aj6) (target:List UInt8) (n_:Int) (i:Int):Option (Int×Bool) :=
 gd (((decide (i < n_))=true→(0≤i∧i < (x_.length:Int)))∧((decide (i < n_))=true→(aqx n (gt x_ (Int.toNat i)) target).isSome=true)) <|
 some (i,(if (decide (i < n_))=true then (((aqx n (gt x_ (Int.toNat i)) target).getD default) == 0) else false))
abbrev awv (x_:List aj6) (target:List UInt8) (n__1:Int) (i_1:Int) (j:Int):S:=stB [(0,.c (.slice 41) (.slice (List.map aj3 x_))),(1,.c .str (.str target)),(2,.fnv 117 []),(8,.c (.int .i64) (.int n__1)),(9,.c (.int .i64) (.int i_1)),(10,.c (.int .i64) (.int j))] []
def aji (n:Nat) (x_:List aj6) (target:List UInt8) (n__1:Int) (i_1:Int) (j:Int):Option ((Int×Int) ⊕ ((Int))) :=
 bif (decide (i_1 < j)) then
  gd ((0≤(jd .i64 ((Int.fdiv (jd .u64 ((jd .i64 (i_1+j)))) (2 ^ min 1 (JF .u64)))))∧(jd .i64 ((Int.fdiv (jd .u64 ((jd .i64 (i_1+j)))) (2 ^ min 1 (JF .u64))))) < (x_.length:Int))) <|
  (aqx n (gt x_ (Int.toNat (jd .i64 ((Int.fdiv (jd .u64 ((jd .i64 (i_1+j)))) (2 ^ min 1 (JF .u64))))))) target).bind fun r1 =>
  bif (decide (r1 < 0)) then
   some (.inl ((jd .i64 ((jd .i64 ((Int.fdiv (jd .u64 ((jd .i64 (i_1+j)))) (2 ^ min 1 (JF .u64)))))+1)),j))
  else
   some (.inl (i_1,(jd .i64 ((Int.fdiv (jd .u64 ((jd .i64 (i_1+j)))) (2 ^ min 1 (JF .u64)))))))
 else
  some (.inr i_1)
def aqe (n:Nat) (x_:List aj6) (target:List UInt8):Option (Int×Bool) :=
 (ajk (fun (x:Int×Int)=>aji n x_ target (x_.length:Int) x.1 x.2) n (0,(x_.length:Int))).bind fun y7 =>
 aq6 n x_ target (x_.length:Int) y7
theorem bwc (n:Nat) (x_:List aj6) (target:List UInt8) (r:Int×Bool) (H:aqe n x_ target=some r):aqg je 116 [.dat (false,[.slice 41]) [.slice (List.map aj3 x_)],.dat (false,[.str]) [.str target],.ref (.fnv 117 [])] [] [.c (.int .i64) (.int r.1),.c .bool (.bool r.2)] []:=by
 have hΓ:=g1 (dj8 n) (@g0 (aj2 je))
 refine aq4 (Tryz.f116.body.getD .skip) h00 Tryz.func116 rfl Tryz.call116 (jk rfl) (jk rfl) ?_
 unfold aqe at H
 simp only [Tryz.f116,jt]
 refine rA ?_
 refine rA ?_
 refine rA ?_
 refine j4 (fun (x:Int×Int)=>awu x_ target x.1 x.2) (fun x=>aq6 n x_ target x.1 x.2=some r) ?_ ?_
 ·refine jC ?_
  obtain ⟨y7,hy7,Ho7⟩:=bind_some H
  refine j3 _ (fun x=>awv x_ target (x_.length:Int) x.1 x.2) hy7 (wb []) ?_
  rintro ⟨i_1,j⟩ z7 H
  try dsimp only at H
  unfold aji at H
  refine Sm.st (awv.eq_1 ..) ?_
  refine jr fun K8 hK8=>?_
  refine rA ?_
  refine cnd H (fun h10 H=>?_) (fun h10 H=>?_)
  ·refine jq ?_
   refine hK8 _ ?_
   refine jC ?_
   refine sX fun K11 hK11=>?_
   iterate 4 refine oX ?_
   refine oE bz3 ?_
   iterate 2 refine oX ?_
   refine hK11 _ ?_
   obtain ⟨hg14,H⟩:=aj7 H
   obtain ⟨r1,hr1,H⟩:=bind_some H
   have q:=aI @bjm.eq_1 hr1
   refine rAq ?_
   refine cnd H (fun h13 H=>?_) (fun h13 H=>?_)
   ·refine eA ?_
    refine lf ?_
    exact nx H (wb [])
   refine eA ?_
   refine lf ?_
   exact nx H (wb [])
  refine Jb ?_
  refine lf ?_
  refine lx H fun hyy=>?_
  subst hyy
  have H:=Ho7
  try dsimp only at H
  refine lf ?_
  exact ⟨((x_.length:Int),i_1),H,wb []⟩
 rintro ⟨n_,i⟩ H
 try dsimp only at H
 unfold aq6 at H
 refine Sm.st (awu.eq_1 ..) ?_
 obtain ⟨⟨hg5,hg6⟩,H⟩:=aj7 H
 have q:=@bjm.eq_1
 refine rAq ?_
 refine js ?_
 refine lf ?_
 obtain rfl:=Option.some.inj H
 exact rtM []
def ajx (n:Nat) (v:aj5) (name:List UInt8):Option (Int×Bool) :=
 (aqe n v.Sets name).bind fun r1 =>
 some (r1.1,r1.2)
def aqd (n:Nat):Go.AE.Fn:=mkFn (A:=aj5×(List UInt8)) (R:=Int×Bool) 56 [(true,[.str,.int .i64,.int .i64,.int .i64,.slice 41]),(false,[.str])] false (fun xs=>((⟨(cg (xs.getD 0 []) 0).toStr,(cg (xs.getD 0 []) 1).toInt,(cg (xs.getD 0 []) 2).toInt,(cg (xs.getD 0 []) 3).toInt,((cg (xs.getD 0 []) 4).toSl.map aq3)⟩:aj5),(cg (xs.getD 1 []) 0).toStr)) (fun a=>[[.str a.1.Serial,.int a.1.Cyls,.int a.1.Heads,.int a.1.Size,.slice (List.map aj3 a.1.Sets)],[.str a.2]]) (fun a=>ajx n a.1 a.2) (fun r=>[.c (.int .i64) (.int r.1),.c .bool (.bool r.2)]) (fun r=>[])
theorem aqp (n:Nat):aj2 je (aqd n):=by
 have hΓ:=@g0 (aj2 je)
 refine ajb (Tryz.f56.body.getD .skip) h00 Tryz.func56 rfl Tryz.call56 (by decide) (by intro _ r;exact ⟨rfl,by simp⟩) ?_
 rintro ⟨v,name⟩ r H
 try dsimp only at H
 unfold ajx at H
 simp only [Tryz.f56,jt]
 refine rA ?_
 refine sX fun K2 hK2=>?_
 obtain ⟨r1,hr1,H⟩:=bind_some H
 have q:=hr1
 iterate 3 refine oX ?_
 refine oMq (bwc n _ _ r1 hr1) [] [] ?_
 iterate 4 refine oXq ?_
 refine hK2 _ ?_
 refine js ?_
 refine lf ?_
 obtain rfl:=Option.some.inj H
 exact rt []
abbrev ckv (out_1:List aj0):S:=stB [(5,.own 9001 [.int .i64,.int .i64] 0 out_1.length)] [(9001,.row 80 (List.map aj1 out_1))]
def ayx (n:Nat) (out_1:List aj0):Option (List aj0) :=
 some out_1
abbrev cy6 (n_:Int) (out:List aj0) (at_:Int):S:=stB [(1,.c (.int .i64) (.int n_)),(5,.own 9000 [.int .i64,.int .i64] 0 out.length),(6,.c (.int .i64) (.int at_))] [(9000,.row 80 (List.map aj1 out))]
def akg (n:Nat) (n_:Int) (out:List aj0) (at_:Int):Option (List aj0) :=
 bif (decide (n_ > at_)) then
  gd ((out.length+1)≤2147483648) <|
  ayx n (out ++ [(⟨at_,(jd .i64 (n_ - at_))⟩:aj0)])
 else
  ayx n out
abbrev cky (n_:Int) (out_3:List aj0) (at__2:Int) (v22:List aj0) (v23:Int) (v24:Int):S:=stB [(1,.c (.int .i64) (.int n_)),(5,.own 9004 [.int .i64,.int .i64] 0 out_3.length),(6,.c (.int .i64) (.int at__2)),(22,.c (.slice 80) (.slice (List.map aj1 v22))),(23,.c (.int .i64) (.int v23)),(24,.c (.int .i64) (.int v24))] [(9004,.row 80 (List.map aj1 out_3))]
def bz2 (n:Nat) (n_:Int) (out_3:List aj0) (at__2:Int) (v22:List aj0) (v23:Int) (v24:Int):Option (((List aj0)×Int×Int) ⊕ (((List aj0)×Int))) :=
 some (.inl (out_3,at__2,(jd .i64 (v24+1))))
abbrev cyk (n_:Int) (out_4:List aj0) (x_:Int) (x__1:Int) (v22:List aj0) (v23:Int) (v24:Int):S:=stB [(1,.c (.int .i64) (.int n_)),(5,.own 9005 [.int .i64,.int .i64] 0 out_4.length),(8,.box 9006 0),(22,.c (.slice 80) (.slice (List.map aj1 v22))),(23,.c (.int .i64) (.int v23)),(24,.c (.int .i64) (.int v24))] [(9005,.row 80 (List.map aj1 out_4)),(9006,.box [.c (.int .i64) (.int x_),.c (.int .i64) (.int x__1)])]
def bj4 (n:Nat) (n_:Int) (out_4:List aj0) (x_:Int) (x__1:Int) (v22:List aj0) (v23:Int) (v24:Int):Option (((List aj0)×Int×Int) ⊕ (((List aj0)×Int))) :=
 bz2 n n_ out_4 (jd .i64 (x_+x__1)) v22 v23 v24
abbrev ckt (n_:Int) (v22:List aj0) (v23:Int) (out_2:List aj0) (at__1:Int) (v24:Int):S:=stB [(1,.c (.int .i64) (.int n_)),(5,.own 9003 [.int .i64,.int .i64] 0 out_2.length),(6,.c (.int .i64) (.int at__1)),(22,.c (.slice 80) (.slice (List.map aj1 v22))),(23,.c (.int .i64) (.int v23)),(24,.c (.int .i64) (.int v24))] [(9003,.row 80 (List.map aj1 out_2))]
def azi (n:Nat) (n_:Int) (v22:List aj0) (v23:Int) (out_2:List aj0) (at__1:Int) (v24:Int):Option (((List aj0)×Int×Int) ⊕ (((List aj0)×Int))) :=
 bif (decide (v24 < v23)) then
  gd ((0≤v24∧v24 < (v22.length:Int))) <|
  bif (decide ((if n_ < ((gt v22 (Int.toNat v24)).At) then n_ else ((gt v22 (Int.toNat v24)).At)) > at__1)) then
   gd ((out_2.length+1)≤2147483648) <|
   bj4 n n_ (out_2 ++ [(⟨at__1,(jd .i64 ((if n_ < ((gt v22 (Int.toNat v24)).At) then n_ else ((gt v22 (Int.toNat v24)).At)) - at__1))⟩:aj0)]) ((gt v22 (Int.toNat v24)).At) ((gt v22 (Int.toNat v24)).Len) v22 v23 v24
  else
   bj4 n n_ out_2 ((gt v22 (Int.toNat v24)).At) ((gt v22 (Int.toNat v24)).Len) v22 v23 v24
 else
  some (.inr (out_2,at__1))
def by6 (n:Nat) (used:List aj0) (n_:Int):Option (List aj0) :=
 (aw3 n used).bind fun r1 =>
 bif (if (if (!r1)=true then true else (decide (n_ < 0)))=true then true else (decide (n_ > 512))) then
  some []
 else
  (ayu n used).bind fun r2 =>
  (ajk (fun (x:(List aj0)×Int×Int)=>azi n n_ r2 (r2.length:Int) x.1 x.2.1 x.2.2) n ([],0,0)).bind fun y13 =>
  akg n n_ y13.1 y13.2
def dzn (n:Nat):Go.AE.Fn:=mkFn (A:=(List aj0)×Int) (R:=(List aj0)) 76 [(false,[.slice 80]),(false,[.int .i64])] false (fun xs=>(((cg (xs.getD 0 []) 0).toSl.map ajl),(cg (xs.getD 1 []) 0).toInt)) (fun a=>[[.slice (List.map aj1 a.1)],[.int a.2]]) (fun a=>by6 n a.1 a.2) (fun r=>[.own 0 [.int .i64,.int .i64] 0 r.length]) (fun r=>[.row 80 (List.map aj1 r)])
theorem fjb (n:Nat):aj2 je (dzn n):=by
 have hΓ:=g1 (bqw n) (g1 (cko n) (@g0 (aj2 je)))
 have qe:=aI @ayk.eq_1 @byz.eq_1
 refine ajb (Tryz.f76.body.getD .skip) h00 Tryz.func76 rfl Tryz.call76 (by decide) (fun _ r=>⟨rfl,m1 ⟨80,_,_,rfl,ty80,rfl⟩ m0⟩) ?_
 rintro ⟨used,n_⟩ r H
 try dsimp only at H
 unfold by6 at H
 simp only [Tryz.f76,jt]
 refine rA ?_
 refine jr fun K2 hK2=>?_
 obtain ⟨r1,hr1,H⟩:=bind_some H
 have q:=aI qe hr1
 refine rAq ?_
 refine cnd H (fun h4 H=>?_) (fun h4 H=>?_)
 ·refine rA ?_
  refine js ?_
  refine lf ?_
  obtain rfl:=Option.some.inj H
  exact rto [none]
 refine jq ?_
 refine hK2 _ ?_
 refine rA ?_
 refine rA ?_
 refine j4 (fun (x:(List aj0)×Int)=>cy6 n_ x.1 x.2) (fun x=>akg n n_ x.1 x.2=some r) ?_ ?_
 ·obtain ⟨r2,hr2,H⟩:=bind_some H
  have q:=aI qe hr2
  refine rAq ?_
  refine jC ?_
  obtain ⟨y13,hy13,Ho13⟩:=bind_some H
  refine j3 _ (fun x=>ckt n_ r2 (r2.length:Int) x.1 x.2.1 x.2.2) hy13 (wb [none]) ?_
  rintro ⟨out_2,at__1,v24⟩ z13 H
  try dsimp only at H
  unfold azi at H
  refine Sm.st (ckt.eq_1 ..) ?_
  refine rA ?_
  refine jr fun K15 hK15=>?_
  refine cnd H (fun h16 H=>?_) (fun h16 H=>?_)
  ·refine jq ?_
   refine hK15 _ ?_
   refine j4 (fun (x:(List aj0)×Int)=>cky n_ x.1 x.2 r2 (r2.length:Int) v24) (fun x=>bz2 n n_ x.1 x.2 r2 (r2.length:Int) v24=some z13) ?_ ?_
   ·refine jC ?_
    obtain ⟨hg22,H⟩:=aj7 H
    refine rA ?_
    refine j4 (fun (x:(List aj0))=>cyk n_ x ((gt r2 (Int.toNat v24)).At) ((gt r2 (Int.toNat v24)).Len) r2 (r2.length:Int) v24) (fun x=>bj4 n n_ x ((gt r2 (Int.toNat v24)).At) ((gt r2 (Int.toNat v24)).Len) r2 (r2.length:Int) v24=some z13) ?_ ?_
    ·refine rA ?_
     refine rA ?_
     refine cnd H (fun h20 H=>?_) (fun h20 H=>?_)
     ·obtain ⟨hg21,H⟩:=aj7 H
      refine eA ?_
      refine lf ?_
      exact ⟨_,H,wb [some 672,some 128]⟩
     refine jq ?_
     refine lf ?_
     exact ⟨_,H,wb [some 9003,some 128]⟩
    rintro out_4 H
    try dsimp only at H
    unfold bj4 at H
    refine Sm.st (cyk.eq_1 ..) ?_
    refine eA ?_
    refine lf ?_
    exact ⟨(out_4,(jd .i64 ((gt r2 (Int.toNat v24)).At+(gt r2 (Int.toNat v24)).Len))),H,wb [some 9005]⟩
   rintro ⟨out_3,at__2⟩ H
   try dsimp only at H
   unfold bz2 at H
   refine Sm.st (cky.eq_1 ..) ?_
   refine eA ?_
   refine lf ?_
   exact nx H (wb [some 9004])
  refine Jb ?_
  refine lf ?_
  refine lx H fun hyy=>?_
  subst hyy
  have H:=Ho13
  try dsimp only at H
  refine lf ?_
  exact ⟨(out_2,at__1),H,wb [some 9003]⟩
 rintro ⟨out,at_⟩ H
 try dsimp only at H
 unfold akg at H
 refine Sm.st (cy6.eq_1 ..) ?_
 refine j4 (fun (x:(List aj0))=>ckv x) (fun x=>ayx n x=some r) ?_ ?_
 ·refine rA ?_
  refine cnd H (fun h10 H=>?_) (fun h10 H=>?_)
  ·obtain ⟨hg11,H⟩:=aj7 H
   refine eA ?_
   refine lf ?_
   exact ⟨_,H,wb [some 944]⟩
  refine jq ?_
  refine lf ?_
  exact ⟨_,H,wb [some 9000]⟩
 rintro out_1 H
 try dsimp only at H
 unfold ayx at H
 refine Sm.st (ckv.eq_1 ..) ?_
 refine rA ?_
 refine js ?_
 refine lf ?_
 obtain rfl:=Option.some.inj H
 exact rto [some 9001]
abbrev dzz (v:aj5) (used:List aj0):S:=stB [(1,.box 9000 0),(3,.own 9001 [.int .i64,.int .i64] 0 used.length)] [(9000,.box [.c .str (.str v.Serial),.c (.int .i64) (.int v.Cyls),.c (.int .i64) (.int v.Heads),.c (.int .i64) (.int v.Size),.c (.slice 41) (.slice (List.map aj3 v.Sets))]),(9001,.row 80 (List.map aj1 used))]
def byv (n:Nat) (v:aj5) (used:List aj0):Option (List aj0) :=
 (by6 n used (jd .i64 (v.Cyls * v.Heads))).bind fun r2 =>
 some r2
abbrev dzr (v:aj5) (v16:Int) (used_1:List aj0) (v17:Int):S:=stB [(1,.box 9004 0),(3,.own 9005 [.int .i64,.int .i64] 0 used_1.length),(15,.c (.slice 41) (.slice (List.map aj3 v.Sets))),(16,.c (.int .i64) (.int v16)),(17,.c (.int .i64) (.int v17))] [(9004,.box [.c .str (.str v.Serial),.c (.int .i64) (.int v.Cyls),.c (.int .i64) (.int v.Heads),.c (.int .i64) (.int v.Size),.c (.slice 41) (.slice (List.map aj3 v.Sets))]),(9005,.row 80 (List.map aj1 used_1))]
def bjw (n:Nat) (v:aj5) (v16:Int) (used_1:List aj0) (v17:Int):Option (((List aj0)×Int) ⊕ (((List aj0)))) :=
 bif (decide (v17 < v16)) then
  gd ((0≤v17∧v17 < (v.Sets.length:Int))) <|
  gd ((used_1.length+((gt v.Sets (Int.toNat v17)).Extents).length)≤2147483648) <|
  some (.inl ((used_1 ++ (gt v.Sets (Int.toNat v17)).Extents),(jd .i64 (v17+1))))
 else
  some (.inr used_1)
def by2 (n:Nat) (v:aj5):Option (List aj0) :=
 (az3 n v).bind fun r1 =>
 bif (r1 != 0) then
  some []
 else
  (ajk (fun (x:(List aj0)×Int)=>bjw n v (v.Sets.length:Int) x.1 x.2) n ([(⟨0,(jd .i64 (v.Size+1))⟩:aj0)],0)).bind fun y9 =>
  byv n v y9
def cjy (n:Nat):Go.AE.Fn:=mkFn (A:=aj5) (R:=(List aj0)) 34 [(true,[.str,.int .i64,.int .i64,.int .i64,.slice 41])] false (fun xs=>(⟨(cg (xs.getD 0 []) 0).toStr,(cg (xs.getD 0 []) 1).toInt,(cg (xs.getD 0 []) 2).toInt,(cg (xs.getD 0 []) 3).toInt,((cg (xs.getD 0 []) 4).toSl.map aq3)⟩:aj5)) (fun a=>[[.str a.Serial,.int a.Cyls,.int a.Heads,.int a.Size,.slice (List.map aj3 a.Sets)]]) (fun a=>by2 n a) (fun r=>[.own 0 [.int .i64,.int .i64] 0 r.length]) (fun r=>[.row 80 (List.map aj1 r)])
theorem ck6 (n:Nat):aj2 je (cjy n):=by
 have hΓ:=g1 (ak5 n) (g1 (fjb n) (@g0 (aj2 je)))
 have qe:=aI @azf.eq_1 @dzn.eq_1
 refine ajb (Tryz.f34.body.getD .skip) h00 Tryz.func34 rfl Tryz.call34 (by decide) (fun _ r=>⟨rfl,m1 ⟨80,_,_,rfl,ty80,rfl⟩ m0⟩) ?_
 rintro v r H
 try dsimp only at H
 unfold by2 at H
 simp only [Tryz.f34,jt]
 refine rA ?_
 refine jr fun K2 hK2=>?_
 obtain ⟨r1,hr1,H⟩:=bind_some H
 have q:=aI qe hr1
 refine rAq ?_
 refine cnd H (fun h4 H=>?_) (fun h4 H=>?_)
 ·refine rA ?_
  refine js ?_
  refine lf ?_
  obtain rfl:=Option.some.inj H
  exact rto [none]
 refine jq ?_
 refine hK2 _ ?_
 refine rA ?_
 refine j4 (fun (x:(List aj0))=>dzz v x) (fun x=>byv n v x=some r) ?_ ?_
 ·refine rA ?_
  refine jC ?_
  obtain ⟨y9,hy9,Ho9⟩:=bind_some H
  refine j3 _ (fun x=>dzr v (v.Sets.length:Int) x.1 x.2) hy9 (wb [some 16,some 208]) ?_
  rintro ⟨used_1,v17⟩ z9 H
  try dsimp only at H
  unfold bjw at H
  refine Sm.st (dzr.eq_1 ..) ?_
  refine rA ?_
  refine jr fun K11 hK11=>?_
  refine cnd H (fun h12 H=>?_) (fun h12 H=>?_)
  ·refine jq ?_
   refine hK11 _ ?_
   refine jr fun K13 hK13=>?_
   refine jC ?_
   obtain ⟨hg16,H⟩:=aj7 H
   refine rA ?_
   obtain ⟨hg15,H⟩:=aj7 H
   refine eA ?_
   refine hK13 _ ?_
   refine eA ?_
   refine lf ?_
   exact nx H (wb [some 9004,some 384])
  refine Jb ?_
  refine lf ?_
  refine lx H fun hyy=>?_
  subst hyy
  have H:=Ho9
  try dsimp only at H
  refine lf ?_
  exact ⟨_,H,wb [some 9004,some 9005]⟩
 rintro used H
 try dsimp only at H
 unfold byv at H
 refine Sm.st (dzz.eq_1 ..) ?_
 obtain ⟨r2,hr2,H⟩:=bind_some H
 have q:=aI qe hr2
 refine rAq ?_
 refine js ?_
 refine lf ?_
 obtain rfl:=Option.some.inj H
 exact rto [some 512]
abbrev czz:S:=stB [] []
def bkt (n:Nat):Option Bool :=
 some true
abbrev cwx (n_:Int) (l:List aj0) (v9:Int) (end_:Int) (v10:Int):S:=stB [(1,.c (.int .i64) (.int n_)),(5,.c (.int .i64) (.int end_)),(8,.c (.slice 80) (.slice (List.map aj1 l))),(9,.c (.int .i64) (.int v9)),(10,.c (.int .i64) (.int v10))] []
def azx (n:Nat) (n_:Int) (l:List aj0) (v9:Int) (end_:Int) (v10:Int):Option ((Int×Int) ⊕ (((Bool) ⊕ (Unit)))) :=
 bif (decide (v10 < v9)) then
  gd ((0≤v10∧v10 < (l.length:Int))) <|
  (bq5 n (gt l (Int.toNat v10))).bind fun r1 =>
  bif (if (if (!r1)=true then true else (decide (((gt l (Int.toNat v10)).At)≤end_)))=true then true else (decide ((jd .i64 (((gt l (Int.toNat v10)).At)+((gt l (Int.toNat v10)).Len))) > n_))) then
   some (.inr (.inl false))
  else
   some (.inl ((jd .i64 (((gt l (Int.toNat v10)).At)+((gt l (Int.toNat v10)).Len))),(jd .i64 (v10+1))))
 else
  some (.inr (.inr ()))
def bzi (n:Nat) (l:List aj0) (n_:Int):Option Bool :=
 (ajk (fun (x:Int×Int)=>azx n n_ l (l.length:Int) x.1 x.2) n ((-1),0)).bind fun y5 =>
 match y5 with
 | .inl vv =>
  some vv
 | .inr vv =>
  bkt n
def djm (n:Nat):Go.AE.Fn:=mkFn (A:=(List aj0)×Int) (R:=Bool) 137 [(false,[.slice 80]),(false,[.int .i64])] false (fun xs=>(((cg (xs.getD 0 []) 0).toSl.map ajl),(cg (xs.getD 1 []) 0).toInt)) (fun a=>[[.slice (List.map aj1 a.1)],[.int a.2]]) (fun a=>bzi n a.1 a.2) (fun r=>[.c .bool (.bool r)]) (fun r=>[])
theorem ekt (n:Nat):aj2 je (djm n):=by
 have hΓ:=g1 (dq8 n) (@g0 (aj2 je))
 refine ajb (Tryz.f137.body.getD .skip) h00 Tryz.func137 rfl Tryz.call137 (by decide) (by intro _ r;exact ⟨rfl,by simp⟩) ?_
 rintro ⟨l,n_⟩ r H
 try dsimp only at H
 unfold bzi at H
 simp only [Tryz.f137,jt]
 refine rA ?_
 refine rA ?_
 refine j4 (fun (x:Unit)=>czz) (fun x=>bkt n=some r) ?_ ?_
 ·refine rA ?_
  refine jC ?_
  obtain ⟨y5,hy5,Ho5⟩:=bind_some H
  refine j3 _ (fun x=>cwx n_ l (l.length:Int) x.1 x.2) hy5 (wb []) ?_
  rintro ⟨end_,v10⟩ z5 H
  try dsimp only at H
  unfold azx at H
  refine Sm.st (cwx.eq_1 ..) ?_
  refine rA ?_
  refine jr fun K7 hK7=>?_
  refine cnd H (fun h8 H=>?_) (fun h8 H=>?_)
  ·refine jq ?_
   refine hK7 _ ?_
   refine jr fun K9 hK9=>?_
   refine jC ?_
   obtain ⟨hg15,H⟩:=aj7 H
   refine rA ?_
   refine jr fun K11 hK11=>?_
   obtain ⟨r1,hr1,H⟩:=bind_some H
   have q:=aI @cq3.eq_1 hr1
   refine rAq ?_
   refine cnd H (fun h13 H=>?_) (fun h13 H=>?_)
   ·refine rA ?_
    refine js ?_
    refine lf ?_
    refine lx H fun hyy=>?_
    subst hyy
    have H:=Ho5
    try dsimp only at H
    refine lf ?_
    obtain rfl:=Option.some.inj H
    exact rt []
   refine jq ?_
   refine hK11 _ ?_
   refine eA ?_
   refine hK9 _ ?_
   refine eA ?_
   refine lf ?_
   exact nx H (wb [])
  refine Jb ?_
  refine lf ?_
  refine lx H fun hyy=>?_
  subst hyy
  have H:=Ho5
  try dsimp only at H
  refine lf ?_
  exact ⟨(),H,wb []⟩
 rintro ⟨⟩ H
 try dsimp only at H
 unfold bkt at H
 refine Sm.st (czz.eq_1 ..) ?_
 refine rA ?_
 refine js ?_
 refine lf ?_
 obtain rfl:=Option.some.inj H
 exact rt []
def aqq (n:Nat) (s:List aj0) (s_l:Nat) (i:Int) (j:Int):Option (Nat×(List aj0)) :=
 gd ((0≤i∧i≤j∧j≤((s_l:Nat):Int)∧((s_l:Nat):Int)≤(s_l:Int))) <|
 bif (i == j) then
  some (s_l,s)
 else
  gd ((0≤i∧i≤(s.length:Int))∧(0≤j∧j≤(s_l:Int)∧(s_l:Int)≤(s.length:Int))∧((Int.toNat (i - 0))+(List.take (Int.toNat ((s_l:Int) - j)) (List.drop (Int.toNat j) s)).length)≤s.length) <|
  gd ((0≤((((Int.toNat (i - 0))+(List.take (Int.toNat ((s_l:Int) - j)) (List.drop (Int.toNat j) s)).length):Nat):Int)∧((((Int.toNat (i - 0))+(List.take (Int.toNat ((s_l:Int) - j)) (List.drop (Int.toNat j) s)).length):Nat):Int)≤((s_l:Nat):Int)∧((s_l:Nat):Int)≤(s.length:Int))∧(((Int.toNat (i - 0))+(List.take (Int.toNat ((s_l:Int) - j)) (List.drop (Int.toNat j) s)).length)+(Int.toNat (((s_l:Nat):Int) - ((((Int.toNat (i - 0))+(List.take (Int.toNat ((s_l:Int) - j)) (List.drop (Int.toNat j) s)).length):Nat):Int))))≤s.length) <|
  some (((Int.toNat (i - 0))+(List.take (Int.toNat ((s_l:Int) - j)) (List.drop (Int.toNat j) s)).length),(byd (byd s (Int.toNat (i - 0)) (List.take (Int.toNat ((s_l:Int) - j)) (List.drop (Int.toNat j) s))) ((Int.toNat (i - 0))+(List.take (Int.toNat ((s_l:Int) - j)) (List.drop (Int.toNat j) s)).length) (azv (Int.toNat (((s_l:Nat):Int) - ((((Int.toNat (i - 0))+(List.take (Int.toNat ((s_l:Int) - j)) (List.drop (Int.toNat j) s)).length):Nat):Int))) (⟨0,0⟩:aj0))))
theorem bwf (n:Nat) (s:List aj0) (s_l:Nat) (i:Int) (j:Int) (r:Nat×(List aj0)) (H:aqq n s s_l i j=some r):aqg je 138 [.ref (.own 0 [.int .i64,.int .i64] 0 s_l),.dat (false,[.int .i64]) [.int i],.dat (false,[.int .i64]) [.int j]] [.row 80 (List.map aj1 s)] [.own 0 [.int .i64,.int .i64] 0 r.1] [.row 80 (List.map aj1 r.2)]:=by
 have hΓ:=@g0 (aj2 je)
 refine aq4 (Tryz.f138.body.getD .skip) h00 Tryz.func138 rfl Tryz.call138 (jk rfl) (jk rfl) ?_
 unfold aqq at H
 simp only [Tryz.f138,jt]
 refine rA ?_
 refine sX fun K2 hK2=>?_
 obtain ⟨hg3,H⟩:=aj7 H
 iterate 5 refine oX ?_
 refine oY ?_
 refine hK2 _ ?_
 refine jr fun K4 hK4=>?_
 refine rA ?_
 refine cnd H (fun h6 H=>?_) (fun h6 H=>?_)
 ·refine rA ?_
  refine js ?_
  refine lf ?_
  obtain rfl:=Option.some.inj H
  exact rtM [some 0]
 refine jq ?_
 refine hK4 _ ?_
 refine rA ?_
 obtain ⟨⟨hg14,hg15,hg16⟩,H⟩:=aj7 H
 refine rD ?_
 refine sX fun K10 hK10=>?_
 obtain ⟨⟨hg11,hg12⟩,H⟩:=aj7 H
 iterate 5 refine oX ?_
 refine oY ?_
 refine hK10 _ ?_
 refine rA ?_
 refine js ?_
 refine lf ?_
 obtain rfl:=Option.some.inj H
 exact rtM [some 0]
abbrev cyu:S:=stB [] []
def cj3 (n:Nat):Option ((List aj0)×(List aj0)×Int) :=
 some ([],[],200)
abbrev cy4 (want_1:Int) (most:Int) (got:List aj0) (rest:List aj0) (rest_2:Nat) (longest:Int):S:=stB [(1,.c (.int .i64) (.int want_1)),(2,.c (.int .i64) (.int most)),(6,.own 9005 [.int .i64,.int .i64] 0 got.length),(7,.own 9006 [.int .i64,.int .i64] 0 rest_2),(9,.c (.int .i64) (.int longest))] [(9005,.row 80 (List.map aj1 got)),(9006,.row 80 (List.map aj1 rest))]
def bj3 (n:Nat) (want_1:Int) (most:Int) (got:List aj0) (rest:List aj0) (rest_2:Nat) (longest:Int):Option ((Int×(List aj0)×(List aj0)×Nat) ⊕ ((((List aj0)×(List aj0)×Int) ⊕ (Unit)))) :=
 gd ((0≤longest∧longest < (rest_2:Int))∧(Int.toNat longest) < rest.length∧(got.length+1)≤2147483648) <|
 gd ((0≤longest∧longest < (rest_2:Int))∧(Int.toNat longest) < rest.length) <|
 (aqq n rest rest_2 longest (jd .i64 (longest+1))).bind fun r3 =>
 some (.inl ((jd .i64 (want_1 - ((gt rest (Int.toNat longest)).Len))),(got ++ [(gt rest (Int.toNat longest))]),r3.2,r3.1))
abbrev cyc (want_1:Int) (most:Int) (got:List aj0) (rest:List aj0) (rest_4:Nat) (longest_2:Int) (v35:Int) (v36:Int):S:=stB [(1,.c (.int .i64) (.int want_1)),(2,.c (.int .i64) (.int most)),(6,.own 9013 [.int .i64,.int .i64] 0 got.length),(7,.own 9014 [.int .i64,.int .i64] 0 rest_4),(9,.c (.int .i64) (.int longest_2)),(34,.own 9014 [.int .i64,.int .i64] 0 rest_4),(35,.c (.int .i64) (.int v35)),(36,.c (.int .i64) (.int v36))] [(9013,.row 80 (List.map aj1 got)),(9014,.row 80 (List.map aj1 rest))]
def bj1 (n:Nat) (want_1:Int) (most:Int) (got:List aj0) (rest:List aj0) (rest_4:Nat) (longest_2:Int) (v35:Int) (v36:Int):Option ((Nat×Int×Int) ⊕ ((((List aj0)×(List aj0)×Int) ⊕ (Nat×Int)))) :=
 some (.inl (rest_4,longest_2,(jd .i64 (v36+1))))
abbrev cyt (want_1:Int) (most:Int) (got:List aj0) (rest:List aj0) (v35:Int) (rest_3:Nat) (longest_1:Int) (v36:Int):S:=stB [(1,.c (.int .i64) (.int want_1)),(2,.c (.int .i64) (.int most)),(6,.own 9011 [.int .i64,.int .i64] 0 got.length),(7,.own 9012 [.int .i64,.int .i64] 0 rest_3),(9,.c (.int .i64) (.int longest_1)),(34,.own 9012 [.int .i64,.int .i64] 0 rest_3),(35,.c (.int .i64) (.int v35)),(36,.c (.int .i64) (.int v36))] [(9011,.row 80 (List.map aj1 got)),(9012,.row 80 (List.map aj1 rest))]
def aze (n:Nat) (want_1:Int) (most:Int) (got:List aj0) (rest:List aj0) (v35:Int) (rest_3:Nat) (longest_1:Int) (v36:Int):Option ((Nat×Int×Int) ⊕ ((((List aj0)×(List aj0)×Int) ⊕ (Nat×Int)))) :=
 bif (decide (v36 < v35)) then
  gd ((0≤v36∧v36 < (rest_3:Int))∧(Int.toNat v36) < rest.length) <|
  bif (decide (((gt rest (Int.toNat v36)).Len) > want_1)) then
   gd ((got.length+1)≤2147483648) <|
   gd ((0≤v36∧v36 < (rest_3:Int))∧(Int.toNat v36) < rest.length) <|
   some (.inr (.inl ((got ++ [(⟨(gt rest (Int.toNat v36)).At,want_1⟩:aj0)]),(List.take rest_3 (List.set rest (Int.toNat v36) (⟨(jd .i64 (((gt rest (Int.toNat v36)).At)+want_1)),(jd .i64 (((gt rest (Int.toNat v36)).Len) - want_1))⟩:aj0))),0)))
  else
   bif (((gt rest (Int.toNat v36)).Len) == want_1) then
    gd ((got.length+1)≤2147483648) <|
    (aqq n rest rest_3 v36 (jd .i64 (v36+1))).bind fun r4 =>
    some (.inr (.inl ((got ++ [(gt rest (Int.toNat v36))]),(List.take r4.1 r4.2),0)))
   else
    gd ((0≤longest_1∧longest_1 < (rest_3:Int))∧(Int.toNat longest_1) < rest.length) <|
    bif (decide (((gt rest (Int.toNat v36)).Len) > ((gt rest (Int.toNat longest_1)).Len))) then
     bj1 n want_1 most got rest rest_3 v36 v35 v36
    else
     bj1 n want_1 most got rest rest_3 longest_1 v35 v36
 else
  some (.inr (.inr (rest_3,longest_1)))
abbrev cy3 (most:Int) (want_1:Int) (got:List aj0) (rest:List aj0) (rest_1:Nat):S:=stB [(1,.c (.int .i64) (.int want_1)),(2,.c (.int .i64) (.int most)),(6,.own 9003 [.int .i64,.int .i64] 0 got.length),(7,.own 9004 [.int .i64,.int .i64] 0 rest_1)] [(9003,.row 80 (List.map aj1 got)),(9004,.row 80 (List.map aj1 rest))]
def aq2 (n:Nat) (most:Int) (want_1:Int) (got:List aj0) (rest:List aj0) (rest_1:Nat):Option ((Int×(List aj0)×(List aj0)×Nat) ⊕ ((((List aj0)×(List aj0)×Int) ⊕ (Unit)))) :=
 bif (if (decide (((got.length:Nat):Int) < most))=true then (decide (((rest_1:Nat):Int) > 0)) else false) then
  (ajk (fun (x:Nat×Int×Int)=>aze n want_1 most got rest ((rest_1:Nat):Int) x.1 x.2.1 x.2.2) n (rest_1,0,0)).bind fun y23 =>
  match y23 with
  | .inl vv =>
   some (.inr (.inl (vv.1,vv.2.1,vv.2.2)))
  | .inr vv =>
   bj3 n want_1 most got rest vv.1 vv.2
 else
  some (.inr (.inr ()))
def awo (n:Nat) (free:List aj0) (want:Int) (most:Int):Option ((List aj0)×(List aj0)×Int) :=
 (bzi n free 512).bind fun r1 =>
 bif (if (if (!r1)=true then true else (decide (want < 1)))=true then true else (decide (most < 1))) then
  some ([],[],1)
 else
  (awl n free).bind fun r2 =>
  (ajk (fun (x:Int×(List aj0)×(List aj0)×Nat)=>aq2 n most x.1 x.2.1 x.2.2.1 x.2.2.2) n (want,[],r2,r2.length)).bind fun y9 =>
  match y9 with
  | .inl vv =>
   some (vv.1,vv.2.1,vv.2.2)
  | .inr vv =>
   cj3 n
def byq (n:Nat):Go.AE.Fn:=mkFn (A:=(List aj0)×Int×Int) (R:=(List aj0)×(List aj0)×Int) 85 [(false,[.slice 80]),(false,[.int .i64]),(false,[.int .i64])] true (fun xs=>(((cg (xs.getD 0 []) 0).toSl.map ajl),(cg (xs.getD 1 []) 0).toInt,(cg (xs.getD 2 []) 0).toInt)) (fun a=>[[.slice (List.map aj1 a.1)],[.int a.2.1],[.int a.2.2]]) (fun a=>awo n a.1 a.2.1 a.2.2) (fun r=>[.own 0 [.int .i64,.int .i64] 0 r.1.length,.c (.slice 80) (.slice (List.map aj1 r.2.1)),.c (.int .i64) (.int r.2.2)]) (fun r=>[.row 80 (List.map aj1 r.1)])
theorem cwm (n:Nat):aj2 je (byq n):=by
 have hΓ:=g1 (ekt n) (g1 (akp n) (@g0 (aj2 je)))
 have qe:=aI @djm.eq_1 @aw9.eq_1
 refine ajb (Tryz.f85.body.getD .skip) h00 Tryz.func85 rfl Tryz.call85 (by decide) (by intro h;cases h) ?_
 rintro ⟨free,want,most⟩ r H
 try dsimp only at H
 unfold awo at H
 simp only [Tryz.f85,jt]
 refine rA ?_
 refine Sm.scope ?_
 refine jr fun K2 hK2=>?_
 obtain ⟨r1,hr1,H⟩:=bind_some H
 have q:=aI qe hr1
 refine rAq ?_
 refine cnd H (fun h4 H=>?_) (fun h4 H=>?_)
 ·refine rA ?_
  refine js ?_
  refine lf ?_
  obtain rfl:=Option.some.inj H
  exact rto [none]
 refine jq ?_
 refine hK2 _ ?_
 obtain ⟨r2,hr2,H⟩:=bind_some H
 have q:=aI qe hr2
 refine rAq ?_
 refine jr fun K7 hK7=>?_
 refine Sm.of (Γ:=[]) h00 mixed (by simp) rfl ?_
 refine hK7 _ ?_
 refine j4 (fun (x:Unit)=>cyu) (fun x=>cj3 n=some r) ?_ ?_
 ·refine jC ?_
  obtain ⟨y9,hy9,Ho9⟩:=bind_some H
  refine j3 _ (fun x=>cy3 most x.1 x.2.1 x.2.2.1 x.2.2.2) hy9 (wb [none,some 384]) ?_
  rintro ⟨want_1,got,rest,rest_1⟩ z9 H
  try dsimp only at H
  unfold aq2 at H
  refine Sm.st (cy3.eq_1 ..) ?_
  refine jr fun K10 hK10=>?_
  refine rA ?_
  refine cnd H (fun h12 H=>?_) (fun h12 H=>?_)
  ·refine jq ?_
   refine hK10 _ ?_
   refine jC ?_
   refine rA ?_
   refine j4 (fun (x:Nat×Int)=>cy4 want_1 most got rest x.1 x.2) (fun x=>bj3 n want_1 most got rest x.1 x.2=some z9) ?_ ?_
   ·refine rA ?_
    refine jC ?_
    obtain ⟨y23,hy23,Ho23⟩:=bind_some H
    refine j3 _ (fun x=>cyt want_1 most got rest ((rest_1:Nat):Int) x.1 x.2.1 x.2.2) hy23 (wb [some 9003,some 9004]) ?_
    rintro ⟨rest_3,longest_1,v36⟩ z23 H
    try dsimp only at H
    unfold aze at H
    refine Sm.st (cyt.eq_1 ..) ?_
    refine rA ?_
    refine jr fun K25 hK25=>?_
    refine cnd H (fun h26 H=>?_) (fun h26 H=>?_)
    ·refine jq ?_
     refine hK25 _ ?_
     refine j4 (fun (x:Int)=>cyc want_1 most got rest rest_3 x ((rest_1:Nat):Int) v36) (fun x=>bj1 n want_1 most got rest rest_3 x ((rest_1:Nat):Int) v36=some z23) ?_ ?_
     ·refine jC ?_
      obtain ⟨⟨hg47,hg48⟩,H⟩:=aj7 H
      refine rA ?_
      refine jr fun K28 hK28=>?_
      refine rA ?_
      refine cnd H (fun h30 H=>?_) (fun h30 H=>?_)
      ·obtain ⟨hg36,H⟩:=aj7 H
       refine rA ?_
       obtain ⟨⟨hg34,hg35⟩,H⟩:=aj7 H
       refine rA ?_
       refine rA ?_
       refine js ?_
       refine lf ?_
       refine lx H fun hyy=>?_
       subst hyy
       have H:=Ho23
       try dsimp only at H
       refine lf ?_
       refine lx H fun hyy=>?_
       subst hyy
       have H:=Ho9
       try dsimp only at H
       refine lf ?_
       obtain rfl:=Option.some.inj H
       exact rto [some 816]
      refine jq ?_
      refine hK28 _ ?_
      refine jr fun K37 hK37=>?_
      refine rA ?_
      refine cnd H (fun h39 H=>?_) (fun h39 H=>?_)
      ·obtain ⟨hg42,H⟩:=aj7 H
       refine rA ?_
       refine sX fun K41 hK41=>?_
       obtain ⟨r4,hr4,H⟩:=bind_some H
       have q:=hr4
       iterate 5 refine oX ?_
       refine oMq (bwf n _ _ _ _ r4 hr4) [9012] [] ?_
       iterate 3 refine oXq ?_
       refine hK41 _ ?_
       refine js ?_
       refine lf ?_
       refine lx H fun hyy=>?_
       subst hyy
       have H:=Ho23
       try dsimp only at H
       refine lf ?_
       refine lx H fun hyy=>?_
       subst hyy
       have H:=Ho9
       try dsimp only at H
       refine lf ?_
       obtain rfl:=Option.some.inj H
       exact rto [some 1168]
      refine jq ?_
      refine hK37 _ ?_
      obtain ⟨⟨hg45,hg46⟩,H⟩:=aj7 H
      refine rD ?_
      refine cnd H (fun h44 H=>?_) (fun h44 H=>?_)
      ·refine eA ?_
       refine lf ?_
       exact ⟨_,H,wb [some 9011,some 9012]⟩
      refine jq ?_
      refine lf ?_
      exact ⟨_,H,wb [some 9011,some 9012]⟩
     rintro longest_2 H
     try dsimp only at H
     unfold bj1 at H
     refine Sm.st (cyc.eq_1 ..) ?_
     refine eA ?_
     refine lf ?_
     exact nx H (wb [some 9013,some 9014])
    refine Jb ?_
    refine lf ?_
    refine lx H fun hyy=>?_
    subst hyy
    have H:=Ho23
    try dsimp only at H
    refine lf ?_
    exact ⟨(rest_3,longest_1),H,wb [some 9011,some 9012]⟩
   rintro ⟨rest_2,longest⟩ H
   try dsimp only at H
   unfold bj3 at H
   refine Sm.st (cy4.eq_1 ..) ?_
   obtain ⟨⟨hg19,hg20,hg21⟩,H⟩:=aj7 H
   refine rA ?_
   obtain ⟨⟨hg17,hg18⟩,H⟩:=aj7 H
   refine rA ?_
   refine sX fun K16 hK16=>?_
   obtain ⟨r3,hr3,H⟩:=bind_some H
   have q:=hr3
   iterate 4 refine oX ?_
   refine oMq (bwf n _ _ _ _ r3 hr3) [9006] [] ?_
   refine oXq ?_
   refine hK16 _ ?_
   refine Jb ?_
   refine lf ?_
   exact nx H (wb [some 1536,some 9006])
  refine Jb ?_
  refine lf ?_
  refine lx H fun hyy=>?_
  subst hyy
  have H:=Ho9
  try dsimp only at H
  refine lf ?_
  exact ⟨(),H,wb []⟩
 rintro ⟨⟩ H
 try dsimp only at H
 unfold cj3 at H
 refine Sm.st (cyu.eq_1 ..) ?_
 refine rA ?_
 refine js ?_
 refine lf ?_
 obtain rfl:=Option.some.inj H
 exact rto [none]
def awf (n:Nat) (v:aj5) (l:List aj6):Option aj5 :=
 some (⟨v.Serial,v.Cyls,v.Heads,v.Size,l⟩:aj5)
def aqh (n:Nat) (v:aj5) (v16:Int) (l_1:List aj6) (v17:Int):Option (((List aj6)×Int) ⊕ (((List aj6)))) :=
 bif (decide (v17 < v16)) then
  gd ((0≤v17∧v17 < (v.Sets.length:Int))) <|
  (awl n ((gt v.Sets (Int.toNat v17)).Extents)).bind fun r1 =>
  gd ((0≤v17∧v17 < (l_1.length:Int))∧(Int.toNat v17) < l_1.length) <|
  some (.inl ((List.set l_1 (Int.toNat v17) (⟨(gt v.Sets (Int.toNat v17)).Name,((gt v.Sets (Int.toNat v17)).Dcb),r1,(gt v.Sets (Int.toNat v17)).Used⟩:aj6)),(jd .i64 (v17+1))))
 else
  some (.inr l_1)
def ajo (n:Nat) (v:aj5):Option aj5 :=
 gd ((0≤(v.Sets.length:Int)∧(v.Sets.length:Int)≤(jd .i64 ((v.Sets.length:Int)+1))∧(jd .i64 ((v.Sets.length:Int)+1))≤2147483648)) <|
 (ajk (fun (x:(List aj6)×Int)=>aqh n v (v.Sets.length:Int) x.1 x.2) n ((azv (Int.toNat (v.Sets.length:Int)) (⟨[],(⟨0,0,false,false,0,0,0,0⟩:TDcb),[],0⟩:aj6)),0)).bind fun y7 =>
 awf n v y7
abbrev bwg (v:aj5) (l:List aj6):S:=stB [(1,.box 9000 0),(2,.box 9001 0),(3,.own 9002 [.str,.int .i64,.int .i64,.bool,.bool,.int .i64,.int .i64,.int .i64,.int .i64,.slice 80,.int .i64] 0 l.length)] [(0,.reg),(9000,.box [.c .str (.str v.Serial),.c (.int .i64) (.int v.Cyls),.c (.int .i64) (.int v.Heads),.c (.int .i64) (.int v.Size),.rg 0 (.slice 41) (.slice (List.map aj3 v.Sets))]),(9001,.box [.c .str (.str []),.c (.int .i64) (.int 0),.c (.int .i64) (.int 0),.c (.int .i64) (.int 0),.nilsl]),(9002,.row 41 (List.map aj3 l))]
abbrev awt (v:aj5) (v16:Int) (l_1:List aj6) (v17:Int):S:=stB [(1,.box 9006 0),(2,.box 9007 0),(3,.own 9008 [.str,.int .i64,.int .i64,.bool,.bool,.int .i64,.int .i64,.int .i64,.int .i64,.slice 80,.int .i64] 0 l_1.length),(15,.rg 0 (.slice 41) (.slice (List.map aj3 v.Sets))),(16,.c (.int .i64) (.int v16)),(17,.c (.int .i64) (.int v17))] [(0,.reg),(9006,.box [.c .str (.str v.Serial),.c (.int .i64) (.int v.Cyls),.c (.int .i64) (.int v.Heads),.c (.int .i64) (.int v.Size),.rg 0 (.slice 41) (.slice (List.map aj3 v.Sets))]),(9007,.box [.c .str (.str []),.c (.int .i64) (.int 0),.c (.int .i64) (.int 0),.c (.int .i64) (.int 0),.nilsl]),(9008,.row 41 (List.map aj3 l_1))]
theorem cki (n:Nat) (v:aj5) (r:aj5) (H:ajo n v=some r):aqg je 57 [.ref (.agg [.c .str (.str v.Serial),.c (.int .i64) (.int v.Cyls),.c (.int .i64) (.int v.Heads),.c (.int .i64) (.int v.Size),.rg 0 (.slice 41) (.slice (List.map aj3 v.Sets))])] [.reg] [.agg [.c .str (.str r.Serial),.c (.int .i64) (.int r.Cyls),.c (.int .i64) (.int r.Heads),.c (.int .i64) (.int r.Size),.own 1 [.str,.int .i64,.int .i64,.bool,.bool,.int .i64,.int .i64,.int .i64,.int .i64,.slice 80,.int .i64] 0 r.Sets.length]] [.reg,.row 41 (List.map aj3 r.Sets)]:=by
 have hΓ:=g1 (akp n) (@g0 (aj2 je))
 refine aq4 (Tryz.f57.body.getD .skip) h00 Tryz.func57 rfl Tryz.call57 (jk rfl) (jk rfl) ?_
 unfold ajo at H
 simp only [Tryz.f57,jt]
 refine rA ?_
 refine sX fun K2 hK2=>?_
 obtain ⟨hg3,H⟩:=aj7 H
 iterate 2 refine oX ?_
 refine oE awe ?_
 iterate 2 refine oX ?_
 refine oE awe ?_
 refine oX ?_
 refine oY ?_
 refine oX ?_
 refine hK2 _ ?_
 refine j4 (fun (x:(List aj6))=>bwg v x) (fun x=>awf n v x=some r) ?_ ?_
 ·refine sX fun K6 hK6=>?_
  iterate 2 refine oX ?_
  refine oE awe ?_
  refine oX ?_
  refine hK6 _ ?_
  refine jC ?_
  obtain ⟨y7,hy7,Ho7⟩:=bind_some H
  refine j3 _ (fun x=>awt v (v.Sets.length:Int) x.1 x.2) hy7 (wb [some 0,some 16,some 32,some 208]) ?_
  rintro ⟨l_1,v17⟩ z7 H
  try dsimp only at H
  unfold aqh at H
  refine Sm.st (awt.eq_1 ..) ?_
  refine rA ?_
  refine jr fun K9 hK9=>?_
  refine cnd H (fun h10 H=>?_) (fun h10 H=>?_)
  ·refine jq ?_
   refine hK9 _ ?_
   refine jr fun K11 hK11=>?_
   refine jC ?_
   refine sX fun K12 hK12=>?_
   obtain ⟨hg13,H⟩:=aj7 H
   refine oX ?_
   refine oE awe ?_
   refine oE awe ?_
   iterate 3 refine oX ?_
   refine hK12 _ ?_
   obtain ⟨r1,hr1,H⟩:=bind_some H
   have q:=aI @aw9.eq_1 hr1
   refine rAq ?_
   obtain ⟨⟨hg15,hg16⟩,H⟩:=aj7 H
   refine eA ?_
   refine hK11 _ ?_
   refine eA ?_
   refine lf ?_
   exact nx H (wb [some 0,some 9006,some 9007,some 9008])
  refine Jb ?_
  refine lf ?_
  refine lx H fun hyy=>?_
  subst hyy
  have H:=Ho7
  try dsimp only at H
  refine lf ?_
  exact ⟨_,H,wb [some 0,some 9006,some 9007,some 9008]⟩
 rintro l H
 try dsimp only at H
 unfold awf at H
 refine Sm.st (bwg.eq_1 ..) ?_
 refine rA ?_
 refine rA ?_
 refine js ?_
 refine lf ?_
 obtain rfl:=Option.some.inj H
 exact rtM [some 0,some 9002]
def aqv (n:Nat):Go.AE.Fn:=mkFn (A:=aj5) (R:=aj5) 57 [(true,[.str,.int .i64,.int .i64,.int .i64,.slice 41])] false (fun xs=>(⟨(cg (xs.getD 0 []) 0).toStr,(cg (xs.getD 0 []) 1).toInt,(cg (xs.getD 0 []) 2).toInt,(cg (xs.getD 0 []) 3).toInt,((cg (xs.getD 0 []) 4).toSl.map aq3)⟩:aj5)) (fun a=>[[.str a.Serial,.int a.Cyls,.int a.Heads,.int a.Size,.slice (List.map aj3 a.Sets)]]) (fun a=>ajo n a) (fun r=>[.agg [.c .str (.str r.Serial),.c (.int .i64) (.int r.Cyls),.c (.int .i64) (.int r.Heads),.c (.int .i64) (.int r.Size),.own 0 [.str,.int .i64,.int .i64,.bool,.bool,.int .i64,.int .i64,.int .i64,.int .i64,.slice 80,.int .i64] 0 r.Sets.length]]) (fun r=>[.row 41 (List.map aj3 r.Sets)])
theorem aw6 (n:Nat):aj2 je (aqv n):=bq1 Tryz.call57 fun a r h=>⟨_,_,cki n a r h,rfl,rfl,rfl,rfl⟩
def aky (n:Nat) (v:aj5) (d:aj6) (tracks:Int):Option (aj5×Int) :=
 (az3 n v).bind fun r1 =>
 bif (r1 != 0) then
  some ((⟨[],0,0,0,[]⟩:aj5),r1)
 else
  (by8 n d.Name).bind fun r2 =>
  gd (((!(!r2))=true→(aqn n d.Dcb).isSome=true)) <|
  bif (if (if (!r2)=true then true else (!((aqn n d.Dcb).getD default)))=true then true else (decide (tracks < 1))) then
   some ((⟨[],0,0,0,[]⟩:aj5),1)
  else
   (ajx n v d.Name).bind fun r3 =>
   bif r3.2 then
    some ((⟨[],0,0,0,[]⟩:aj5),4)
   else
    bif ((v.Sets.length:Int) == (if (jd .i64 (14 * v.Size)) < 64 then (jd .i64 (14 * v.Size)) else 64)) then
     some ((⟨[],0,0,0,[]⟩:aj5),7)
    else
     (by2 n v).bind fun r4 =>
     (awo n r4 tracks 8).bind fun r5 =>
     bif (r5.2.2 != 0) then
      some ((⟨[],0,0,0,[]⟩:aj5),r5.2.2)
     else
      (ajo n v).bind fun r6 =>
      (bqz n r6.Sets r3.1 [(⟨d.Name,d.Dcb,r5.1,0⟩:aj6)]).bind fun r7 =>
      some ((⟨r6.Serial,r6.Cyls,r6.Heads,r6.Size,r7⟩:aj5),0)
theorem ewa (n:Nat) (v:aj5) (d:aj6) (tracks:Int) (r:aj5×Int) (H:aky n v d tracks=some r):aqg je 41 [.ref (.agg [.c .str (.str v.Serial),.c (.int .i64) (.int v.Cyls),.c (.int .i64) (.int v.Heads),.c (.int .i64) (.int v.Size),.rg 0 (.slice 41) (.slice (List.map aj3 v.Sets))]),.ref (.agg [.c .str (.str d.Name),.c (.int .i64) (.int d.Dcb.Org),.c (.int .i64) (.int d.Dcb.Format),.c .bool (.bool d.Dcb.Blocked),.c .bool (.bool d.Dcb.Asa),.c (.int .i64) (.int d.Dcb.Lrecl),.c (.int .i64) (.int d.Dcb.Blksize),.c (.int .i64) (.int d.Dcb.KeyLen),.c (.int .i64) (.int d.Dcb.KeyPos),.rg 0 (.slice 80) (.slice (List.map aj1 d.Extents)),.c (.int .i64) (.int d.Used)]),.dat (false,[.int .i64]) [.int tracks]] [.reg] [.agg [.c .str (.str r.1.Serial),.c (.int .i64) (.int r.1.Cyls),.c (.int .i64) (.int r.1.Heads),.c (.int .i64) (.int r.1.Size),.own 1 [.str,.int .i64,.int .i64,.bool,.bool,.int .i64,.int .i64,.int .i64,.int .i64,.slice 80,.int .i64] 0 r.1.Sets.length],.c (.int .i64) (.int r.2)] [.reg,.row 41 (List.map aj3 r.1.Sets)]:=by
 have hΓ:=g1 (ak5 n) (g1 (dzh n) (g1 (by9 n) (g1 (aqp n) (g1 (ck6 n) (g1 (cwm n) (g1 (aw6 n) (@g0 (aj2 je))))))))
 have qe:=aI @azf.eq_1 (aI @cka.eq_1 (aI @bw0.eq_1 (aI @aqd.eq_1 (aI @cjy.eq_1 (aI @byq.eq_1 @aqv.eq_1)))))
 refine aq4 (Tryz.f41.body.getD .skip) h00 Tryz.func41 rfl Tryz.call41 (jk rfl) (jk rfl) ?_
 unfold aky at H
 simp only [Tryz.f41,jt]
 refine rA ?_
 refine jr fun K2 hK2=>?_
 obtain ⟨r1,hr1,H⟩:=bind_some H
 have q:=aI qe hr1
 refine rAq ?_
 refine rA ?_
 refine cnd H (fun h5 H=>?_) (fun h5 H=>?_)
 ·refine rA ?_
  refine js ?_
  refine lf ?_
  obtain rfl:=Option.some.inj H
  exact rtM [some 0,none]
 refine jq ?_
 refine hK2 _ ?_
 refine jr fun K7 hK7=>?_
 obtain ⟨r2,hr2,H⟩:=bind_some H
 obtain ⟨hg28,H⟩:=aj7 H
 have q:=aI qe hr2
 refine rAq ?_
 refine cnd H (fun h9 H=>?_) (fun h9 H=>?_)
 ·refine rA ?_
  refine js ?_
  refine lf ?_
  obtain rfl:=Option.some.inj H
  exact rtM [some 0,none]
 refine jq ?_
 refine hK7 _ ?_
 obtain ⟨r3,hr3,H⟩:=bind_some H
 have q:=aI qe hr3
 refine rAq ?_
 refine jr fun K12 hK12=>?_
 refine rA ?_
 refine cnd H (fun h14 H=>?_) (fun h14 H=>?_)
 ·refine rA ?_
  refine js ?_
  refine lf ?_
  obtain rfl:=Option.some.inj H
  exact rtM [some 0,none]
 refine jq ?_
 refine hK12 _ ?_
 refine jr fun K16 hK16=>?_
 refine sX fun K17 hK17=>?_
 iterate 2 refine oX ?_
 refine oE awe ?_
 iterate 5 refine oX ?_
 refine hK17 _ ?_
 refine cnd H (fun h18 H=>?_) (fun h18 H=>?_)
 ·refine rA ?_
  refine js ?_
  refine lf ?_
  obtain rfl:=Option.some.inj H
  exact rtM [some 0,none]
 refine jq ?_
 refine hK16 _ ?_
 obtain ⟨r4,hr4,H⟩:=bind_some H
 obtain ⟨r5,hr5,H⟩:=bind_some H
 have q:=aI qe (aI hr4 hr5)
 refine rAq ?_
 refine jr fun K21 hK21=>?_
 refine rA ?_
 refine cnd H (fun h23 H=>?_) (fun h23 H=>?_)
 ·refine rA ?_
  refine js ?_
  refine lf ?_
  obtain rfl:=Option.some.inj H
  exact rtM [some 0,none]
 refine jq ?_
 refine hK21 _ ?_
 obtain ⟨r6,hr6,H⟩:=bind_some H
 have q:=aI qe hr6
 refine rAq ?_
 refine sX fun K26 hK26=>?_
 obtain ⟨r7,hr7,H⟩:=bind_some H
 have q:=hr7
 iterate 10 refine oX ?_
 refine oMq (dky n _ _ _ r7 hr7) [1072,1232] [1248] ?_
 iterate 2 refine oXq ?_
 refine hK26 _ ?_
 refine rA ?_
 refine js ?_
 refine lf ?_
 obtain rfl:=Option.some.inj H
 exact rtM [some 0,some 1248]
def cza (n:Nat):Go.AE.Fn:=mkFn (A:=aj5×aj6×Int) (R:=aj5×Int) 41 [(true,[.str,.int .i64,.int .i64,.int .i64,.slice 41]),(true,[.str,.int .i64,.int .i64,.bool,.bool,.int .i64,.int .i64,.int .i64,.int .i64,.slice 80,.int .i64]),(false,[.int .i64])] false (fun xs=>((⟨(cg (xs.getD 0 []) 0).toStr,(cg (xs.getD 0 []) 1).toInt,(cg (xs.getD 0 []) 2).toInt,(cg (xs.getD 0 []) 3).toInt,((cg (xs.getD 0 []) 4).toSl.map aq3)⟩:aj5),(⟨(cg (xs.getD 1 []) 0).toStr,(⟨(cg (xs.getD 1 []) 1).toInt,(cg (xs.getD 1 []) 2).toInt,(cg (xs.getD 1 []) 3).toBool,(cg (xs.getD 1 []) 4).toBool,(cg (xs.getD 1 []) 5).toInt,(cg (xs.getD 1 []) 6).toInt,(cg (xs.getD 1 []) 7).toInt,(cg (xs.getD 1 []) 8).toInt⟩:TDcb),((cg (xs.getD 1 []) 9).toSl.map ajl),(cg (xs.getD 1 []) 10).toInt⟩:aj6),(cg (xs.getD 2 []) 0).toInt)) (fun a=>[[.str a.1.Serial,.int a.1.Cyls,.int a.1.Heads,.int a.1.Size,.slice (List.map aj3 a.1.Sets)],[.str a.2.1.Name,.int a.2.1.Dcb.Org,.int a.2.1.Dcb.Format,.bool a.2.1.Dcb.Blocked,.bool a.2.1.Dcb.Asa,.int a.2.1.Dcb.Lrecl,.int a.2.1.Dcb.Blksize,.int a.2.1.Dcb.KeyLen,.int a.2.1.Dcb.KeyPos,.slice (List.map aj1 a.2.1.Extents),.int a.2.1.Used],[.int a.2.2]]) (fun a=>aky n a.1 a.2.1 a.2.2) (fun r=>[.agg [.c .str (.str r.1.Serial),.c (.int .i64) (.int r.1.Cyls),.c (.int .i64) (.int r.1.Heads),.c (.int .i64) (.int r.1.Size),.own 0 [.str,.int .i64,.int .i64,.bool,.bool,.int .i64,.int .i64,.int .i64,.int .i64,.slice 80,.int .i64] 0 r.1.Sets.length],.c (.int .i64) (.int r.2)]) (fun r=>[.row 41 (List.map aj3 r.1.Sets)])
theorem dzl (n:Nat):aj2 je (cza n):=bq1 Tryz.call41 fun a r h=>⟨_,_,ewa n a.1 a.2.1 a.2.2 r h,rfl,rfl,rfl,rfl⟩
abbrev cw5:S:=stB [] []
def bzx (n:Nat):Option Bool :=
 some true
abbrev cwa (a:List aj0) (b:List aj0) (k:Int):S:=stB [(0,.c (.slice 80) (.slice (List.map aj1 a))),(1,.c (.slice 80) (.slice (List.map aj1 b))),(5,.c (.int .i64) (.int k))] []
def cqy (n:Nat) (a:List aj0) (b:List aj0) (k:Int):Option ((Int) ⊕ (((Bool) ⊕ (Unit)))) :=
 bif (decide (k < (a.length:Int))) then
  gd ((0≤k∧k < (a.length:Int))∧(0≤k∧k < (b.length:Int))) <|
  bif (!((((gt a (Int.toNat k)).At) == ((gt b (Int.toNat k)).At)) && (((gt a (Int.toNat k)).Len) == ((gt b (Int.toNat k)).Len)))) then
   some (.inr (.inl false))
  else
   some (.inl (jd .i64 (k+1)))
 else
  some (.inr (.inr ()))
def bqp (n:Nat) (a:List aj0) (b:List aj0):Option Bool :=
 bif ((a.length:Int) != (b.length:Int)) then
  some false
 else
  (ajk (fun (x:Int)=>cqy n a b x) n 0).bind fun y8 =>
  match y8 with
  | .inl vv =>
   some vv
  | .inr vv =>
   bzx n
def cys (n:Nat):Go.AE.Fn:=mkFn (A:=(List aj0)×(List aj0)) (R:=Bool) 49 [(false,[.slice 80]),(false,[.slice 80])] false (fun xs=>(((cg (xs.getD 0 []) 0).toSl.map ajl),((cg (xs.getD 1 []) 0).toSl.map ajl))) (fun a=>[[.slice (List.map aj1 a.1)],[.slice (List.map aj1 a.2)]]) (fun a=>bqp n a.1 a.2) (fun r=>[.c .bool (.bool r)]) (fun r=>[])
theorem eqy (n:Nat):aj2 je (cys n):=by
 have hΓ:=@g0 (aj2 je)
 refine ajb (Tryz.f49.body.getD .skip) h00 Tryz.func49 rfl Tryz.call49 (by decide) (by intro _ r;exact ⟨rfl,by simp⟩) ?_
 rintro ⟨a,b⟩ r H
 try dsimp only at H
 unfold bqp at H
 simp only [Tryz.f49,jt]
 refine rA ?_
 refine jr fun K2 hK2=>?_
 refine rA ?_
 refine cnd H (fun h4 H=>?_) (fun h4 H=>?_)
 ·refine rA ?_
  refine js ?_
  refine lf ?_
  obtain rfl:=Option.some.inj H
  exact rt []
 refine jq ?_
 refine hK2 _ ?_
 refine j4 (fun (x:Unit)=>cw5) (fun x=>bzx n=some r) ?_ ?_
 ·refine rA ?_
  refine jC ?_
  obtain ⟨y8,hy8,Ho8⟩:=bind_some H
  refine j3 _ (fun x=>cwa a b x) hy8 (wb []) ?_
  rintro k z8 H
  try dsimp only at H
  unfold cqy at H
  refine Sm.st (cwa.eq_1 ..) ?_
  refine jr fun K9 hK9=>?_
  refine rA ?_
  refine cnd H (fun h11 H=>?_) (fun h11 H=>?_)
  ·refine jq ?_
   refine hK9 _ ?_
   refine jr fun K12 hK12=>?_
   refine jC ?_
   obtain ⟨⟨hg16,hg17⟩,H⟩:=aj7 H
   refine rD ?_
   refine cnd H (fun h14 H=>?_) (fun h14 H=>?_)
   ·refine rA ?_
    refine js ?_
    refine lf ?_
    refine lx H fun hyy=>?_
    subst hyy
    have H:=Ho8
    try dsimp only at H
    refine lf ?_
    obtain rfl:=Option.some.inj H
    exact rt []
   refine jq ?_
   refine hK12 _ ?_
   refine eA ?_
   refine lf ?_
   exact nx H (wb [])
  refine Jb ?_
  refine lf ?_
  refine lx H fun hyy=>?_
  subst hyy
  have H:=Ho8
  try dsimp only at H
  refine lf ?_
  exact ⟨(),H,wb []⟩
 rintro ⟨⟩ H
 try dsimp only at H
 unfold bzx at H
 refine Sm.st (cw5.eq_1 ..) ?_
 refine rA ?_
 refine js ?_
 refine lf ?_
 obtain rfl:=Option.some.inj H
 exact rt []
def cqr (n:Nat):Option Bool :=
 (ek2 n [86,49] 4 2 1).bind fun r1 =>
 (cqj n).bind fun r2 =>
 (aky n (⟨r1.1.Serial,r1.1.Cyls,r1.1.Heads,r1.1.Size,[]⟩:aj5) (⟨[65],r2,[],0⟩:aj6) 3).bind fun r3 =>
 (cqj n).bind fun r4 =>
 (aky n r3.1 (⟨[66],r4,[],0⟩:aj6) 2).bind fun r5 =>
 (by2 n r5.1).bind fun r6 =>
 gd (((if (if (if (r1.2 == 0)=true then (r3.2 == 0) else false)=true then (r5.2 == 0) else false)=true then (((r5.1.Sets.length:Nat):Int) == 2) else false)=true→0 < (r5.1.Sets.length:Int))∧((if (if (if (r1.2 == 0)=true then (r3.2 == 0) else false)=true then (r5.2 == 0) else false)=true then (((r5.1.Sets.length:Nat):Int) == 2) else false)=true→0 < r5.1.Sets.length)) <|
 bif (if (if (if (r1.2 == 0)=true then (r3.2 == 0) else false)=true then (r5.2 == 0) else false)=true then (((r5.1.Sets.length:Nat):Int) == 2) else false) then
  gd ((if (if (if (r1.2 == 0)=true then (r3.2 == 0) else false)=true then (r5.2 == 0) else false)=true then (((r5.1.Sets.length:Nat):Int) == 2) else false)=true∧(if (if (if (r1.2 == 0)=true then (r3.2 == 0) else false)=true then (r5.2 == 0) else false)=true then (((r5.1.Sets.length:Nat):Int) == 2) else false)=true) <|
  (bqp n ((gt r5.1.Sets 0).Extents) [(⟨2,3⟩:aj0)]).bind fun r7 =>
  gd ((r7=true→1 < (r5.1.Sets.length:Int))∧(r7=true→1 < r5.1.Sets.length)) <|
  bif r7 then
   gd (r7=true∧r7=true) <|
   (bqp n ((gt r5.1.Sets 1).Extents) [(⟨5,2⟩:aj0)]).bind fun r8 =>
   bif r8 then
    gd (r8=true∧r8=true) <|
    (bqp n r6 [(⟨7,1⟩:aj0)]).bind fun r9 =>
    some r9
   else
    some false
  else
   some false
 else
  some false
def dk5 (n:Nat):Go.AE.Fn:=mkFn (A:=Unit) (R:=Bool) 14 [] false (fun xs=>()) (fun a=>[]) (fun a=>cqr n) (fun r=>[.c .bool (.bool r)]) (fun r=>[])
theorem fqj (n:Nat):aj2 je (dk5 n):=by
 have hΓ:=g1 (gkg n) (g1 (fjl n) (g1 (dzl n) (g1 (ck6 n) (g1 (eqy n) (@g0 (aj2 je))))))
 have qe:=aI @fjr.eq_1 (aI @dk0.eq_1 (aI @cza.eq_1 (aI @cjy.eq_1 @cys.eq_1)))
 refine ajb (Tryz.f14.body.getD .skip) h00 Tryz.func14 rfl Tryz.call14 (by decide) (by intro _ r;exact ⟨rfl,by simp⟩) ?_
 rintro ⟨⟩ r H
 try dsimp only at H
 unfold cqr at H
 simp only [Tryz.f14,jt]
 refine rA ?_
 obtain ⟨r1,hr1,H⟩:=bind_some H
 have q:=aI qe hr1
 refine rAq ?_
 obtain ⟨r2,hr2,H⟩:=bind_some H
 obtain ⟨r3,hr3,H⟩:=bind_some H
 refine sQ [0,1,2,3,4,5,6,7,8] [(none,[16],[]),(none,[],[207,206,205,204,203,202,201,200,199,198,197,196,195,194,193,192]),(none,[],[]),(none,[],[239,238,237,236,235,234,233,232,231,230,229,228,227,226,225,224]),(none,[],[]),(none,[],[]),(none,[],[]),(none,[16,224],[16]),(none,[],[])] fun K3 hK3=>?_
 have q:=aI qe (aI hr2 hr3)
 iterate 9 refine oQq ?_
 refine ckg ?_
 refine hK3 _ ?_
 obtain ⟨r4,hr4,H⟩:=bind_some H
 obtain ⟨r5,hr5,H⟩:=bind_some H
 refine sQ [0,1,2,3,4,5,6,7,8] [(none,[16],[]),(none,[],[319,318,317,316,315,314,313,312,311,310,309,308,307,306,305,304]),(none,[],[]),(none,[224],[351,350,349,348,347,346,345,344,343,342,341,340,339,338,337,336,224]),(none,[],[]),(none,[],[]),(none,[],[]),(none,[16,336],[16]),(none,[],[])] fun K4 hK4=>?_
 have q:=aI qe (aI hr4 hr5)
 iterate 9 refine oQq ?_
 refine ckg ?_
 refine hK4 _ ?_
 obtain ⟨r6,hr6,H⟩:=bind_some H
 have q:=aI qe hr6
 refine rAq ?_
 refine sX fun K6 hK6=>?_
 obtain ⟨⟨hg7,hg8⟩,H⟩:=aj7 H
 have q:=qe
 iterate 23 refine oXq ?_
 refine bkv H (fun hs9 H=>?_) (fun hs9 H=>?_)
 ·try simp only [hs9,jS,jK,jj,true_implies,false_implies,forall_const] at hg7
  try simp only [hs9,jS,jK,jj,true_implies,false_implies,forall_const] at hg8
  obtain ⟨⟨hg10,hg11⟩,H⟩:=aj7 H
  obtain ⟨r7,hr7,H⟩:=bind_some H
  obtain ⟨⟨hg12,hg13⟩,H⟩:=aj7 H
  have q:=aI qe (aI hs9 hr7)
  refine oTG ?_
  refine oTG ?_
  refine oPl ?_
  iterate 7 refine oXq ?_
  refine bkv H (fun hs14 H=>?_) (fun hs14 H=>?_)
  ·try simp only [z,seval,hs9,hr7] at hs14
   try simp only [hs14,jS,jK,jj,true_implies,false_implies,forall_const] at hg12
   try simp only [hs14,jS,jK,jj,true_implies,false_implies,forall_const] at hg13
   obtain ⟨⟨hg15,hg16⟩,H⟩:=aj7 H
   obtain ⟨r8,hr8,H⟩:=bind_some H
   have q:=aI qe (aI hs9 (aI hr7 (aI hs14 hr8)))
   refine oTG ?_
   refine oTG ?_
   refine oPl ?_
   iterate 3 refine oXq ?_
   refine bkv H (fun hs17 H=>?_) (fun hs17 H=>?_)
   ·try simp only [z,seval,hs9,hr7,hs14,hr8] at hs17
    obtain ⟨⟨hg18,hg19⟩,H⟩:=aj7 H
    obtain ⟨r9,hr9,H⟩:=bind_some H
    have q:=aI qe (aI hs9 (aI hr7 (aI hs14 (aI hr8 (aI hs17 hr9)))))
    refine oTG ?_
    refine oTG ?_
    refine oPl ?_
    refine oXq ?_
    refine hK6 _ ?_
    refine js ?_
    refine lf ?_
    obtain rfl:=Option.some.inj H
    exact rt []
   try simp only [z,seval,hs9,hr7,hs14,hr8] at hs17
   have q:=aI qe (aI hs9 (aI hr7 (aI hs14 (aI hr8 hs17))))
   refine oFq ?_
   refine oFq ?_
   refine oPr ?_
   refine oXq ?_
   refine hK6 _ ?_
   refine js ?_
   refine lf ?_
   obtain rfl:=Option.some.inj H
   exact rt []
  try simp only [z,seval,hs9,hr7] at hs14
  try simp only [hs14,jS,jK,jj,true_implies,false_implies,forall_const] at hg12
  try simp only [hs14,jS,jK,jj,true_implies,false_implies,forall_const] at hg13
  have q:=aI qe (aI hs9 (aI hr7 hs14))
  refine oFq ?_
  refine oFq ?_
  refine oPr ?_
  refine oXq ?_
  refine oFq ?_
  refine oFq ?_
  refine oFq ?_
  refine oFq ?_
  refine oPr ?_
  refine oXq ?_
  refine hK6 _ ?_
  refine js ?_
  refine lf ?_
  obtain rfl:=Option.some.inj H
  exact rt []
 try simp only [hs9,jS,jK,jj,true_implies,false_implies,forall_const] at hg7
 try simp only [hs9,jS,jK,jj,true_implies,false_implies,forall_const] at hg8
 have q:=aI qe hs9
 refine oFq ?_
 refine oFq ?_
 refine oPr ?_
 refine oXq ?_
 refine oFq ?_
 refine oFq ?_
 refine oFq ?_
 refine oFq ?_
 refine oFq ?_
 refine oFq ?_
 refine oFq ?_
 refine oFq ?_
 refine oPr ?_
 refine oXq ?_
 refine oFq ?_
 refine oFq ?_
 refine oFq ?_
 refine oFq ?_
 refine oPr ?_
 refine oXq ?_
 refine hK6 _ ?_
 refine js ?_
 refine lf ?_
 obtain rfl:=Option.some.inj H
 exact rt []
abbrev cyf (v:aj5):S:=stB [(1,.box 9000 0)] [(9000,.box [.c .str (.str v.Serial),.c (.int .i64) (.int v.Cyls),.c (.int .i64) (.int v.Heads),.c (.int .i64) (.int v.Size),.c (.slice 41) (.slice (List.map aj3 v.Sets))])]
def bwz (n:Nat) (v:aj5):Option Bool :=
 some (if (decide ((v.Sets.length:Int)≤70))=true then (decide ((v.Serial.length:Int)≤100)) else false)
abbrev cyj (v:aj5) (k:Int):S:=stB [(1,.box 9002 0),(3,.c (.int .i64) (.int k))] [(9002,.box [.c .str (.str v.Serial),.c (.int .i64) (.int v.Cyls),.c (.int .i64) (.int v.Heads),.c (.int .i64) (.int v.Size),.c (.slice 41) (.slice (List.map aj3 v.Sets))])]
def bj2 (n:Nat) (v:aj5) (k:Int):Option ((Int) ⊕ (((Bool) ⊕ (Unit)))) :=
 bif (decide (k < (v.Sets.length:Int))) then
  gd ((0≤k∧k < (v.Sets.length:Int))∧((!(decide ((((gt v.Sets (Int.toNat k)).Name).length:Int) > 100)))=true→(0≤k∧k < (v.Sets.length:Int)))) <|
  bif (if (decide ((((gt v.Sets (Int.toNat k)).Name).length:Int) > 100))=true then true else (decide ((((gt v.Sets (Int.toNat k)).Extents).length:Int) > 20))) then
   some (.inr (.inl false))
  else
   some (.inl (jd .i64 (k+1)))
 else
  some (.inr (.inr ()))
def bwp (n:Nat) (v:aj5):Option Bool :=
 (ajk (fun (x:Int)=>bj2 n v x) n 0).bind fun y4 =>
 match y4 with
 | .inl vv =>
  some vv
 | .inr vv =>
  bwz n v
def dke (n:Nat):Go.AE.Fn:=mkFn (A:=aj5) (R:=Bool) 21 [(true,[.str,.int .i64,.int .i64,.int .i64,.slice 41])] false (fun xs=>(⟨(cg (xs.getD 0 []) 0).toStr,(cg (xs.getD 0 []) 1).toInt,(cg (xs.getD 0 []) 2).toInt,(cg (xs.getD 0 []) 3).toInt,((cg (xs.getD 0 []) 4).toSl.map aq3)⟩:aj5)) (fun a=>[[.str a.Serial,.int a.Cyls,.int a.Heads,.int a.Size,.slice (List.map aj3 a.Sets)]]) (fun a=>bwp n a) (fun r=>[.c .bool (.bool r)]) (fun r=>[])
theorem fq4 (n:Nat):aj2 je (dke n):=by
 have hΓ:=@g0 (aj2 je)
 refine ajb (Tryz.f21.body.getD .skip) h00 Tryz.func21 rfl Tryz.call21 (by decide) (by intro _ r;exact ⟨rfl,by simp⟩) ?_
 rintro v r H
 try dsimp only at H
 unfold bwp at H
 simp only [Tryz.f21,jt]
 refine rA ?_
 refine j4 (fun (x:Unit)=>cyf v) (fun x=>bwz n v=some r) ?_ ?_
 ·refine rA ?_
  refine jC ?_
  obtain ⟨y4,hy4,Ho4⟩:=bind_some H
  refine j3 _ (fun x=>cyj v x) hy4 (wb [some 16]) ?_
  rintro k z4 H
  try dsimp only at H
  unfold bj2 at H
  refine Sm.st (cyj.eq_1 ..) ?_
  refine jr fun K5 hK5=>?_
  refine rA ?_
  refine cnd H (fun h7 H=>?_) (fun h7 H=>?_)
  ·refine jq ?_
   refine hK5 _ ?_
   refine jr fun K8 hK8=>?_
   refine jC ?_
   obtain ⟨⟨hg12,hg13⟩,H⟩:=aj7 H
   refine rA ?_
   refine cnd H (fun h10 H=>?_) (fun h10 H=>?_)
   ·refine rA ?_
    refine js ?_
    refine lf ?_
    refine lx H fun hyy=>?_
    subst hyy
    have H:=Ho4
    try dsimp only at H
    refine lf ?_
    obtain rfl:=Option.some.inj H
    exact rt []
   refine jq ?_
   refine hK8 _ ?_
   refine eA ?_
   refine lf ?_
   exact nx H (wb [some 9002])
  refine Jb ?_
  refine lf ?_
  refine lx H fun hyy=>?_
  subst hyy
  have H:=Ho4
  try dsimp only at H
  refine lf ?_
  exact ⟨(),H,wb [some 9002]⟩
 rintro ⟨⟩ H
 try dsimp only at H
 unfold bwz at H
 refine Sm.st (cyf.eq_1 ..) ?_
 refine rA ?_
 refine js ?_
 refine lf ?_
 obtain rfl:=Option.some.inj H
 exact rt []
def bys (n:Nat) (v:aj5) (w:List aj6):Option aj5 :=
 some (⟨v.Serial,v.Cyls,v.Heads,v.Size,w⟩:aj5)
def bjx (n:Nat) (v:aj5) (w_1:List aj6) (k:Int):Option (((List aj6)×Int) ⊕ (((List aj6)))) :=
 bif (decide (k < (v.Sets.length:Int))) then
  gd ((0≤k∧k < (v.Sets.length:Int))) <|
  gd (((gt v.Sets (Int.toNat k)).Extents).length≤2147483648) <|
  gd ((w_1.length+1)≤2147483648) <|
  some (.inl ((w_1 ++ [(gt v.Sets (Int.toNat k))]),(jd .i64 (k+1))))
 else
  some (.inr w_1)
def bzq (n:Nat) (v:aj5):Option aj5 :=
 (ajk (fun (x:(List aj6)×Int)=>bjx n v x.1 x.2) n ([],0)).bind fun y5 =>
 bys n v y5
abbrev ckx (v:aj5) (w:List aj6):S:=stB [(2,.box 9000 0),(3,.box 9001 0)] [(0,.reg),(9000,.box [.c .str (.str []),.c (.int .i64) (.int 0),.c (.int .i64) (.int 0),.c (.int .i64) (.int 0),.nilsl]),(9001,.box [.c .str (.str v.Serial),.c (.int .i64) (.int v.Cyls),.c (.int .i64) (.int v.Heads),.c (.int .i64) (.int v.Size),.own 9002 [.str,.int .i64,.int .i64,.bool,.bool,.int .i64,.int .i64,.int .i64,.int .i64,.slice 80,.int .i64] 0 w.length]),(9002,.row 41 (List.map aj3 w))]
abbrev cyh (v:aj5) (w_1:List aj6) (k:Int):S:=stB [(1,.box 9010 0),(2,.box 9011 0),(3,.box 9012 0),(4,.c (.int .i64) (.int k))] [(0,.reg),(9010,.box [.c .str (.str v.Serial),.c (.int .i64) (.int v.Cyls),.c (.int .i64) (.int v.Heads),.c (.int .i64) (.int v.Size),.rg 0 (.slice 41) (.slice (List.map aj3 v.Sets))]),(9011,.box [.c .str (.str []),.c (.int .i64) (.int 0),.c (.int .i64) (.int 0),.c (.int .i64) (.int 0),.nilsl]),(9012,.box [.c .str (.str v.Serial),.c (.int .i64) (.int v.Cyls),.c (.int .i64) (.int v.Heads),.c (.int .i64) (.int v.Size),.own 9013 [.str,.int .i64,.int .i64,.bool,.bool,.int .i64,.int .i64,.int .i64,.int .i64,.slice 80,.int .i64] 0 w_1.length]),(9013,.row 41 (List.map aj3 w_1))]
theorem fqk (n:Nat) (v:aj5) (r:aj5) (H:bzq n v=some r):aqg je 20 [.ref (.agg [.c .str (.str v.Serial),.c (.int .i64) (.int v.Cyls),.c (.int .i64) (.int v.Heads),.c (.int .i64) (.int v.Size),.rg 0 (.slice 41) (.slice (List.map aj3 v.Sets))])] [.reg] [.agg [.c .str (.str r.Serial),.c (.int .i64) (.int r.Cyls),.c (.int .i64) (.int r.Heads),.c (.int .i64) (.int r.Size),.own 1 [.str,.int .i64,.int .i64,.bool,.bool,.int .i64,.int .i64,.int .i64,.int .i64,.slice 80,.int .i64] 0 r.Sets.length]] [.reg,.row 41 (List.map aj3 r.Sets)]:=by
 have hΓ:=@g0 (aj2 je)
 refine aq4 (Tryz.f20.body.getD .skip) h00 Tryz.func20 rfl Tryz.call20 (jk rfl) (jk rfl) ?_
 unfold bzq at H
 simp only [Tryz.f20,jt]
 refine rA ?_
 refine rA ?_
 refine j4 (fun (x:(List aj6))=>ckx v x) (fun x=>bys n v x=some r) ?_ ?_
 ·refine rA ?_
  refine jC ?_
  obtain ⟨y5,hy5,Ho5⟩:=bind_some H
  refine j3 _ (fun x=>cyh v x.1 x.2) hy5 (wb [some 0,some 16,some 32,some 48,none]) ?_
  rintro ⟨w_1,k⟩ z5 H
  try dsimp only at H
  unfold bjx at H
  refine Sm.st (cyh.eq_1 ..) ?_
  refine jr fun K6 hK6=>?_
  refine sX fun K7 hK7=>?_
  iterate 3 refine oX ?_
  refine oE awe ?_
  refine oX ?_
  refine hK7 _ ?_
  refine cnd H (fun h8 H=>?_) (fun h8 H=>?_)
  ·refine jq ?_
   refine hK6 _ ?_
   refine jr fun K9 hK9=>?_
   refine jC ?_
   refine sX fun K10 hK10=>?_
   obtain ⟨hg11,H⟩:=aj7 H
   iterate 3 refine oX ?_
   refine oE awe ?_
   refine oE awe ?_
   iterate 2 refine oX ?_
   refine hK10 _ ?_
   obtain ⟨hg14,H⟩:=aj7 H
   refine rA ?_
   obtain ⟨hg13,H⟩:=aj7 H
   refine eA ?_
   refine hK9 _ ?_
   refine eA ?_
   refine lf ?_
   exact nx H (wb [some 0,some 9010,some 9011,some 9012,some 576])
  refine Jb ?_
  refine lf ?_
  refine lx H fun hyy=>?_
  subst hyy
  have H:=Ho5
  try dsimp only at H
  refine lf ?_
  exact ⟨_,H,wb [some 0,some 9011,some 9012,some 9013]⟩
 rintro w H
 try dsimp only at H
 unfold bys at H
 refine Sm.st (ckx.eq_1 ..) ?_
 refine rA ?_
 refine js ?_
 refine lf ?_
 obtain rfl:=Option.some.inj H
 exact rtM [some 0,some 9002]
def ewr (n:Nat):Go.AE.Fn:=mkFn (A:=aj5) (R:=aj5) 20 [(true,[.str,.int .i64,.int .i64,.int .i64,.slice 41])] false (fun xs=>(⟨(cg (xs.getD 0 []) 0).toStr,(cg (xs.getD 0 []) 1).toInt,(cg (xs.getD 0 []) 2).toInt,(cg (xs.getD 0 []) 3).toInt,((cg (xs.getD 0 []) 4).toSl.map aq3)⟩:aj5)) (fun a=>[[.str a.Serial,.int a.Cyls,.int a.Heads,.int a.Size,.slice (List.map aj3 a.Sets)]]) (fun a=>bzq n a) (fun r=>[.agg [.c .str (.str r.Serial),.c (.int .i64) (.int r.Cyls),.c (.int .i64) (.int r.Heads),.c (.int .i64) (.int r.Size),.own 0 [.str,.int .i64,.int .i64,.bool,.bool,.int .i64,.int .i64,.int .i64,.int .i64,.slice 80,.int .i64] 0 r.Sets.length]]) (fun r=>[.row 41 (List.map aj3 r.Sets)])
theorem gjs (n:Nat):aj2 je (ewr n):=bq1 Tryz.call20 fun a r h=>⟨_,_,fqk n a r h,rfl,rfl,rfl,rfl⟩
abbrev ckn (kept:List aj0) (rest:List aj0):S:=stB [(4,.own 9000 [.int .i64,.int .i64] 0 kept.length),(5,.own 9001 [.int .i64,.int .i64] 0 rest.length)] [(9000,.row 80 (List.map aj1 kept)),(9001,.row 80 (List.map aj1 rest))]
def bza (n:Nat) (kept:List aj0) (rest:List aj0):Option ((List aj0)×(List aj0)) :=
 some (kept,rest)
abbrev ckz (n__2:Int) (kept_2:List aj0) (rest_2:List aj0) (l:List aj0) (v15:Int) (v16:Int):S:=stB [(1,.c (.int .i64) (.int n__2)),(4,.own 9006 [.int .i64,.int .i64] 0 kept_2.length),(5,.own 9007 [.int .i64,.int .i64] 0 rest_2.length),(14,.c (.slice 80) (.slice (List.map aj1 l))),(15,.c (.int .i64) (.int v15)),(16,.c (.int .i64) (.int v16))] [(9006,.row 80 (List.map aj1 kept_2)),(9007,.row 80 (List.map aj1 rest_2))]
def bwx (n:Nat) (n__2:Int) (kept_2:List aj0) (rest_2:List aj0) (l:List aj0) (v15:Int) (v16:Int):Option ((Int×(List aj0)×(List aj0)×Int) ⊕ (((List aj0)×(List aj0)))) :=
 some (.inl (n__2,kept_2,rest_2,(jd .i64 (v16+1))))
abbrev cyg (n__1:Int) (kept_3:List aj0) (rest_3:List aj0) (k:Int) (l:List aj0) (v15:Int) (v16:Int):S:=stB [(1,.c (.int .i64) (.int n__1)),(4,.own 9011 [.int .i64,.int .i64] 0 kept_3.length),(5,.own 9012 [.int .i64,.int .i64] 0 rest_3.length),(8,.c (.int .i64) (.int k)),(14,.c (.slice 80) (.slice (List.map aj1 l))),(15,.c (.int .i64) (.int v15)),(16,.c (.int .i64) (.int v16))] [(9011,.row 80 (List.map aj1 kept_3)),(9012,.row 80 (List.map aj1 rest_3))]
def bjb (n:Nat) (n__1:Int) (kept_3:List aj0) (rest_3:List aj0) (k:Int) (l:List aj0) (v15:Int) (v16:Int):Option ((Int×(List aj0)×(List aj0)×Int) ⊕ (((List aj0)×(List aj0)))) :=
 bwx n (jd .i64 (n__1 - k)) kept_3 rest_3 l v15 v16
abbrev ckw (n__1:Int) (kept_3:List aj0) (rest_1:List aj0) (x_:Int) (x__1:Int) (k:Int) (l:List aj0) (v15:Int) (v16:Int):S:=stB [(1,.c (.int .i64) (.int n__1)),(4,.own 9008 [.int .i64,.int .i64] 0 kept_3.length),(5,.own 9009 [.int .i64,.int .i64] 0 rest_1.length),(7,.box 9010 0),(8,.c (.int .i64) (.int k)),(14,.c (.slice 80) (.slice (List.map aj1 l))),(15,.c (.int .i64) (.int v15)),(16,.c (.int .i64) (.int v16))] [(9008,.row 80 (List.map aj1 kept_3)),(9009,.row 80 (List.map aj1 rest_1)),(9010,.box [.c (.int .i64) (.int x_),.c (.int .i64) (.int x__1)])]
def bj8 (n:Nat) (n__1:Int) (kept_3:List aj0) (rest_1:List aj0) (x_:Int) (x__1:Int) (k:Int) (l:List aj0) (v15:Int) (v16:Int):Option ((Int×(List aj0)×(List aj0)×Int) ⊕ (((List aj0)×(List aj0)))) :=
 bif (decide (k < x__1)) then
  gd ((rest_1.length+1)≤2147483648) <|
  bjb n n__1 kept_3 (rest_1 ++ [(⟨(jd .i64 (x_+k)),(jd .i64 (x__1 - k))⟩:aj0)]) k l v15 v16
 else
  bjb n n__1 kept_3 rest_1 k l v15 v16
abbrev cya (l:List aj0) (v15:Int) (n__1:Int) (kept_1:List aj0) (rest_1:List aj0) (v16:Int):S:=stB [(1,.c (.int .i64) (.int n__1)),(4,.own 9004 [.int .i64,.int .i64] 0 kept_1.length),(5,.own 9005 [.int .i64,.int .i64] 0 rest_1.length),(14,.c (.slice 80) (.slice (List.map aj1 l))),(15,.c (.int .i64) (.int v15)),(16,.c (.int .i64) (.int v16))] [(9004,.row 80 (List.map aj1 kept_1)),(9005,.row 80 (List.map aj1 rest_1))]
def akk (n:Nat) (l:List aj0) (v15:Int) (n__1:Int) (kept_1:List aj0) (rest_1:List aj0) (v16:Int):Option ((Int×(List aj0)×(List aj0)×Int) ⊕ (((List aj0)×(List aj0)))) :=
 bif (decide (v16 < v15)) then
  gd ((0≤v16∧v16 < (l.length:Int))) <|
  bif (decide ((if ((gt l (Int.toNat v16)).Len) < n__1 then ((gt l (Int.toNat v16)).Len) else n__1) > 0)) then
   gd ((kept_1.length+1)≤2147483648) <|
   bj8 n n__1 (kept_1 ++ [(⟨(gt l (Int.toNat v16)).At,(if ((gt l (Int.toNat v16)).Len) < n__1 then ((gt l (Int.toNat v16)).Len) else n__1)⟩:aj0)]) rest_1 ((gt l (Int.toNat v16)).At) ((gt l (Int.toNat v16)).Len) (if ((gt l (Int.toNat v16)).Len) < n__1 then ((gt l (Int.toNat v16)).Len) else n__1) l v15 v16
  else
   bj8 n n__1 kept_1 rest_1 ((gt l (Int.toNat v16)).At) ((gt l (Int.toNat v16)).Len) (if ((gt l (Int.toNat v16)).Len) < n__1 then ((gt l (Int.toNat v16)).Len) else n__1) l v15 v16
 else
  some (.inr (kept_1,rest_1))
def bko (n:Nat) (l:List aj0) (n_:Int):Option ((List aj0)×(List aj0)) :=
 (aw3 n l).bind fun r1 =>
 bif (!r1) then
  some ([],[])
 else
  (ajk (fun (x:Int×(List aj0)×(List aj0)×Int)=>akk n l (l.length:Int) x.1 x.2.1 x.2.2.1 x.2.2.2) n ((if 0 > n_ then 0 else n_),[],[],0)).bind fun y9 =>
  bza n y9.1 y9.2
def dkm (n:Nat):Go.AE.Fn:=mkFn (A:=(List aj0)×Int) (R:=(List aj0)×(List aj0)) 97 [(false,[.slice 80]),(false,[.int .i64])] false (fun xs=>(((cg (xs.getD 0 []) 0).toSl.map ajl),(cg (xs.getD 1 []) 0).toInt)) (fun a=>[[.slice (List.map aj1 a.1)],[.int a.2]]) (fun a=>bko n a.1 a.2) (fun r=>[.own 0 [.int .i64,.int .i64] 0 r.1.length,.own 1 [.int .i64,.int .i64] 0 r.2.length]) (fun r=>[.row 80 (List.map aj1 r.1),.row 80 (List.map aj1 r.2)])
theorem fj7 (n:Nat):aj2 je (dkm n):=by
 have hΓ:=g1 (bqw n) (@g0 (aj2 je))
 refine ajb (Tryz.f97.body.getD .skip) h00 Tryz.func97 rfl Tryz.call97 (by decide) (fun _ r=>⟨rfl,m1 ⟨80,_,_,rfl,ty80,rfl⟩ (m1 ⟨80,_,_,rfl,ty80,rfl⟩ m0)⟩) ?_
 rintro ⟨l,n_⟩ r H
 try dsimp only at H
 unfold bko at H
 simp only [Tryz.f97,jt]
 refine rA ?_
 refine jr fun K2 hK2=>?_
 obtain ⟨r1,hr1,H⟩:=bind_some H
 have q:=aI @ayk.eq_1 hr1
 refine rAq ?_
 refine cnd H (fun h4 H=>?_) (fun h4 H=>?_)
 ·refine rA ?_
  refine js ?_
  refine lf ?_
  obtain rfl:=Option.some.inj H
  exact rto [none,none]
 refine jq ?_
 refine hK2 _ ?_
 refine rA ?_
 refine j4 (fun (x:(List aj0)×(List aj0))=>ckn x.1 x.2) (fun x=>bza n x.1 x.2=some r) ?_ ?_
 ·refine rA ?_
  refine jC ?_
  obtain ⟨y9,hy9,Ho9⟩:=bind_some H
  refine j3 _ (fun x=>cya l (l.length:Int) x.1 x.2.1 x.2.2.1 x.2.2.2) hy9 (wb [none,none]) ?_
  rintro ⟨n__1,kept_1,rest_1,v16⟩ z9 H
  try dsimp only at H
  unfold akk at H
  refine Sm.st (cya.eq_1 ..) ?_
  refine rA ?_
  refine jr fun K11 hK11=>?_
  refine cnd H (fun h12 H=>?_) (fun h12 H=>?_)
  ·refine jq ?_
   refine hK11 _ ?_
   refine j4 (fun (x:Int×(List aj0)×(List aj0))=>ckz x.1 x.2.1 x.2.2 l (l.length:Int) v16) (fun x=>bwx n x.1 x.2.1 x.2.2 l (l.length:Int) v16=some z9) ?_ ?_
   ·refine jC ?_
    obtain ⟨hg21,H⟩:=aj7 H
    refine rA ?_
    refine rA ?_
    refine j4 (fun (x:(List aj0))=>ckw n__1 x rest_1 ((gt l (Int.toNat v16)).At) ((gt l (Int.toNat v16)).Len) (if ((gt l (Int.toNat v16)).Len) < n__1 then ((gt l (Int.toNat v16)).Len) else n__1) l (l.length:Int) v16) (fun x=>bj8 n n__1 x rest_1 ((gt l (Int.toNat v16)).At) ((gt l (Int.toNat v16)).Len) (if ((gt l (Int.toNat v16)).Len) < n__1 then ((gt l (Int.toNat v16)).Len) else n__1) l (l.length:Int) v16=some z9) ?_ ?_
    ·refine rA ?_
     refine cnd H (fun h19 H=>?_) (fun h19 H=>?_)
     ·obtain ⟨hg20,H⟩:=aj7 H
      refine eA ?_
      refine lf ?_
      exact ⟨_,H,wb [some 512,some 9005,some 112]⟩
     refine jq ?_
     refine lf ?_
     exact ⟨_,H,wb [some 9004,some 9005,some 112]⟩
    rintro kept_3 H
    try dsimp only at H
    unfold bj8 at H
    refine Sm.st (ckw.eq_1 ..) ?_
    refine j4 (fun (x:(List aj0))=>cyg n__1 kept_3 x (if ((gt l (Int.toNat v16)).Len) < n__1 then ((gt l (Int.toNat v16)).Len) else n__1) l (l.length:Int) v16) (fun x=>bjb n n__1 kept_3 x (if ((gt l (Int.toNat v16)).Len) < n__1 then ((gt l (Int.toNat v16)).Len) else n__1) l (l.length:Int) v16=some z9) ?_ ?_
    ·refine rA ?_
     refine cnd H (fun h16 H=>?_) (fun h16 H=>?_)
     ·obtain ⟨hg17,H⟩:=aj7 H
      refine eA ?_
      refine lf ?_
      exact ⟨_,H,wb [some 9008,some 768]⟩
     refine jq ?_
     refine lf ?_
     exact ⟨_,H,wb [some 9008,some 9009]⟩
    rintro rest_3 H
    try dsimp only at H
    unfold bjb at H
    refine Sm.st (cyg.eq_1 ..) ?_
    refine eA ?_
    refine lf ?_
    exact ⟨((jd .i64 (n__1 - (if ((gt l (Int.toNat v16)).Len) < n__1 then ((gt l (Int.toNat v16)).Len) else n__1))),kept_3,rest_3),H,wb [some 9011,some 9012]⟩
   rintro ⟨n__2,kept_2,rest_2⟩ H
   try dsimp only at H
   unfold bwx at H
   refine Sm.st (ckz.eq_1 ..) ?_
   refine eA ?_
   refine lf ?_
   exact nx H (wb [some 9006,some 9007])
  refine Jb ?_
  refine lf ?_
  refine lx H fun hyy=>?_
  subst hyy
  have H:=Ho9
  try dsimp only at H
  refine lf ?_
  exact ⟨(kept_1,rest_1),H,wb [some 9004,some 9005]⟩
 rintro ⟨kept,rest⟩ H
 try dsimp only at H
 unfold bza at H
 refine Sm.st (ckn.eq_1 ..) ?_
 refine rA ?_
 refine js ?_
 refine lf ?_
 obtain rfl:=Option.some.inj H
 exact rto [some 9000,some 9001]
def aye (n:Nat) (d:List aj6) (d_i:Nat) (p1:Int):Option (Int×(List aj6)) :=
 gd (d_i < d.length∧d_i < d.length) <|
 (bko n ((gt d d_i).Extents) (if 1 > (if ((gt d d_i).Used) > p1 then ((gt d d_i).Used) else p1) then 1 else (if ((gt d d_i).Used) > p1 then ((gt d d_i).Used) else p1))).bind fun r1 =>
 gd (d_i < d.length) <|
 some (0,(List.set d d_i (⟨(gt d d_i).Name,((gt d d_i).Dcb),r1.1,(gt d d_i).Used⟩:aj6)))
theorem byj (n:Nat) (d:List aj6) (d_i:Nat) (p1:Int) (r:Int×(List aj6)) (H:aye n d d_i p1=some r):aqg je 96 [.ref (.elt 0 11 [.str,.int .i64,.int .i64,.bool,.bool,.int .i64,.int .i64,.int .i64,.int .i64,.slice 80,.int .i64] d_i 0),.ref (.box 1 0)] [.row 41 (List.map aj3 d),.box [.c (.int .i64) (.int p1)]] [.c (.int .i64) (.int r.1)] [.row 41 (List.map aj3 r.2),.box [.c (.int .i64) (.int p1)]]:=by
 have hΓ:=g1 (fj7 n) (@g0 (aj2 je))
 refine aq4 (Tryz.f96.body.getD .skip) h00 Tryz.func96 rfl Tryz.call96 (jk rfl) (jk rfl) ?_
 unfold aye at H
 simp only [Tryz.f96,jt]
 refine rA ?_
 obtain ⟨⟨hg3,hg4⟩,H⟩:=aj7 H
 obtain ⟨r1,hr1,H⟩:=bind_some H
 obtain ⟨hg5,H⟩:=aj7 H
 refine sQ [0,1,2,3,4,5,6,7,8,9,10,11,12,13,14,15,16,17] [(none,[],[]),(none,[],[]),(none,[1000001,0],[]),(none,[0],[]),(none,[0],[]),(none,[1],[]),(none,[],[]),(none,[1000001,0],[]),(none,[0],[]),(none,[0],[]),(none,[],[]),(none,[],[271,270,269,268,267,266,265,264,263,262,261,260,259,258,257,256]),(none,[],[]),(none,[],[]),(none,[],[]),(none,[1000001,0],[]),(none,[0],[]),(none,[0,256],[0,256])] fun K2 hK2=>?_
 have q:=aI @dkm.eq_1 hr1
 iterate 2 refine oQq ?_
 refine oQVq ?_
 iterate 4 refine oQq ?_
 refine oQVq ?_
 iterate 7 refine oQq ?_
 refine oQVq ?_
 iterate 2 refine oQq ?_
 refine ckg ?_
 refine hK2 _ ?_
 refine rA ?_
 refine js ?_
 refine lf ?_
 obtain rfl:=Option.some.inj H
 exact rtM [some 0,some 1]
def aki (n:Nat) (v:aj5) (name:List UInt8) (how:Int):Option (aj5×Int) :=
 (az3 n v).bind fun r1 =>
 bif (r1 != 0) then
  some ((⟨[],0,0,0,[]⟩:aj5),r1)
 else
  (ajx n v name).bind fun r2 =>
  bif (!r2.2) then
   some ((⟨[],0,0,0,[]⟩:aj5),3)
  else
   (ajo n v).bind fun r3 =>
   gd ((0≤r2.1∧r2.1 < (r3.Sets.length:Int))) <|
   (aye n r3.Sets (Int.toNat r2.1) how).bind fun r4 =>
   gd (r4.2.length=r3.Sets.length) <|
   bif (r4.1 != 0) then
    some ((⟨[],0,0,0,[]⟩:aj5),r4.1)
   else
    some ((⟨r3.Serial,r3.Cyls,r3.Heads,r3.Size,r4.2⟩:aj5),0)
theorem gk2 (n:Nat) (v:aj5) (name:List UInt8) (how:Int) (r:aj5×Int) (H:aki n v name how=some r):aqg je 87 [.dat (true,[.str,.int .i64,.int .i64,.int .i64,.slice 41]) [.str v.Serial,.int v.Cyls,.int v.Heads,.int v.Size,.slice (List.map aj3 v.Sets)],.dat (false,[.str]) [.str name],.ref (.fnv 96 [.box 0 0])] [.box [.c (.int .i64) (.int how)]] [.agg [.c .str (.str r.1.Serial),.c (.int .i64) (.int r.1.Cyls),.c (.int .i64) (.int r.1.Heads),.c (.int .i64) (.int r.1.Size),.own 1 [.str,.int .i64,.int .i64,.bool,.bool,.int .i64,.int .i64,.int .i64,.int .i64,.slice 80,.int .i64] 0 r.1.Sets.length],.c (.int .i64) (.int r.2)] [.box [.c (.int .i64) (.int how)],.row 41 (List.map aj3 r.1.Sets)]:=by
 have hΓ:=g1 (ak5 n) (g1 (aqp n) (g1 (aw6 n) (@g0 (aj2 je))))
 have qe:=aI @azf.eq_1 (aI @aqd.eq_1 @aqv.eq_1)
 refine aq4 (Tryz.f87.body.getD .skip) h00 Tryz.func87 rfl Tryz.call87 (jk rfl) (jk rfl) ?_
 unfold aki at H
 simp only [Tryz.f87,jt]
 refine rA ?_
 refine jr fun K2 hK2=>?_
 obtain ⟨r1,hr1,H⟩:=bind_some H
 have q:=aI qe hr1
 refine rAq ?_
 refine rA ?_
 refine cnd H (fun h5 H=>?_) (fun h5 H=>?_)
 ·refine rA ?_
  refine js ?_
  refine lf ?_
  obtain rfl:=Option.some.inj H
  exact rtM [some 0,none]
 refine jq ?_
 refine hK2 _ ?_
 obtain ⟨r2,hr2,H⟩:=bind_some H
 have q:=aI qe hr2
 refine rAq ?_
 refine jr fun K8 hK8=>?_
 refine rA ?_
 refine cnd H (fun h10 H=>?_) (fun h10 H=>?_)
 ·refine rA ?_
  refine js ?_
  refine lf ?_
  obtain rfl:=Option.some.inj H
  exact rtM [some 0,none]
 refine jq ?_
 refine hK8 _ ?_
 obtain ⟨r3,hr3,H⟩:=bind_some H
 have q:=aI qe hr3
 refine rAq ?_
 refine jr fun K13 hK13=>?_
 refine sX fun K14 hK14=>?_
 obtain ⟨hg15,H⟩:=aj7 H
 obtain ⟨r4,hr4,H⟩:=bind_some H
 obtain ⟨hg16,H⟩:=aj7 H
 have q:=hr4
 iterate 5 refine oX ?_
 refine oMq (byj n _ _ _ r4 hr4) [464,0] [] ?_
 refine oXq ?_
 refine hK14 _ ?_
 refine rA ?_
 refine cnd H (fun h18 H=>?_) (fun h18 H=>?_)
 ·refine rA ?_
  refine js ?_
  refine lf ?_
  obtain rfl:=Option.some.inj H
  exact rtM [some 0,none]
 refine jq ?_
 refine hK13 _ ?_
 refine rA ?_
 refine js ?_
 refine lf ?_
 obtain rfl:=Option.some.inj H
 exact rtM [some 0,some 464]
theorem dz9 (n:Nat) (v:aj5) (name:List UInt8) (how:Int) (r:aj5×Int) (H:aki n v name how=some r):aqg je 87 [.ref (.agg [.c .str (.str v.Serial),.c (.int .i64) (.int v.Cyls),.c (.int .i64) (.int v.Heads),.c (.int .i64) (.int v.Size),.rg 0 (.slice 41) (.slice (List.map aj3 v.Sets))]),.dat (false,[.str]) [.str name],.ref (.fnv 96 [.box 1 0])] [.reg,.box [.c (.int .i64) (.int how)]] [.agg [.c .str (.str r.1.Serial),.c (.int .i64) (.int r.1.Cyls),.c (.int .i64) (.int r.1.Heads),.c (.int .i64) (.int r.1.Size),.own 2 [.str,.int .i64,.int .i64,.bool,.bool,.int .i64,.int .i64,.int .i64,.int .i64,.slice 80,.int .i64] 0 r.1.Sets.length],.c (.int .i64) (.int r.2)] [.reg,.box [.c (.int .i64) (.int how)],.row 41 (List.map aj3 r.1.Sets)]:=by
 have hΓ:=g1 (ak5 n) (g1 (aqp n) (g1 (aw6 n) (@g0 (aj2 je))))
 have qe:=aI @azf.eq_1 (aI @aqd.eq_1 @aqv.eq_1)
 refine aq4 (Tryz.f87.body.getD .skip) h00 Tryz.func87 rfl Tryz.call87 (jk rfl) (jk rfl) ?_
 unfold aki at H
 simp only [Tryz.f87,jt]
 refine rA ?_
 refine jr fun K2 hK2=>?_
 obtain ⟨r1,hr1,H⟩:=bind_some H
 have q:=aI qe hr1
 refine rAq ?_
 refine rA ?_
 refine cnd H (fun h5 H=>?_) (fun h5 H=>?_)
 ·refine rA ?_
  refine js ?_
  refine lf ?_
  obtain rfl:=Option.some.inj H
  exact rtM [some 0,some 1,none]
 refine jq ?_
 refine hK2 _ ?_
 obtain ⟨r2,hr2,H⟩:=bind_some H
 have q:=aI qe hr2
 refine rAq ?_
 refine jr fun K8 hK8=>?_
 refine rA ?_
 refine cnd H (fun h10 H=>?_) (fun h10 H=>?_)
 ·refine rA ?_
  refine js ?_
  refine lf ?_
  obtain rfl:=Option.some.inj H
  exact rtM [some 0,some 1,none]
 refine jq ?_
 refine hK8 _ ?_
 obtain ⟨r3,hr3,H⟩:=bind_some H
 have q:=aI qe hr3
 refine rAq ?_
 refine jr fun K13 hK13=>?_
 refine sX fun K14 hK14=>?_
 obtain ⟨hg15,H⟩:=aj7 H
 obtain ⟨r4,hr4,H⟩:=bind_some H
 obtain ⟨hg16,H⟩:=aj7 H
 have q:=hr4
 iterate 5 refine oX ?_
 refine oMq (byj n _ _ _ r4 hr4) [464,1] [] ?_
 refine oXq ?_
 refine hK14 _ ?_
 refine rA ?_
 refine cnd H (fun h18 H=>?_) (fun h18 H=>?_)
 ·refine rA ?_
  refine js ?_
  refine lf ?_
  obtain rfl:=Option.some.inj H
  exact rtM [some 0,some 1,none]
 refine jq ?_
 refine hK13 _ ?_
 refine rA ?_
 refine js ?_
 refine lf ?_
 obtain rfl:=Option.some.inj H
 exact rtM [some 0,some 1,some 464]
def bq9 (n:Nat) (v:aj5) (name:List UInt8) (keep:Int):Option (aj5×Int) :=
 (aki n v name keep).bind fun r1 =>
 some (r1.1,r1.2)
theorem eq0 (n:Nat) (v:aj5) (name:List UInt8) (keep:Int) (r:aj5×Int) (H:bq9 n v name keep=some r):aqg je 47 [.ref (.agg [.c .str (.str v.Serial),.c (.int .i64) (.int v.Cyls),.c (.int .i64) (.int v.Heads),.c (.int .i64) (.int v.Size),.rg 0 (.slice 41) (.slice (List.map aj3 v.Sets))]),.dat (false,[.str]) [.str name],.dat (false,[.int .i64]) [.int keep]] [.reg] [.agg [.c .str (.str r.1.Serial),.c (.int .i64) (.int r.1.Cyls),.c (.int .i64) (.int r.1.Heads),.c (.int .i64) (.int r.1.Size),.own 1 [.str,.int .i64,.int .i64,.bool,.bool,.int .i64,.int .i64,.int .i64,.int .i64,.slice 80,.int .i64] 0 r.1.Sets.length],.c (.int .i64) (.int r.2)] [.reg,.row 41 (List.map aj3 r.1.Sets)]:=by
 have hΓ:=@g0 (aj2 je)
 refine aq4 (Tryz.f47.body.getD .skip) h00 Tryz.func47 rfl Tryz.call47 (jk rfl) (jk rfl) ?_
 unfold bq9 at H
 simp only [Tryz.f47,jt]
 refine rA ?_
 refine sX fun K2 hK2=>?_
 obtain ⟨r1,hr1,H⟩:=bind_some H
 have q:=hr1
 iterate 2 refine oX ?_
 refine oY ?_
 refine oMq (dz9 n _ _ _ r1 hr1) [0,80] [176] ?_
 iterate 4 refine oXq ?_
 refine hK2 _ ?_
 refine js ?_
 refine lf ?_
 obtain rfl:=Option.some.inj H
 exact rtM [some 0,some 176]
def dq6 (n:Nat):Go.AE.Fn:=mkFn (A:=aj5×(List UInt8)×Int) (R:=aj5×Int) 47 [(true,[.str,.int .i64,.int .i64,.int .i64,.slice 41]),(false,[.str]),(false,[.int .i64])] false (fun xs=>((⟨(cg (xs.getD 0 []) 0).toStr,(cg (xs.getD 0 []) 1).toInt,(cg (xs.getD 0 []) 2).toInt,(cg (xs.getD 0 []) 3).toInt,((cg (xs.getD 0 []) 4).toSl.map aq3)⟩:aj5),(cg (xs.getD 1 []) 0).toStr,(cg (xs.getD 2 []) 0).toInt)) (fun a=>[[.str a.1.Serial,.int a.1.Cyls,.int a.1.Heads,.int a.1.Size,.slice (List.map aj3 a.1.Sets)],[.str a.2.1],[.int a.2.2]]) (fun a=>bq9 n a.1 a.2.1 a.2.2) (fun r=>[.agg [.c .str (.str r.1.Serial),.c (.int .i64) (.int r.1.Cyls),.c (.int .i64) (.int r.1.Heads),.c (.int .i64) (.int r.1.Size),.own 0 [.str,.int .i64,.int .i64,.bool,.bool,.int .i64,.int .i64,.int .i64,.int .i64,.slice 80,.int .i64] 0 r.1.Sets.length],.c (.int .i64) (.int r.2)]) (fun r=>[.row 41 (List.map aj3 r.1.Sets)])
theorem eyb (n:Nat):aj2 je (dq6 n):=bq1 Tryz.call47 fun a r h=>⟨_,_,eq0 n a.1 a.2.1 a.2.2 r h,rfl,rfl,rfl,rfl⟩
def bjh (n:Nat) (d:List aj6) (d_i:Nat) (p1:Int) (p1_:Int) (p1__:Bool) (p1___:Bool) (p1____:Int) (p1_____:Int) (p1______:Int) (p1_______:Int) (p2:Int):Option (Int×(List aj6)) :=
 (aqn n (⟨p1,p1_,p1__,p1___,p1____,p1_____,p1______,p1_______⟩:TDcb)).bind fun r1 =>
 bif (!r1) then
  some (1,d)
 else
  gd (d_i < d.length) <|
  (bq3 n ((gt d d_i).Extents)).bind fun r2 =>
  (aqa n p2 0 r2).bind fun r3 =>
  bif (!r3) then
   some (6,d)
  else
   gd (d_i < d.length∧d_i < d.length) <|
   some (0,(List.set (List.set d d_i (⟨(gt d d_i).Name,(⟨p1,p1_,p1__,p1___,p1____,p1_____,p1______,p1_______⟩:TDcb),(gt d d_i).Extents,(gt d d_i).Used⟩:aj6)) d_i (⟨(gt (List.set d d_i (⟨(gt d d_i).Name,(⟨p1,p1_,p1__,p1___,p1____,p1_____,p1______,p1_______⟩:TDcb),(gt d d_i).Extents,(gt d d_i).Used⟩:aj6)) d_i).Name,((gt (List.set d d_i (⟨(gt d d_i).Name,(⟨p1,p1_,p1__,p1___,p1____,p1_____,p1______,p1_______⟩:TDcb),(gt d d_i).Extents,(gt d d_i).Used⟩:aj6)) d_i).Dcb),(gt (List.set d d_i (⟨(gt d d_i).Name,(⟨p1,p1_,p1__,p1___,p1____,p1_____,p1______,p1_______⟩:TDcb),(gt d d_i).Extents,(gt d d_i).Used⟩:aj6)) d_i).Extents,p2⟩:aj6)))
theorem dwt (n:Nat) (d:List aj6) (d_i:Nat) (p1:Int) (p1_:Int) (p1__:Bool) (p1___:Bool) (p1____:Int) (p1_____:Int) (p1______:Int) (p1_______:Int) (p2:Int) (r:Int×(List aj6)) (H:bjh n d d_i p1 p1_ p1__ p1___ p1____ p1_____ p1______ p1_______ p2=some r):aqg je 98 [.ref (.elt 0 11 [.str,.int .i64,.int .i64,.bool,.bool,.int .i64,.int .i64,.int .i64,.int .i64,.slice 80,.int .i64] d_i 0),.ref (.box 1 0),.ref (.box 2 0)] [.row 41 (List.map aj3 d),.box [.c (.int .i64) (.int p1),.c (.int .i64) (.int p1_),.c .bool (.bool p1__),.c .bool (.bool p1___),.c (.int .i64) (.int p1____),.c (.int .i64) (.int p1_____),.c (.int .i64) (.int p1______),.c (.int .i64) (.int p1_______)],.box [.c (.int .i64) (.int p2)]] [.c (.int .i64) (.int r.1)] [.row 41 (List.map aj3 r.2),.box [.c (.int .i64) (.int p1),.c (.int .i64) (.int p1_),.c .bool (.bool p1__),.c .bool (.bool p1___),.c (.int .i64) (.int p1____),.c (.int .i64) (.int p1_____),.c (.int .i64) (.int p1______),.c (.int .i64) (.int p1_______)],.box [.c (.int .i64) (.int p2)]]:=by
 have hΓ:=g1 (by9 n) (g1 (dqs n) (g1 (dyi n) (@g0 (aj2 je))))
 have qe:=aI @bw0.eq_1 (aI @cqm.eq_1 @dju.eq_1)
 refine aq4 (Tryz.f98.body.getD .skip) h00 Tryz.func98 rfl Tryz.call98 (jk rfl) (jk rfl) ?_
 unfold bjh at H
 simp only [Tryz.f98,jt]
 refine rA ?_
 refine jr fun K2 hK2=>?_
 obtain ⟨r1,hr1,H⟩:=bind_some H
 have q:=aI qe hr1
 refine rAq ?_
 refine cnd H (fun h4 H=>?_) (fun h4 H=>?_)
 ·refine rA ?_
  refine js ?_
  refine lf ?_
  obtain rfl:=Option.some.inj H
  exact rtM [some 0,some 1,some 2]
 refine jq ?_
 refine hK2 _ ?_
 refine jr fun K6 hK6=>?_
 obtain ⟨hg8,H⟩:=aj7 H
 obtain ⟨r2,hr2,H⟩:=bind_some H
 obtain ⟨r3,hr3,H⟩:=bind_some H
 refine sQ [0,1,2,3,4,5,6,7] [(none,[2],[]),(none,[],[]),(none,[1000001,0],[]),(none,[0],[]),(none,[0],[]),(none,[],[223,222,221,220,219,218,217,216,215,214,213,212,211,210,209,208]),(none,[],[239,238,237,236,235,234,233,232,231,230,229,228,227,226,225,224]),(none,[],[])] fun K7 hK7=>?_
 have q:=aI qe (aI hr2 hr3)
 iterate 2 refine oQq ?_
 refine oQVq ?_
 iterate 5 refine oQq ?_
 refine ckg ?_
 refine hK7 _ ?_
 refine cnd H (fun h9 H=>?_) (fun h9 H=>?_)
 ·refine rA ?_
  refine js ?_
  refine lf ?_
  obtain rfl:=Option.some.inj H
  exact rtM [some 0,some 1,some 2]
 refine jq ?_
 refine hK6 _ ?_
 obtain ⟨⟨hg12,hg13⟩,H⟩:=aj7 H
 refine sQ [0,1,2,3,4,5,6,7,8,9] [(none,[],[]),(none,[],[]),(none,[1],[]),(none,[2],[]),(none,[1000001,0],[]),(none,[0],[]),(none,[0],[0]),(none,[1000001,0],[]),(none,[0],[]),(none,[0],[0])] fun K11 hK11=>?_
 iterate 4 refine oQ ?_
 refine oQV ?_
 iterate 2 refine oQ ?_
 refine oQV ?_
 iterate 2 refine oQ ?_
 refine ckg ?_
 refine hK11 _ ?_
 refine rA ?_
 refine js ?_
 refine lf ?_
 obtain rfl:=Option.some.inj H
 exact rtM [some 0,some 1,some 2]
def bz4 (n:Nat) (v:aj5) (name:List UInt8) (how:Int) (how_:Int) (how__:Bool) (how___:Bool) (how____:Int) (how_____:Int) (how______:Int) (how_______:Int) (how________:Int):Option (aj5×Int) :=
 (az3 n v).bind fun r1 =>
 bif (r1 != 0) then
  some ((⟨[],0,0,0,[]⟩:aj5),r1)
 else
  (ajx n v name).bind fun r2 =>
  bif (!r2.2) then
   some ((⟨[],0,0,0,[]⟩:aj5),3)
  else
   (ajo n v).bind fun r3 =>
   gd ((0≤r2.1∧r2.1 < (r3.Sets.length:Int))) <|
   (bjh n r3.Sets (Int.toNat r2.1) how how_ how__ how___ how____ how_____ how______ how_______ how________).bind fun r4 =>
   gd (r4.2.length=r3.Sets.length) <|
   bif (r4.1 != 0) then
    some ((⟨[],0,0,0,[]⟩:aj5),r4.1)
   else
    some ((⟨r3.Serial,r3.Cyls,r3.Heads,r3.Size,r4.2⟩:aj5),0)
theorem dwv (n:Nat) (v:aj5) (name:List UInt8) (how:Int) (how_:Int) (how__:Bool) (how___:Bool) (how____:Int) (how_____:Int) (how______:Int) (how_______:Int) (how________:Int) (r:aj5×Int) (H:bz4 n v name how how_ how__ how___ how____ how_____ how______ how_______ how________=some r):aqg je 87 [.ref (.agg [.c .str (.str v.Serial),.c (.int .i64) (.int v.Cyls),.c (.int .i64) (.int v.Heads),.c (.int .i64) (.int v.Size),.rg 0 (.slice 41) (.slice (List.map aj3 v.Sets))]),.dat (false,[.str]) [.str name],.ref (.fnv 98 [.box 1 0,.box 2 0])] [.reg,.box [.c (.int .i64) (.int how),.c (.int .i64) (.int how_),.c .bool (.bool how__),.c .bool (.bool how___),.c (.int .i64) (.int how____),.c (.int .i64) (.int how_____),.c (.int .i64) (.int how______),.c (.int .i64) (.int how_______)],.box [.c (.int .i64) (.int how________)]] [.agg [.c .str (.str r.1.Serial),.c (.int .i64) (.int r.1.Cyls),.c (.int .i64) (.int r.1.Heads),.c (.int .i64) (.int r.1.Size),.own 3 [.str,.int .i64,.int .i64,.bool,.bool,.int .i64,.int .i64,.int .i64,.int .i64,.slice 80,.int .i64] 0 r.1.Sets.length],.c (.int .i64) (.int r.2)] [.reg,.box [.c (.int .i64) (.int how),.c (.int .i64) (.int how_),.c .bool (.bool how__),.c .bool (.bool how___),.c (.int .i64) (.int how____),.c (.int .i64) (.int how_____),.c (.int .i64) (.int how______),.c (.int .i64) (.int how_______)],.box [.c (.int .i64) (.int how________)],.row 41 (List.map aj3 r.1.Sets)]:=by
 have hΓ:=g1 (ak5 n) (g1 (aqp n) (g1 (aw6 n) (@g0 (aj2 je))))
 have qe:=aI @azf.eq_1 (aI @aqd.eq_1 @aqv.eq_1)
 refine aq4 (Tryz.f87.body.getD .skip) h00 Tryz.func87 rfl Tryz.call87 (jk rfl) (jk rfl) ?_
 unfold bz4 at H
 simp only [Tryz.f87,jt]
 refine rA ?_
 refine jr fun K2 hK2=>?_
 obtain ⟨r1,hr1,H⟩:=bind_some H
 have q:=aI qe hr1
 refine rAq ?_
 refine rA ?_
 refine cnd H (fun h5 H=>?_) (fun h5 H=>?_)
 ·refine rA ?_
  refine js ?_
  refine lf ?_
  obtain rfl:=Option.some.inj H
  exact rtM [some 0,some 1,some 2,none]
 refine jq ?_
 refine hK2 _ ?_
 obtain ⟨r2,hr2,H⟩:=bind_some H
 have q:=aI qe hr2
 refine rAq ?_
 refine jr fun K8 hK8=>?_
 refine rA ?_
 refine cnd H (fun h10 H=>?_) (fun h10 H=>?_)
 ·refine rA ?_
  refine js ?_
  refine lf ?_
  obtain rfl:=Option.some.inj H
  exact rtM [some 0,some 1,some 2,none]
 refine jq ?_
 refine hK8 _ ?_
 obtain ⟨r3,hr3,H⟩:=bind_some H
 have q:=aI qe hr3
 refine rAq ?_
 refine jr fun K13 hK13=>?_
 refine sX fun K14 hK14=>?_
 obtain ⟨hg15,H⟩:=aj7 H
 obtain ⟨r4,hr4,H⟩:=bind_some H
 obtain ⟨hg16,H⟩:=aj7 H
 have q:=hr4
 iterate 5 refine oX ?_
 refine oMq (dwt n _ _ _ _ _ _ _ _ _ _ _ r4 hr4) [464,1,2] [] ?_
 refine oXq ?_
 refine hK14 _ ?_
 refine rA ?_
 refine cnd H (fun h18 H=>?_) (fun h18 H=>?_)
 ·refine rA ?_
  refine js ?_
  refine lf ?_
  obtain rfl:=Option.some.inj H
  exact rtM [some 0,some 1,some 2,none]
 refine jq ?_
 refine hK13 _ ?_
 refine rA ?_
 refine js ?_
 refine lf ?_
 obtain rfl:=Option.some.inj H
 exact rtM [some 0,some 1,some 2,some 464]
def bwm (n:Nat) (v:aj5) (name:List UInt8) (c:TDcb) (used:Int):Option (aj5×Int) :=
 (bz4 n v name c.Org c.Format c.Blocked c.Asa c.Lrecl c.Blksize c.KeyLen c.KeyPos used).bind fun r1 =>
 some (r1.1,r1.2)
theorem ew7 (n:Nat) (v:aj5) (name:List UInt8) (c:TDcb) (used:Int) (r:aj5×Int) (H:bwm n v name c used=some r):aqg je 48 [.ref (.agg [.c .str (.str v.Serial),.c (.int .i64) (.int v.Cyls),.c (.int .i64) (.int v.Heads),.c (.int .i64) (.int v.Size),.rg 0 (.slice 41) (.slice (List.map aj3 v.Sets))]),.dat (false,[.str]) [.str name],.dat (true,[.int .i64,.int .i64,.bool,.bool,.int .i64,.int .i64,.int .i64,.int .i64]) [.int c.Org,.int c.Format,.bool c.Blocked,.bool c.Asa,.int c.Lrecl,.int c.Blksize,.int c.KeyLen,.int c.KeyPos],.dat (false,[.int .i64]) [.int used]] [.reg] [.agg [.c .str (.str r.1.Serial),.c (.int .i64) (.int r.1.Cyls),.c (.int .i64) (.int r.1.Heads),.c (.int .i64) (.int r.1.Size),.own 1 [.str,.int .i64,.int .i64,.bool,.bool,.int .i64,.int .i64,.int .i64,.int .i64,.slice 80,.int .i64] 0 r.1.Sets.length],.c (.int .i64) (.int r.2)] [.reg,.row 41 (List.map aj3 r.1.Sets)]:=by
 have hΓ:=@g0 (aj2 je)
 refine aq4 (Tryz.f48.body.getD .skip) h00 Tryz.func48 rfl Tryz.call48 (jk rfl) (jk rfl) ?_
 unfold bwm at H
 simp only [Tryz.f48,jt]
 refine rA ?_
 refine sX fun K2 hK2=>?_
 obtain ⟨r1,hr1,H⟩:=bind_some H
 have q:=hr1
 iterate 2 refine oX ?_
 refine oY ?_
 refine oMq (dwv n _ _ _ _ _ _ _ _ _ _ _ r1 hr1) [0,96,112] [208] ?_
 iterate 4 refine oXq ?_
 refine hK2 _ ?_
 refine js ?_
 refine lf ?_
 obtain rfl:=Option.some.inj H
 exact rtM [some 0,some 208]
def dki (n:Nat):Go.AE.Fn:=mkFn (A:=aj5×(List UInt8)×TDcb×Int) (R:=aj5×Int) 48 [(true,[.str,.int .i64,.int .i64,.int .i64,.slice 41]),(false,[.str]),(true,[.int .i64,.int .i64,.bool,.bool,.int .i64,.int .i64,.int .i64,.int .i64]),(false,[.int .i64])] false (fun xs=>((⟨(cg (xs.getD 0 []) 0).toStr,(cg (xs.getD 0 []) 1).toInt,(cg (xs.getD 0 []) 2).toInt,(cg (xs.getD 0 []) 3).toInt,((cg (xs.getD 0 []) 4).toSl.map aq3)⟩:aj5),(cg (xs.getD 1 []) 0).toStr,(⟨(cg (xs.getD 2 []) 0).toInt,(cg (xs.getD 2 []) 1).toInt,(cg (xs.getD 2 []) 2).toBool,(cg (xs.getD 2 []) 3).toBool,(cg (xs.getD 2 []) 4).toInt,(cg (xs.getD 2 []) 5).toInt,(cg (xs.getD 2 []) 6).toInt,(cg (xs.getD 2 []) 7).toInt⟩:TDcb),(cg (xs.getD 3 []) 0).toInt)) (fun a=>[[.str a.1.Serial,.int a.1.Cyls,.int a.1.Heads,.int a.1.Size,.slice (List.map aj3 a.1.Sets)],[.str a.2.1],[.int a.2.2.1.Org,.int a.2.2.1.Format,.bool a.2.2.1.Blocked,.bool a.2.2.1.Asa,.int a.2.2.1.Lrecl,.int a.2.2.1.Blksize,.int a.2.2.1.KeyLen,.int a.2.2.1.KeyPos],[.int a.2.2.2]]) (fun a=>bwm n a.1 a.2.1 a.2.2.1 a.2.2.2) (fun r=>[.agg [.c .str (.str r.1.Serial),.c (.int .i64) (.int r.1.Cyls),.c (.int .i64) (.int r.1.Heads),.c (.int .i64) (.int r.1.Size),.own 0 [.str,.int .i64,.int .i64,.bool,.bool,.int .i64,.int .i64,.int .i64,.int .i64,.slice 80,.int .i64] 0 r.1.Sets.length],.c (.int .i64) (.int r.2)]) (fun r=>[.row 41 (List.map aj3 r.1.Sets)])
theorem fjt (n:Nat):aj2 je (dki n):=bq1 Tryz.call48 fun a r h=>⟨_,_,ew7 n a.1 a.2.1 a.2.2.1 a.2.2.2 r h,rfl,rfl,rfl,rfl⟩
def ayc (n:Nat) (p0:List aj6) (p0_i:Nat):Option Int :=
 some 0
theorem dq9 (n:Nat) (p0:List aj6) (p0_i:Nat) (r:Int) (H:ayc n p0 p0_i=some r):aqg je 88 [.ref (.elt 0 11 [.str,.int .i64,.int .i64,.bool,.bool,.int .i64,.int .i64,.int .i64,.int .i64,.slice 80,.int .i64] p0_i 0)] [.row 41 (List.map aj3 p0)] [.c (.int .i64) (.int r)] [.row 41 (List.map aj3 p0)]:=by
 have hΓ:=@g0 (aj2 je)
 refine aq4 (Tryz.f88.body.getD .skip) h00 Tryz.func88 rfl Tryz.call88 (jk rfl) (jk rfl) ?_
 unfold ayc at H
 simp only [Tryz.f88,jt]
 refine rA ?_
 refine rA ?_
 refine js ?_
 refine lf ?_
 obtain rfl:=Option.some.inj H
 exact rtM [some 0]
def bwu (n:Nat) (v:aj5) (name:List UInt8):Option (aj5×Int) :=
 (az3 n v).bind fun r1 =>
 bif (r1 != 0) then
  some ((⟨[],0,0,0,[]⟩:aj5),r1)
 else
  (ajx n v name).bind fun r2 =>
  bif (!r2.2) then
   some ((⟨[],0,0,0,[]⟩:aj5),3)
  else
   (ajo n v).bind fun r3 =>
   gd ((0≤r2.1∧r2.1 < (r3.Sets.length:Int))) <|
   (ayc n r3.Sets (Int.toNat r2.1)).bind fun r4 =>
   bif (r4 != 0) then
    some ((⟨[],0,0,0,[]⟩:aj5),r4)
   else
    some (r3,0)
def aqo (n:Nat) (d:aj6) (p1:List UInt8):Option Bool :=
 some (d.Name == p1)
theorem byf (n:Nat) (d:aj6) (p1:List UInt8) (r:Bool) (H:aqo n d p1=some r):aqg je 90 [.dat (true,[.str,.int .i64,.int .i64,.bool,.bool,.int .i64,.int .i64,.int .i64,.int .i64,.slice 80,.int .i64]) [.str d.Name,.int d.Dcb.Org,.int d.Dcb.Format,.bool d.Dcb.Blocked,.bool d.Dcb.Asa,.int d.Dcb.Lrecl,.int d.Dcb.Blksize,.int d.Dcb.KeyLen,.int d.Dcb.KeyPos,.slice (List.map aj1 d.Extents),.int d.Used],.ref (.box 0 0)] [.box [.c .str (.str p1)]] [.c .bool (.bool r)] [.box [.c .str (.str p1)]]:=by
 have hΓ:=@g0 (aj2 je)
 refine aq4 (Tryz.f90.body.getD .skip) h00 Tryz.func90 rfl Tryz.call90 (jk rfl) (jk rfl) ?_
 unfold aqo at H
 simp only [Tryz.f90,jt]
 refine rA ?_
 refine rA ?_
 refine js ?_
 refine lf ?_
 obtain rfl:=Option.some.inj H
 exact rtM [some 0]
abbrev akw (s:List aj6) (f:List UInt8):S:=stB [] [(0,.row 41 (List.map aj3 s)),(1,.box [.c .str (.str f)])]
def awp (n:Nat) (s:List aj6) (f:List UInt8):Option Int :=
 some (-1)
abbrev ay3 (s:List aj6) (f:List UInt8) (v7:Int) (v8:Int):S:=stB [(0,.own 0 [.str,.int .i64,.int .i64,.bool,.bool,.int .i64,.int .i64,.int .i64,.int .i64,.slice 80,.int .i64] 0 s.length),(1,.fnv 90 [.box 1 0]),(7,.c (.int .i64) (.int v7)),(8,.c (.int .i64) (.int v8))] [(0,.row 41 (List.map aj3 s)),(1,.box [.c .str (.str f)])]
def ajy (n:Nat) (s:List aj6) (f:List UInt8) (v7:Int) (v8:Int):Option ((Int) ⊕ (((Int) ⊕ (Unit)))) :=
 bif (decide (v8 < v7)) then
  gd ((0≤v8∧v8 < (s.length:Int))∧(Int.toNat v8) < s.length) <|
  (aqo n (gt s (Int.toNat v8)) f).bind fun r1 =>
  bif r1 then
   some (.inr (.inl v8))
  else
   some (.inl (jd .i64 (v8+1)))
 else
  some (.inr (.inr ()))
def aw5 (n:Nat) (s:List aj6) (f:List UInt8):Option Int :=
 (ajk (fun (x:Int)=>ajy n s f ((s.length:Nat):Int) x) n 0).bind fun y4 =>
 match y4 with
 | .inl vv =>
  some vv
 | .inr vv =>
  awp n s f
theorem cj6 (n:Nat) (s:List aj6) (f:List UInt8) (r:Int) (H:aw5 n s f=some r):aqg je 141 [.ref (.own 0 [.str,.int .i64,.int .i64,.bool,.bool,.int .i64,.int .i64,.int .i64,.int .i64,.slice 80,.int .i64] 0 s.length),.ref (.fnv 90 [.box 1 0])] [.row 41 (List.map aj3 s),.box [.c .str (.str f)]] [.c (.int .i64) (.int r)] [.row 41 (List.map aj3 s),.box [.c .str (.str f)]]:=by
 have hΓ:=@g0 (aj2 je)
 refine aq4 (Tryz.f141.body.getD .skip) h00 Tryz.func141 rfl Tryz.call141 (jk rfl) (jk rfl) ?_
 unfold aw5 at H
 simp only [Tryz.f141,jt]
 refine rA ?_
 refine j4 (fun (x:Unit)=>akw s f) (fun x=>awp n s f=some r) ?_ ?_
 ·refine rA ?_
  refine jC ?_
  obtain ⟨y4,hy4,Ho4⟩:=bind_some H
  refine j3 _ (fun x=>ay3 s f ((s.length:Nat):Int) x) hy4 (wb [some 0,some 1]) ?_
  rintro v8 z4 H
  try dsimp only at H
  unfold ajy at H
  refine Sm.st (ay3.eq_1 ..) ?_
  refine rA ?_
  refine jr fun K6 hK6=>?_
  refine cnd H (fun h7 H=>?_) (fun h7 H=>?_)
  ·refine jq ?_
   refine hK6 _ ?_
   refine jr fun K8 hK8=>?_
   refine jC ?_
   refine rA ?_
   refine sX fun K10 hK10=>?_
   obtain ⟨⟨hg11,hg12⟩,H⟩:=aj7 H
   obtain ⟨r1,hr1,H⟩:=bind_some H
   have q:=hr1
   iterate 5 refine oX ?_
   refine oMq (byf n _ _ r1 hr1) [1] [] ?_
   refine hK10 _ ?_
   refine cnd H (fun h13 H=>?_) (fun h13 H=>?_)
   ·refine rA ?_
    refine js ?_
    refine lf ?_
    refine lx H fun hyy=>?_
    subst hyy
    have H:=Ho4
    try dsimp only at H
    refine lf ?_
    obtain rfl:=Option.some.inj H
    exact rtM [some 0,some 1]
   refine jq ?_
   refine hK8 _ ?_
   refine eA ?_
   refine lf ?_
   exact nx H (wb [some 0,some 1])
  refine Jb ?_
  refine lf ?_
  refine lx H fun hyy=>?_
  subst hyy
  have H:=Ho4
  try dsimp only at H
  refine lf ?_
  exact ⟨(),H,wb [some 0,some 1]⟩
 rintro ⟨⟩ H
 try dsimp only at H
 unfold awp at H
 refine Sm.st (akw.eq_1 ..) ?_
 refine rA ?_
 refine js ?_
 refine lf ?_
 obtain rfl:=Option.some.inj H
 exact rtM [some 0,some 1]
abbrev akt (b0:List aj6) (del:List UInt8) (i:Int):S:=stB [(0,.own 0 [.str,.int .i64,.int .i64,.bool,.bool,.int .i64,.int .i64,.int .i64,.int .i64,.slice 80,.int .i64] 0 b0.length),(5,.c (.int .i64) (.int i))] [(0,.row 41 (List.map aj3 b0)),(1,.box [.c .str (.str del)])]
def aqw (n:Nat) (b0:List aj6) (del:List UInt8) (i:Int):Option (Nat×(List aj6)) :=
 gd ((0≤i∧i≤(b0.length:Int)∧(b0.length:Int)≤(b0.length:Int))∧((Int.toNat i)+(Int.toNat ((b0.length:Int) - i)))≤b0.length) <|
 gd ((0≤i∧i≤(b0.length:Int))) <|
 some ((Int.toNat (i - 0)),(byd b0 (Int.toNat i) (azv (Int.toNat ((b0.length:Int) - i)) (⟨[],(⟨0,0,false,false,0,0,0,0⟩:TDcb),[],0⟩:aj6))))
abbrev ay0 (b0_2:List aj6) (del:List UInt8) (i_2:Int) (j:Int):S:=stB [(0,.own 0 [.str,.int .i64,.int .i64,.bool,.bool,.int .i64,.int .i64,.int .i64,.int .i64,.slice 80,.int .i64] 0 b0_2.length),(1,.fnv 90 [.box 1 0]),(5,.c (.int .i64) (.int i_2)),(6,.c (.int .i64) (.int j))] [(0,.row 41 (List.map aj3 b0_2)),(1,.box [.c .str (.str del)])]
def aq0 (n:Nat) (b0_2:List aj6) (del:List UInt8) (i_2:Int) (j:Int):Option (((List aj6)×Int×Int) ⊕ (((List aj6)×Int))) :=
 some (.inl (b0_2,i_2,(jd .i64 (j+1))))
abbrev aku (del:List UInt8) (b0_1:List aj6) (i_1:Int) (j:Int):S:=stB [(0,.own 0 [.str,.int .i64,.int .i64,.bool,.bool,.int .i64,.int .i64,.int .i64,.int .i64,.slice 80,.int .i64] 0 b0_1.length),(1,.fnv 90 [.box 1 0]),(5,.c (.int .i64) (.int i_1)),(6,.c (.int .i64) (.int j))] [(0,.row 41 (List.map aj3 b0_1)),(1,.box [.c .str (.str del)])]
def ajp (n:Nat) (del:List UInt8) (b0_1:List aj6) (i_1:Int) (j:Int):Option (((List aj6)×Int×Int) ⊕ (((List aj6)×Int))) :=
 bif (decide (j < ((b0_1.length:Nat):Int))) then
  gd ((0≤j∧j < (b0_1.length:Int))∧(Int.toNat j) < b0_1.length) <|
  (aqo n (gt b0_1 (Int.toNat j)) del).bind fun r2 =>
  bif (!r2) then
   gd ((0≤i_1∧i_1 < (b0_1.length:Int))∧(Int.toNat i_1) < b0_1.length) <|
   aq0 n (List.set b0_1 (Int.toNat i_1) (gt b0_1 (Int.toNat j))) del (jd .i64 (i_1+1)) j
  else
   aq0 n b0_1 del i_1 j
 else
  some (.inr (b0_1,i_1))
def aqr (n:Nat) (s:List aj6) (del:List UInt8):Option (Nat×(List aj6)) :=
 (aw5 n s del).bind fun r1 =>
 bif (r1 == (-1)) then
  some (s.length,s)
 else
  (ajk (fun (x:(List aj6)×Int×Int)=>ajp n del x.1 x.2.1 x.2.2) n (s,r1,(jd .i64 (r1+1)))).bind fun y13 =>
  aqw n y13.1 del y13.2
theorem cjb (n:Nat) (s:List aj6) (del:List UInt8) (r:Nat×(List aj6)) (H:aqr n s del=some r):aqg je 89 [.ref (.own 0 [.str,.int .i64,.int .i64,.bool,.bool,.int .i64,.int .i64,.int .i64,.int .i64,.slice 80,.int .i64] 0 s.length),.ref (.fnv 90 [.box 1 0])] [.row 41 (List.map aj3 s),.box [.c .str (.str del)]] [.own 0 [.str,.int .i64,.int .i64,.bool,.bool,.int .i64,.int .i64,.int .i64,.int .i64,.slice 80,.int .i64] 0 r.1] [.row 41 (List.map aj3 r.2),.box [.c .str (.str del)]]:=by
 have hΓ:=@g0 (aj2 je)
 refine aq4 (Tryz.f89.body.getD .skip) h00 Tryz.func89 rfl Tryz.call89 (jk rfl) (jk rfl) ?_
 unfold aqr at H
 simp only [Tryz.f89,jt]
 refine rA ?_
 refine sX fun K2 hK2=>?_
 obtain ⟨r1,hr1,H⟩:=bind_some H
 have q:=hr1
 iterate 2 refine oX ?_
 refine oMq (cj6 n _ _ r1 hr1) [0,1] [] ?_
 refine oXq ?_
 refine hK2 _ ?_
 refine jr fun K3 hK3=>?_
 refine rA ?_
 refine cnd H (fun h5 H=>?_) (fun h5 H=>?_)
 ·refine rA ?_
  refine js ?_
  refine lf ?_
  obtain rfl:=Option.some.inj H
  exact rtM [some 0,some 1]
 refine jq ?_
 refine hK3 _ ?_
 refine j4 (fun (x:(List aj6)×Int)=>akt x.1 del x.2) (fun x=>aqw n x.1 del x.2=some r) ?_ ?_
 ·refine rA ?_
  refine jC ?_
  obtain ⟨y13,hy13,Ho13⟩:=bind_some H
  refine j3 _ (fun x=>aku del x.1 x.2.1 x.2.2) hy13 (wb [some 0,some 1]) ?_
  rintro ⟨b0_1,i_1,j⟩ z13 H
  try dsimp only at H
  unfold ajp at H
  refine Sm.st (aku.eq_1 ..) ?_
  refine jr fun K14 hK14=>?_
  refine rA ?_
  refine cnd H (fun h16 H=>?_) (fun h16 H=>?_)
  ·refine jq ?_
   refine hK14 _ ?_
   refine j4 (fun (x:(List aj6)×Int)=>ay0 x.1 del x.2 j) (fun x=>aq0 n x.1 del x.2 j=some z13) ?_ ?_
   ·refine jC ?_
    obtain ⟨⟨hg23,hg24⟩,H⟩:=aj7 H
    refine rA ?_
    refine sX fun K18 hK18=>?_
    obtain ⟨r2,hr2,H⟩:=bind_some H
    have q:=hr2
    iterate 2 refine oX ?_
    refine oMq (byf n _ _ r2 hr2) [1] [] ?_
    refine oXq ?_
    refine hK18 _ ?_
    refine cnd H (fun h19 H=>?_) (fun h19 H=>?_)
    ·obtain ⟨⟨hg21,hg22⟩,H⟩:=aj7 H
     refine rA ?_
     refine eA ?_
     refine lf ?_
     exact ⟨((List.set b0_1 (Int.toNat i_1) (gt b0_1 (Int.toNat j))),(jd .i64 (i_1+1))),H,wb [some 0,some 1]⟩
    refine jq ?_
    refine lf ?_
    exact ⟨(b0_1,i_1),H,wb [some 0,some 1]⟩
   rintro ⟨b0_2,i_2⟩ H
   try dsimp only at H
   unfold aq0 at H
   refine Sm.st (ay0.eq_1 ..) ?_
   refine eA ?_
   refine lf ?_
   exact nx H (wb [some 0,some 1])
  refine Jb ?_
  refine lf ?_
  refine lx H fun hyy=>?_
  subst hyy
  have H:=Ho13
  try dsimp only at H
  refine lf ?_
  exact ⟨(b0_1,i_1),H,wb [some 0,some 1]⟩
 rintro ⟨b0,i⟩ H
 try dsimp only at H
 unfold aqw at H
 refine Sm.st (akt.eq_1 ..) ?_
 refine sX fun K7 hK7=>?_
 obtain ⟨⟨hg8,hg9⟩,H⟩:=aj7 H
 iterate 3 refine oX ?_
 refine oY ?_
 refine hK7 _ ?_
 obtain ⟨hg11,H⟩:=aj7 H
 refine rA ?_
 refine js ?_
 refine lf ?_
 obtain rfl:=Option.some.inj H
 exact rtM [some 0,some 1]
theorem dwz (n:Nat) (v:aj5) (name:List UInt8) (r:aj5×Int) (H:bwu n v name=some r):aqg je 87 [.ref (.agg [.c .str (.str v.Serial),.c (.int .i64) (.int v.Cyls),.c (.int .i64) (.int v.Heads),.c (.int .i64) (.int v.Size),.rg 0 (.slice 41) (.slice (List.map aj3 v.Sets))]),.dat (false,[.str]) [.str name],.ref (.fnv 88 [])] [.reg] [.agg [.c .str (.str r.1.Serial),.c (.int .i64) (.int r.1.Cyls),.c (.int .i64) (.int r.1.Heads),.c (.int .i64) (.int r.1.Size),.own 1 [.str,.int .i64,.int .i64,.bool,.bool,.int .i64,.int .i64,.int .i64,.int .i64,.slice 80,.int .i64] 0 r.1.Sets.length],.c (.int .i64) (.int r.2)] [.reg,.row 41 (List.map aj3 r.1.Sets)]:=by
 have hΓ:=g1 (ak5 n) (g1 (aqp n) (g1 (aw6 n) (@g0 (aj2 je))))
 have qe:=aI @azf.eq_1 (aI @aqd.eq_1 @aqv.eq_1)
 refine aq4 (Tryz.f87.body.getD .skip) h00 Tryz.func87 rfl Tryz.call87 (jk rfl) (jk rfl) ?_
 unfold bwu at H
 simp only [Tryz.f87,jt]
 refine rA ?_
 refine jr fun K2 hK2=>?_
 obtain ⟨r1,hr1,H⟩:=bind_some H
 have q:=aI qe hr1
 refine rAq ?_
 refine rA ?_
 refine cnd H (fun h5 H=>?_) (fun h5 H=>?_)
 ·refine rA ?_
  refine js ?_
  refine lf ?_
  obtain rfl:=Option.some.inj H
  exact rtM [some 0,none]
 refine jq ?_
 refine hK2 _ ?_
 obtain ⟨r2,hr2,H⟩:=bind_some H
 have q:=aI qe hr2
 refine rAq ?_
 refine jr fun K8 hK8=>?_
 refine rA ?_
 refine cnd H (fun h10 H=>?_) (fun h10 H=>?_)
 ·refine rA ?_
  refine js ?_
  refine lf ?_
  obtain rfl:=Option.some.inj H
  exact rtM [some 0,none]
 refine jq ?_
 refine hK8 _ ?_
 obtain ⟨r3,hr3,H⟩:=bind_some H
 have q:=aI qe hr3
 refine rAq ?_
 refine jr fun K13 hK13=>?_
 refine sX fun K14 hK14=>?_
 obtain ⟨hg15,H⟩:=aj7 H
 obtain ⟨r4,hr4,H⟩:=bind_some H
 have q:=hr4
 iterate 5 refine oX ?_
 refine oMq (dq9 n _ _ r4 hr4) [464] [] ?_
 refine oXq ?_
 refine hK14 _ ?_
 refine rA ?_
 refine cnd H (fun h17 H=>?_) (fun h17 H=>?_)
 ·refine rA ?_
  refine js ?_
  refine lf ?_
  obtain rfl:=Option.some.inj H
  exact rtM [some 0,none]
 refine jq ?_
 refine hK13 _ ?_
 refine rA ?_
 refine js ?_
 refine lf ?_
 obtain rfl:=Option.some.inj H
 exact rtM [some 0,some 464]
def bq6 (n:Nat) (v:aj5) (name:List UInt8):Option (aj5×Int) :=
 (bwu n v name).bind fun r1 =>
 bif (r1.2 != 0) then
  some ((⟨[],0,0,0,[]⟩:aj5),r1.2)
 else
  (aqr n r1.1.Sets name).bind fun r2 =>
  some ((⟨r1.1.Serial,r1.1.Cyls,r1.1.Heads,r1.1.Size,(List.take r2.1 r2.2)⟩:aj5),0)
theorem eqq (n:Nat) (v:aj5) (name:List UInt8) (r:aj5×Int) (H:bq6 n v name=some r):aqg je 43 [.ref (.agg [.c .str (.str v.Serial),.c (.int .i64) (.int v.Cyls),.c (.int .i64) (.int v.Heads),.c (.int .i64) (.int v.Size),.rg 0 (.slice 41) (.slice (List.map aj3 v.Sets))]),.dat (false,[.str]) [.str name]] [.reg] [.agg [.c .str (.str r.1.Serial),.c (.int .i64) (.int r.1.Cyls),.c (.int .i64) (.int r.1.Heads),.c (.int .i64) (.int r.1.Size),.c (.slice 41) (.slice (List.map aj3 r.1.Sets))],.c (.int .i64) (.int r.2)] [.reg]:=by
 have hΓ:=@g0 (aj2 je)
 refine aq4 (Tryz.f43.body.getD .skip) h00 Tryz.func43 rfl Tryz.call43 (jk rfl) (jk rfl) ?_
 unfold bq6 at H
 simp only [Tryz.f43,jt]
 refine rA ?_
 refine sX fun K2 hK2=>?_
 obtain ⟨r1,hr1,H⟩:=bind_some H
 have q:=hr1
 iterate 2 refine oX ?_
 refine oMq (dwz n _ _ r1 hr1) [0] [176] ?_
 iterate 6 refine oXq ?_
 refine hK2 _ ?_
 refine jr fun K3 hK3=>?_
 refine rA ?_
 refine cnd H (fun h5 H=>?_) (fun h5 H=>?_)
 ·refine rA ?_
  refine js ?_
  refine lf ?_
  obtain rfl:=Option.some.inj H
  exact rtM [some 0]
 refine jq ?_
 refine hK3 _ ?_
 refine sX fun K7 hK7=>?_
 obtain ⟨r2,hr2,H⟩:=bind_some H
 have q:=hr2
 iterate 2 refine oX ?_
 refine oY ?_
 refine oMq (cjb n _ _ r2 hr2) [176,48] [] ?_
 iterate 2 refine oXq ?_
 refine hK7 _ ?_
 refine rA ?_
 refine js ?_
 refine lf ?_
 obtain rfl:=Option.some.inj H
 exact rtM [some 0]
def dw3 (n:Nat):Go.AE.Fn:=mkFn (A:=aj5×(List UInt8)) (R:=aj5×Int) 43 [(true,[.str,.int .i64,.int .i64,.int .i64,.slice 41]),(false,[.str])] false (fun xs=>((⟨(cg (xs.getD 0 []) 0).toStr,(cg (xs.getD 0 []) 1).toInt,(cg (xs.getD 0 []) 2).toInt,(cg (xs.getD 0 []) 3).toInt,((cg (xs.getD 0 []) 4).toSl.map aq3)⟩:aj5),(cg (xs.getD 1 []) 0).toStr)) (fun a=>[[.str a.1.Serial,.int a.1.Cyls,.int a.1.Heads,.int a.1.Size,.slice (List.map aj3 a.1.Sets)],[.str a.2]]) (fun a=>bq6 n a.1 a.2) (fun r=>[.agg [.c .str (.str r.1.Serial),.c (.int .i64) (.int r.1.Cyls),.c (.int .i64) (.int r.1.Heads),.c (.int .i64) (.int r.1.Size),.c (.slice 41) (.slice (List.map aj3 r.1.Sets))],.c (.int .i64) (.int r.2)]) (fun r=>[])
theorem eku (n:Nat):aj2 je (dw3 n):=bq1 Tryz.call43 fun a r h=>⟨_,_,eqq n a.1 a.2 r h,rfl,rfl,rfl,rfl⟩
def bjf (n:Nat) (d:List aj6) (d_i:Nat) (p1:List UInt8) (p2:List UInt8) (p2_:Int) (p2__:Int) (p2___:Int) (p2____:List aj6):Option (Int×(List aj6)) :=
 (by8 n p1).bind fun r1 =>
 bif (!r1) then
  some (1,d)
 else
  (ajx n (⟨p2,p2_,p2__,p2___,p2____⟩:aj5) p1).bind fun r2 =>
  bif r2.2 then
   some (4,d)
  else
   gd (d_i < d.length) <|
   some (0,(List.set d d_i (⟨p1,((gt d d_i).Dcb),(gt d d_i).Extents,(gt d d_i).Used⟩:aj6)))
def bww (n:Nat) (v:aj5) (name:List UInt8) (how:List UInt8) (how_:List UInt8) (how__:Int) (how___:Int) (how____:Int) (how_____:List aj6):Option (aj5×Int) :=
 (az3 n v).bind fun r1 =>
 bif (r1 != 0) then
  some ((⟨[],0,0,0,[]⟩:aj5),r1)
 else
  (ajx n v name).bind fun r2 =>
  bif (!r2.2) then
   some ((⟨[],0,0,0,[]⟩:aj5),3)
  else
   (ajo n v).bind fun r3 =>
   gd ((0≤r2.1∧r2.1 < (r3.Sets.length:Int))) <|
   (bjf n r3.Sets (Int.toNat r2.1) how how_ how__ how___ how____ how_____).bind fun r4 =>
   gd (r4.2.length=r3.Sets.length) <|
   bif (r4.1 != 0) then
    some ((⟨[],0,0,0,[]⟩:aj5),r4.1)
   else
    some ((⟨r3.Serial,r3.Cyls,r3.Heads,r3.Size,r4.2⟩:aj5),0)
def aqc (n:Nat) (s:List aj6):Option (List aj6):=fwm (fun x y=>bwb n x y) s
theorem cjk (n:Nat) (s:List aj6) (r:List aj6) (H:aqc n s=some r):aqg je 92 [.ref (.own 0 [.str,.int .i64,.int .i64,.bool,.bool,.int .i64,.int .i64,.int .i64,.int .i64,.slice 80,.int .i64] 0 s.length),.ref (.fnv 93 [])] [.row 41 (List.map aj3 s)] [] [.row 41 (List.map aj3 r)] :=
 dkf ij7 ty41 Tryz.isAgg41 Tryz.sizeOf41 (by decide) (by decide) (by intro args w;exact Tryz.call93 args w) aj3 (fun _=>rfl) (fun x y=>bwb n x y) (fun x y c h=>ij9 x y c h) s r H
theorem dj9 (n:Nat) (d:List aj6) (d_i:Nat) (p1:List UInt8) (p2:List UInt8) (p2_:Int) (p2__:Int) (p2___:Int) (p2____:List aj6) (r:Int×(List aj6)) (H:bjf n d d_i p1 p2 p2_ p2__ p2___ p2____=some r):aqg je 91 [.ref (.elt 0 11 [.str,.int .i64,.int .i64,.bool,.bool,.int .i64,.int .i64,.int .i64,.int .i64,.slice 80,.int .i64] d_i 0),.ref (.box 1 0),.ref (.box 2 0)] [.row 41 (List.map aj3 d),.box [.c .str (.str p1)],.box [.c .str (.str p2),.c (.int .i64) (.int p2_),.c (.int .i64) (.int p2__),.c (.int .i64) (.int p2___),.rg 3 (.slice 41) (.slice (List.map aj3 p2____))],.reg] [.c (.int .i64) (.int r.1)] [.row 41 (List.map aj3 r.2),.box [.c .str (.str p1)],.box [.c .str (.str p2),.c (.int .i64) (.int p2_),.c (.int .i64) (.int p2__),.c (.int .i64) (.int p2___),.rg 3 (.slice 41) (.slice (List.map aj3 p2____))],.reg]:=by
 have hΓ:=g1 (dzh n) (g1 (aqp n) (@g0 (aj2 je)))
 have qe:=aI @cka.eq_1 @aqd.eq_1
 refine aq4 (Tryz.f91.body.getD .skip) h00 Tryz.func91 rfl Tryz.call91 (jk rfl) (jk rfl) ?_
 unfold bjf at H
 simp only [Tryz.f91,jt]
 refine rA ?_
 refine jr fun K2 hK2=>?_
 obtain ⟨r1,hr1,H⟩:=bind_some H
 have q:=aI qe hr1
 refine rAq ?_
 refine cnd H (fun h4 H=>?_) (fun h4 H=>?_)
 ·refine rA ?_
  refine js ?_
  refine lf ?_
  obtain rfl:=Option.some.inj H
  exact rtM [some 0,some 1,some 2,some 3]
 refine jq ?_
 refine hK2 _ ?_
 refine jr fun K6 hK6=>?_
 obtain ⟨r2,hr2,H⟩:=bind_some H
 have q:=aI qe hr2
 refine rAq ?_
 refine rA ?_
 refine cnd H (fun h9 H=>?_) (fun h9 H=>?_)
 ·refine rA ?_
  refine js ?_
  refine lf ?_
  obtain rfl:=Option.some.inj H
  exact rtM [some 0,some 1,some 2,some 3]
 refine jq ?_
 refine hK6 _ ?_
 refine sX fun K11 hK11=>?_
 obtain ⟨hg12,H⟩:=aj7 H
 iterate 2 refine oX ?_
 refine oE gyt ?_
 iterate 2 refine oX ?_
 refine hK11 _ ?_
 refine rA ?_
 refine js ?_
 refine lf ?_
 obtain rfl:=Option.some.inj H
 exact rtM [some 0,some 1,some 2,some 3]
theorem dz1 (n:Nat) (v:aj5) (name:List UInt8) (how:List UInt8) (how_:List UInt8) (how__:Int) (how___:Int) (how____:Int) (how_____:List aj6) (r:aj5×Int) (H:bww n v name how how_ how__ how___ how____ how_____=some r):aqg je 87 [.ref (.agg [.c .str (.str v.Serial),.c (.int .i64) (.int v.Cyls),.c (.int .i64) (.int v.Heads),.c (.int .i64) (.int v.Size),.rg 0 (.slice 41) (.slice (List.map aj3 v.Sets))]),.dat (false,[.str]) [.str name],.ref (.fnv 91 [.box 1 0,.box 2 0])] [.reg,.box [.c .str (.str how)],.box [.c .str (.str how_),.c (.int .i64) (.int how__),.c (.int .i64) (.int how___),.c (.int .i64) (.int how____),.rg 0 (.slice 41) (.slice (List.map aj3 how_____))]] [.agg [.c .str (.str r.1.Serial),.c (.int .i64) (.int r.1.Cyls),.c (.int .i64) (.int r.1.Heads),.c (.int .i64) (.int r.1.Size),.own 3 [.str,.int .i64,.int .i64,.bool,.bool,.int .i64,.int .i64,.int .i64,.int .i64,.slice 80,.int .i64] 0 r.1.Sets.length],.c (.int .i64) (.int r.2)] [.reg,.box [.c .str (.str how)],.box [.c .str (.str how_),.c (.int .i64) (.int how__),.c (.int .i64) (.int how___),.c (.int .i64) (.int how____),.rg 0 (.slice 41) (.slice (List.map aj3 how_____))],.row 41 (List.map aj3 r.1.Sets)]:=by
 have hΓ:=g1 (ak5 n) (g1 (aqp n) (g1 (aw6 n) (@g0 (aj2 je))))
 have qe:=aI @azf.eq_1 (aI @aqd.eq_1 @aqv.eq_1)
 refine aq4 (Tryz.f87.body.getD .skip) h00 Tryz.func87 rfl Tryz.call87 (jk rfl) (jk rfl) ?_
 unfold bww at H
 simp only [Tryz.f87,jt]
 refine rA ?_
 refine jr fun K2 hK2=>?_
 obtain ⟨r1,hr1,H⟩:=bind_some H
 have q:=aI qe hr1
 refine rAq ?_
 refine rA ?_
 refine cnd H (fun h5 H=>?_) (fun h5 H=>?_)
 ·refine rA ?_
  refine js ?_
  refine lf ?_
  obtain rfl:=Option.some.inj H
  exact rtM [some 0,some 1,some 2,none]
 refine jq ?_
 refine hK2 _ ?_
 obtain ⟨r2,hr2,H⟩:=bind_some H
 have q:=aI qe hr2
 refine rAq ?_
 refine jr fun K8 hK8=>?_
 refine rA ?_
 refine cnd H (fun h10 H=>?_) (fun h10 H=>?_)
 ·refine rA ?_
  refine js ?_
  refine lf ?_
  obtain rfl:=Option.some.inj H
  exact rtM [some 0,some 1,some 2,none]
 refine jq ?_
 refine hK8 _ ?_
 obtain ⟨r3,hr3,H⟩:=bind_some H
 have q:=aI qe hr3
 refine rAq ?_
 refine jr fun K13 hK13=>?_
 refine sX fun K14 hK14=>?_
 obtain ⟨hg15,H⟩:=aj7 H
 obtain ⟨r4,hr4,H⟩:=bind_some H
 obtain ⟨hg16,H⟩:=aj7 H
 have q:=hr4
 iterate 5 refine oX ?_
 refine oMq (dj9 n _ _ _ _ _ _ _ _ r4 hr4) [464,1,2,0] [] ?_
 refine oXq ?_
 refine hK14 _ ?_
 refine rA ?_
 refine cnd H (fun h18 H=>?_) (fun h18 H=>?_)
 ·refine rA ?_
  refine js ?_
  refine lf ?_
  obtain rfl:=Option.some.inj H
  exact rtM [some 0,some 1,some 2,none]
 refine jq ?_
 refine hK13 _ ?_
 refine rA ?_
 refine js ?_
 refine lf ?_
 obtain rfl:=Option.some.inj H
 exact rtM [some 0,some 1,some 2,some 464]
def bwq (n:Nat) (v:aj5) (old:List UInt8) (name:List UInt8):Option (aj5×Int) :=
 (bww n v old name v.Serial v.Cyls v.Heads v.Size v.Sets).bind fun r1 =>
 (aqc n r1.1.Sets).bind fun r2 =>
 some ((⟨r1.1.Serial,r1.1.Cyls,r1.1.Heads,r1.1.Size,(List.take r1.1.Sets.length r2)⟩:aj5),r1.2)
theorem ewb (n:Nat) (v:aj5) (old:List UInt8) (name:List UInt8) (r:aj5×Int) (H:bwq n v old name=some r):aqg je 45 [.ref (.agg [.c .str (.str v.Serial),.c (.int .i64) (.int v.Cyls),.c (.int .i64) (.int v.Heads),.c (.int .i64) (.int v.Size),.rg 0 (.slice 41) (.slice (List.map aj3 v.Sets))]),.dat (false,[.str]) [.str old],.dat (false,[.str]) [.str name]] [.reg] [.agg [.c .str (.str r.1.Serial),.c (.int .i64) (.int r.1.Cyls),.c (.int .i64) (.int r.1.Heads),.c (.int .i64) (.int r.1.Size),.c (.slice 41) (.slice (List.map aj3 r.1.Sets))],.c (.int .i64) (.int r.2)] [.reg]:=by
 have hΓ:=@g0 (aj2 je)
 refine aq4 (Tryz.f45.body.getD .skip) h00 Tryz.func45 rfl Tryz.call45 (jk rfl) (jk rfl) ?_
 unfold bwq at H
 simp only [Tryz.f45,jt]
 refine rA ?_
 refine sX fun K2 hK2=>?_
 obtain ⟨r1,hr1,H⟩:=bind_some H
 have q:=hr1
 iterate 2 refine oX ?_
 refine oY ?_
 refine oMq (dz1 n _ _ _ _ _ _ _ _ r1 hr1) [0,80,48] [224] ?_
 iterate 6 refine oXq ?_
 refine hK2 _ ?_
 refine sX fun K3 hK3=>?_
 obtain ⟨r2,hr2,H⟩:=bind_some H
 have q:=hr2
 iterate 2 refine oX ?_
 refine oMq (cjk n _ r2 hr2) [224] [] ?_
 refine hK3 _ ?_
 refine rA ?_
 refine js ?_
 refine lf ?_
 obtain rfl:=Option.some.inj H
 exact rtM [some 0]
def dzs (n:Nat):Go.AE.Fn:=mkFn (A:=aj5×(List UInt8)×(List UInt8)) (R:=aj5×Int) 45 [(true,[.str,.int .i64,.int .i64,.int .i64,.slice 41]),(false,[.str]),(false,[.str])] false (fun xs=>((⟨(cg (xs.getD 0 []) 0).toStr,(cg (xs.getD 0 []) 1).toInt,(cg (xs.getD 0 []) 2).toInt,(cg (xs.getD 0 []) 3).toInt,((cg (xs.getD 0 []) 4).toSl.map aq3)⟩:aj5),(cg (xs.getD 1 []) 0).toStr,(cg (xs.getD 2 []) 0).toStr)) (fun a=>[[.str a.1.Serial,.int a.1.Cyls,.int a.1.Heads,.int a.1.Size,.slice (List.map aj3 a.1.Sets)],[.str a.2.1],[.str a.2.2]]) (fun a=>bwq n a.1 a.2.1 a.2.2) (fun r=>[.agg [.c .str (.str r.1.Serial),.c (.int .i64) (.int r.1.Cyls),.c (.int .i64) (.int r.1.Heads),.c (.int .i64) (.int r.1.Size),.c (.slice 41) (.slice (List.map aj3 r.1.Sets))],.c (.int .i64) (.int r.2)]) (fun r=>[])
theorem eys (n:Nat):aj2 je (dzs n):=bq1 Tryz.call45 fun a r h=>⟨_,_,ewb n a.1 a.2.1 a.2.2 r h,rfl,rfl,rfl,rfl⟩
def bzr (n:Nat) (c:Int):Option Bool :=
 some (if (decide (c ≥ 65))=true then (decide (c≤90)) else false)
def cqp (n:Nat):Go.AE.Fn:=mkFn (A:=Int) (R:=Bool) 114 [(false,[.int .u8])] false (fun xs=>(cg (xs.getD 0 []) 0).toInt) (fun a=>[[.int a]]) (fun a=>bzr n a) (fun r=>[.c .bool (.bool r)]) (fun r=>[])
theorem djz (n:Nat):aj2 je (cqp n):=by
 have hΓ:=@g0 (aj2 je)
 refine ajb (Tryz.f114.body.getD .skip) h00 Tryz.func114 rfl Tryz.call114 (by decide) (by intro _ r;exact ⟨rfl,by simp⟩) ?_
 rintro c r H
 try dsimp only at H
 unfold bzr at H
 simp only [Tryz.f114,jt]
 refine rA ?_
 refine rA ?_
 refine js ?_
 refine lf ?_
 obtain rfl:=Option.some.inj H
 exact rt []
def bjp (n:Nat) (c:Int):Option Bool :=
 some (if (decide (c ≥ 48))=true then (decide (c≤57)) else false)
def cwz (n:Nat):Go.AE.Fn:=mkFn (A:=Int) (R:=Bool) 115 [(false,[.int .u8])] false (fun xs=>(cg (xs.getD 0 []) 0).toInt) (fun a=>[[.int a]]) (fun a=>bjp n a) (fun r=>[.c .bool (.bool r)]) (fun r=>[])
theorem dzw (n:Nat):aj2 je (cwz n):=by
 have hΓ:=@g0 (aj2 je)
 refine ajb (Tryz.f115.body.getD .skip) h00 Tryz.func115 rfl Tryz.call115 (by decide) (by intro _ r;exact ⟨rfl,by simp⟩) ?_
 rintro c r H
 try dsimp only at H
 unfold bjp at H
 simp only [Tryz.f115,jt]
 refine rA ?_
 refine rA ?_
 refine js ?_
 refine lf ?_
 obtain rfl:=Option.some.inj H
 exact rt []
def ajm (n:Nat) (n_:Int) (lo:Int) (hi:Int):Option Bool :=
 some (if (decide (n_ ≥ lo))=true then (decide (n_≤hi)) else false)
def cjf (n:Nat):Go.AE.Fn:=mkFn (A:=Int×Int×Int) (R:=Bool) 71 [(false,[.int .i64]),(false,[.int .i64]),(false,[.int .i64])] false (fun xs=>((cg (xs.getD 0 []) 0).toInt,(cg (xs.getD 1 []) 0).toInt,(cg (xs.getD 2 []) 0).toInt)) (fun a=>[[.int a.1],[.int a.2.1],[.int a.2.2]]) (fun a=>ajm n a.1 a.2.1 a.2.2) (fun r=>[.c .bool (.bool r)]) (fun r=>[])
theorem cz1 (n:Nat):aj2 je (cjf n):=by
 have hΓ:=@g0 (aj2 je)
 refine ajb (Tryz.f71.body.getD .skip) h00 Tryz.func71 rfl Tryz.call71 (by decide) (by intro _ r;exact ⟨rfl,by simp⟩) ?_
 rintro ⟨n_,lo,hi⟩ r H
 try dsimp only at H
 unfold ajm at H
 simp only [Tryz.f71,jt]
 refine rA ?_
 refine rA ?_
 refine js ?_
 refine lf ?_
 obtain rfl:=Option.some.inj H
 exact rt []
abbrev cz6 (s:List UInt8):S:=stB [(0,.c .str (.str s))] []
def bw1 (n:Nat) (s:List UInt8):Option Bool :=
 (ajm n (s.length:Int) 1 6).bind fun r1 =>
 some r1
abbrev czk (s:List UInt8) (i:Int):S:=stB [(0,.c .str (.str s)),(3,.c (.int .i64) (.int i))] []
def ay4 (n:Nat) (s:List UInt8) (i:Int):Option ((Int) ⊕ (((Bool) ⊕ (Unit)))) :=
 bif (decide (i < (s.length:Int))) then
  gd ((0≤i∧i < (s.length:Int))) <|
  (bzr n (((s.getD (Int.toNat i) 0).toNat:Nat):Int)).bind fun r2 =>
  gd (((!r2)=true→(0≤i∧i < (s.length:Int)))∧((!r2)=true→(bjp n (((s.getD (Int.toNat i) 0).toNat:Nat):Int)).isSome=true)) <|
  bif (if (!r2)=true then (!((bjp n (((s.getD (Int.toNat i) 0).toNat:Nat):Int)).getD default)) else false) then
   some (.inr (.inl false))
  else
   some (.inl (jd .i64 (i+1)))
 else
  some (.inr (.inr ()))
def bzp (n:Nat) (s:List UInt8):Option Bool :=
 (ajk (fun (x:Int)=>ay4 n s x) n 0).bind fun y4 =>
 match y4 with
 | .inl vv =>
  some vv
 | .inr vv =>
  bw1 n s
def dqm (n:Nat):Go.AE.Fn:=mkFn (A:=(List UInt8)) (R:=Bool) 70 [(false,[.str])] false (fun xs=>(cg (xs.getD 0 []) 0).toStr) (fun a=>[[.str a]]) (fun a=>bzp n a) (fun r=>[.c .bool (.bool r)]) (fun r=>[])
theorem ekr (n:Nat):aj2 je (dqm n):=by
 have hΓ:=g1 (djz n) (g1 (dzw n) (g1 (cz1 n) (@g0 (aj2 je))))
 have qe:=aI @cqp.eq_1 (aI @cwz.eq_1 @cjf.eq_1)
 refine ajb (Tryz.f70.body.getD .skip) h00 Tryz.func70 rfl Tryz.call70 (by decide) (by intro _ r;exact ⟨rfl,by simp⟩) ?_
 rintro s r H
 try dsimp only at H
 unfold bzp at H
 simp only [Tryz.f70,jt]
 refine rA ?_
 refine j4 (fun (x:Unit)=>cz6 s) (fun x=>bw1 n s=some r) ?_ ?_
 ·refine rA ?_
  refine jC ?_
  obtain ⟨y4,hy4,Ho4⟩:=bind_some H
  refine j3 _ (fun x=>czk s x) hy4 (wb []) ?_
  rintro i z4 H
  try dsimp only at H
  unfold ay4 at H
  refine Sm.st (czk.eq_1 ..) ?_
  refine jr fun K5 hK5=>?_
  refine rA ?_
  refine cnd H (fun h7 H=>?_) (fun h7 H=>?_)
  ·refine jq ?_
   refine hK5 _ ?_
   refine jr fun K8 hK8=>?_
   refine jC ?_
   obtain ⟨hg12,H⟩:=aj7 H
   obtain ⟨r2,hr2,H⟩:=bind_some H
   obtain ⟨⟨hg13,hg14⟩,H⟩:=aj7 H
   have q:=aI qe hr2
   refine rAq ?_
   refine cnd H (fun h10 H=>?_) (fun h10 H=>?_)
   ·refine rA ?_
    refine js ?_
    refine lf ?_
    refine lx H fun hyy=>?_
    subst hyy
    have H:=Ho4
    try dsimp only at H
    refine lf ?_
    obtain rfl:=Option.some.inj H
    exact rt []
   refine jq ?_
   refine hK8 _ ?_
   refine eA ?_
   refine lf ?_
   exact nx H (wb [])
  refine Jb ?_
  refine lf ?_
  refine lx H fun hyy=>?_
  subst hyy
  have H:=Ho4
  try dsimp only at H
  refine lf ?_
  exact ⟨(),H,wb []⟩
 rintro ⟨⟩ H
 try dsimp only at H
 unfold bw1 at H
 refine Sm.st (cz6.eq_1 ..) ?_
 obtain ⟨r1,hr1,H⟩:=bind_some H
 have q:=aI qe hr1
 refine rAq ?_
 refine js ?_
 refine lf ?_
 obtain rfl:=Option.some.inj H
 exact rt []
abbrev ck0 (s:List UInt8):S:=stB [(0,.c .str (.str s))] []
def azo (n:Nat) (s:List UInt8):Option Bool :=
 some (if (decide ((s.length:Int) ≥ 1))=true then (decide ((s.length:Int)≤8)) else false)
abbrev cwt (s:List UInt8) (i:Int):S:=stB [(0,.c .str (.str s)),(3,.c (.int .i64) (.int i))] []
def azr (n:Nat) (s:List UInt8) (i:Int):Option ((Int) ⊕ (((Bool) ⊕ (Unit)))) :=
 bif (decide (i < (s.length:Int))) then
  gd ((0≤i∧i < (s.length:Int))∧((!((((s.getD (Int.toNat i) 0).toNat:Nat):Int) == 64))=true→(0≤i∧i < (s.length:Int)))∧((!(if ((((s.getD (Int.toNat i) 0).toNat:Nat):Int) == 64)=true then true else ((((s.getD (Int.toNat i) 0).toNat:Nat):Int) == 35)))=true→(0≤i∧i < (s.length:Int)))) <|
  gd ((0≤i∧i < (s.length:Int))) <|
  (bzr n (((s.getD (Int.toNat i) 0).toNat:Nat):Int)).bind fun r1 =>
  gd ((((if (!r1)=true then (!(if (if ((((s.getD (Int.toNat i) 0).toNat:Nat):Int) == 64)=true then true else ((((s.getD (Int.toNat i) 0).toNat:Nat):Int) == 35))=true then true else ((((s.getD (Int.toNat i) 0).toNat:Nat):Int) == 36))) else false) && (!(i == 0)))=true→(0≤i∧i < (s.length:Int)))∧(((if (!r1)=true then (!(if (if ((((s.getD (Int.toNat i) 0).toNat:Nat):Int) == 64)=true then true else ((((s.getD (Int.toNat i) 0).toNat:Nat):Int) == 35))=true then true else ((((s.getD (Int.toNat i) 0).toNat:Nat):Int) == 36))) else false) && (!(i == 0)))=true→(bjp n (((s.getD (Int.toNat i) 0).toNat:Nat):Int)).isSome=true)∧(((if (!r1)=true then (!(if (if ((((s.getD (Int.toNat i) 0).toNat:Nat):Int) == 64)=true then true else ((((s.getD (Int.toNat i) 0).toNat:Nat):Int) == 35))=true then true else ((((s.getD (Int.toNat i) 0).toNat:Nat):Int) == 36))) else false) && !(i == 0))=true→((if (!r1)=true then (!(if (if ((((s.getD (Int.toNat i) 0).toNat:Nat):Int) == 64)=true then true else ((((s.getD (Int.toNat i) 0).toNat:Nat):Int) == 35))=true then true else ((((s.getD (Int.toNat i) 0).toNat:Nat):Int) == 36))) else false) && (!(i == 0)))=true)) <|
  bif (if (if (!r1)=true then (!(if (if ((((s.getD (Int.toNat i) 0).toNat:Nat):Int) == 64)=true then true else ((((s.getD (Int.toNat i) 0).toNat:Nat):Int) == 35))=true then true else ((((s.getD (Int.toNat i) 0).toNat:Nat):Int) == 36))) else false)=true then (if (i == 0)=true then true else (!((bjp n (((s.getD (Int.toNat i) 0).toNat:Nat):Int)).getD default))) else false) then
   some (.inr (.inl false))
  else
   some (.inl (jd .i64 (i+1)))
 else
  some (.inr (.inr ()))
def bzt (n:Nat) (s:List UInt8):Option Bool :=
 (ajk (fun (x:Int)=>azr n s x) n 0).bind fun y4 =>
 match y4 with
 | .inl vv =>
  some vv
 | .inr vv =>
  azo n s
def dw9 (n:Nat):Go.AE.Fn:=mkFn (A:=(List UInt8)) (R:=Bool) 55 [(false,[.str])] false (fun xs=>(cg (xs.getD 0 []) 0).toStr) (fun a=>[[.str a]]) (fun a=>bzt n a) (fun r=>[.c .bool (.bool r)]) (fun r=>[])
theorem ey1 (n:Nat):aj2 je (dw9 n):=by
 have hΓ:=g1 (djz n) (g1 (dzw n) (@g0 (aj2 je)))
 refine ajb (Tryz.f55.body.getD .skip) h00 Tryz.func55 rfl Tryz.call55 (by decide) (by intro _ r;exact ⟨rfl,by simp⟩) ?_
 rintro s r H
 try dsimp only at H
 unfold bzt at H
 simp only [Tryz.f55,jt]
 refine rA ?_
 refine j4 (fun (x:Unit)=>ck0 s) (fun x=>azo n s=some r) ?_ ?_
 ·refine rA ?_
  refine jC ?_
  obtain ⟨y4,hy4,Ho4⟩:=bind_some H
  refine j3 _ (fun x=>cwt s x) hy4 (wb []) ?_
  rintro i z4 H
  try dsimp only at H
  unfold azr at H
  refine Sm.st (cwt.eq_1 ..) ?_
  refine jr fun K5 hK5=>?_
  refine rA ?_
  refine cnd H (fun h7 H=>?_) (fun h7 H=>?_)
  ·refine jq ?_
   refine hK5 _ ?_
   refine jr fun K8 hK8=>?_
   refine jC ?_
   obtain ⟨⟨hg17,hg18,hg19⟩,H⟩:=aj7 H
   refine rA ?_
   obtain ⟨hg13,H⟩:=aj7 H
   obtain ⟨r1,hr1,H⟩:=bind_some H
   obtain ⟨⟨hg14,hg15,hg16⟩,H⟩:=aj7 H
   have q:=aI @cqp.eq_1 (aI @cwz.eq_1 hr1)
   refine rAq ?_
   refine cnd H (fun h11 H=>?_) (fun h11 H=>?_)
   ·refine rA ?_
    refine js ?_
    refine lf ?_
    refine lx H fun hyy=>?_
    subst hyy
    have H:=Ho4
    try dsimp only at H
    refine lf ?_
    obtain rfl:=Option.some.inj H
    exact rt []
   refine jq ?_
   refine hK8 _ ?_
   refine eA ?_
   refine lf ?_
   exact nx H (wb [])
  refine Jb ?_
  refine lf ?_
  refine lx H fun hyy=>?_
  subst hyy
  have H:=Ho4
  try dsimp only at H
  refine lf ?_
  exact ⟨(),H,wb []⟩
 rintro ⟨⟩ H
 try dsimp only at H
 unfold azo at H
 refine Sm.st (ck0.eq_1 ..) ?_
 refine rA ?_
 refine js ?_
 refine lf ?_
 obtain rfl:=Option.some.inj H
 exact rt []
abbrev djt (s:List UInt8):S:=stB [(0,.c .str (.str s))] []
def bk5 (n:Nat) (s:List UInt8):Option Bool :=
 some (decide ((s.length:Int)≤44))
abbrev dqn (s:List UInt8) (from__1:Int) (i:Int):S:=stB [(0,.c .str (.str s)),(3,.c (.int .i64) (.int from__1)),(4,.c (.int .i64) (.int i))] []
def ak6 (n:Nat) (s:List UInt8) (from__1:Int) (i:Int):Option ((Int×Int) ⊕ (((Bool) ⊕ (Unit)))) :=
 some (.inl (from__1,(jd .i64 (i+1))))
abbrev dw0 (s:List UInt8) (from_:Int) (i:Int):S:=stB [(0,.c .str (.str s)),(3,.c (.int .i64) (.int from_)),(4,.c (.int .i64) (.int i))] []
def aw2 (n:Nat) (s:List UInt8) (from_:Int) (i:Int):Option ((Int×Int) ⊕ (((Bool) ⊕ (Unit)))) :=
 bif (decide (i≤(s.length:Int))) then
  gd (((!(i == (s.length:Int)))=true→(0≤i∧i < (s.length:Int)))) <|
  bif (if (i == (s.length:Int))=true then true else ((((s.getD (Int.toNat i) 0).toNat:Nat):Int) == 46)) then
   gd ((0≤from_∧from_≤i∧i≤(s.length:Int))) <|
   (bzt n (List.drop (Int.toNat from_) (List.take (Int.toNat i) s))).bind fun r1 =>
   bif (!r1) then
    some (.inr (.inl false))
   else
    ak6 n s (jd .i64 (i+1)) i
  else
   ak6 n s from_ i
 else
  some (.inr (.inr ()))
def bwr (n:Nat) (s:List UInt8):Option Bool :=
 (ajk (fun (x:Int×Int)=>aw2 n s x.1 x.2) n (0,0)).bind fun y5 =>
 match y5 with
 | .inl vv =>
  some vv
 | .inr vv =>
  bk5 n s
def cqc (n:Nat):Go.AE.Fn:=mkFn (A:=(List UInt8)) (R:=Bool) 18 [(false,[.str])] false (fun xs=>(cg (xs.getD 0 []) 0).toStr) (fun a=>[[.str a]]) (fun a=>bwr n a) (fun r=>[.c .bool (.bool r)]) (fun r=>[])
theorem djf (n:Nat):aj2 je (cqc n):=by
 have hΓ:=g1 (ey1 n) (@g0 (aj2 je))
 refine ajb (Tryz.f18.body.getD .skip) h00 Tryz.func18 rfl Tryz.call18 (by decide) (by intro _ r;exact ⟨rfl,by simp⟩) ?_
 rintro s r H
 try dsimp only at H
 unfold bwr at H
 simp only [Tryz.f18,jt]
 refine rA ?_
 refine rA ?_
 refine j4 (fun (x:Unit)=>djt s) (fun x=>bk5 n s=some r) ?_ ?_
 ·refine rA ?_
  refine jC ?_
  obtain ⟨y5,hy5,Ho5⟩:=bind_some H
  refine j3 _ (fun x=>dw0 s x.1 x.2) hy5 (wb []) ?_
  rintro ⟨from_,i⟩ z5 H
  try dsimp only at H
  unfold aw2 at H
  refine Sm.st (dw0.eq_1 ..) ?_
  refine jr fun K6 hK6=>?_
  refine rA ?_
  refine cnd H (fun h8 H=>?_) (fun h8 H=>?_)
  ·refine jq ?_
   refine hK6 _ ?_
   refine j4 (fun (x:Int)=>dqn s x i) (fun x=>ak6 n s x i=some z5) ?_ ?_
   ·refine jC ?_
    obtain ⟨hg16,H⟩:=aj7 H
    refine rA ?_
    refine cnd H (fun h10 H=>?_) (fun h10 H=>?_)
    ·refine jr fun K11 hK11=>?_
     obtain ⟨hg15,H⟩:=aj7 H
     obtain ⟨r1,hr1,H⟩:=bind_some H
     have q:=aI @dw9.eq_1 hr1
     refine rAq ?_
     refine cnd H (fun h13 H=>?_) (fun h13 H=>?_)
     ·refine rA ?_
      refine js ?_
      refine lf ?_
      refine lx H fun hyy=>?_
      subst hyy
      have H:=Ho5
      try dsimp only at H
      refine lf ?_
      obtain rfl:=Option.some.inj H
      exact rt []
     refine jq ?_
     refine hK11 _ ?_
     refine eA ?_
     refine lf ?_
     exact ⟨_,H,wb []⟩
    refine jq ?_
    refine lf ?_
    exact ⟨_,H,wb []⟩
   rintro from__1 H
   try dsimp only at H
   unfold ak6 at H
   refine Sm.st (dqn.eq_1 ..) ?_
   refine eA ?_
   refine lf ?_
   exact nx H (wb [])
  refine Jb ?_
  refine lf ?_
  refine lx H fun hyy=>?_
  subst hyy
  have H:=Ho5
  try dsimp only at H
  refine lf ?_
  exact ⟨(),H,wb []⟩
 rintro ⟨⟩ H
 try dsimp only at H
 unfold bk5 at H
 refine Sm.st (djt.eq_1 ..) ?_
 refine rA ?_
 refine js ?_
 refine lf ?_
 obtain rfl:=Option.some.inj H
 exact rt []
def ajz (n:Nat) (d:TDcb):Option Bool :=
 (ajm n d.Org 1 3).bind fun r1 =>
 gd ((r1=true→(ajm n d.Format 1 3).isSome=true)∧((if r1=true then ((ajm n d.Format 1 3).getD default) else false)=true→(ajm n d.Lrecl 0 1024).isSome=true)∧((if (if r1=true then ((ajm n d.Format 1 3).getD default) else false)=true then ((ajm n d.Lrecl 0 1024).getD default) else false)=true→(ajm n d.Blksize 0 1024).isSome=true)∧((if (if (if r1=true then ((ajm n d.Format 1 3).getD default) else false)=true then ((ajm n d.Lrecl 0 1024).getD default) else false)=true then ((ajm n d.Blksize 0 1024).getD default) else false)=true→(ajm n d.KeyPos 0 1024).isSome=true)∧((if (if (if (if r1=true then ((ajm n d.Format 1 3).getD default) else false)=true then ((ajm n d.Lrecl 0 1024).getD default) else false)=true then ((ajm n d.Blksize 0 1024).getD default) else false)=true then ((ajm n d.KeyPos 0 1024).getD default) else false)=true→(ajm n d.KeyLen 0 64).isSome=true)) <|
 some (if (if (if (if (if r1=true then ((ajm n d.Format 1 3).getD default) else false)=true then ((ajm n d.Lrecl 0 1024).getD default) else false)=true then ((ajm n d.Blksize 0 1024).getD default) else false)=true then ((ajm n d.KeyPos 0 1024).getD default) else false)=true then ((ajm n d.KeyLen 0 64).getD default) else false)
def bjg (n:Nat):Go.AE.Fn:=mkFn (A:=TDcb) (R:=Bool) 127 [(true,[.int .i64,.int .i64,.bool,.bool,.int .i64,.int .i64,.int .i64,.int .i64])] false (fun xs=>(⟨(cg (xs.getD 0 []) 0).toInt,(cg (xs.getD 0 []) 1).toInt,(cg (xs.getD 0 []) 2).toBool,(cg (xs.getD 0 []) 3).toBool,(cg (xs.getD 0 []) 4).toInt,(cg (xs.getD 0 []) 5).toInt,(cg (xs.getD 0 []) 6).toInt,(cg (xs.getD 0 []) 7).toInt⟩:TDcb)) (fun a=>[[.int a.Org,.int a.Format,.bool a.Blocked,.bool a.Asa,.int a.Lrecl,.int a.Blksize,.int a.KeyLen,.int a.KeyPos]]) (fun a=>ajz n a) (fun r=>[.c .bool (.bool r)]) (fun r=>[])
theorem bzy (n:Nat):aj2 je (bjg n):=by
 have hΓ:=g1 (cz1 n) (@g0 (aj2 je))
 refine ajb (Tryz.f127.body.getD .skip) h00 Tryz.func127 rfl Tryz.call127 (by decide) (by intro _ r;exact ⟨rfl,by simp⟩) ?_
 rintro d r H
 try dsimp only at H
 unfold ajz at H
 simp only [Tryz.f127,jt]
 refine rA ?_
 obtain ⟨r1,hr1,H⟩:=bind_some H
 obtain ⟨⟨hg3,hg4,hg5,hg6,hg7⟩,H⟩:=aj7 H
 have q:=aI @cjf.eq_1 hr1
 refine rAq ?_
 refine js ?_
 refine lf ?_
 obtain rfl:=Option.some.inj H
 exact rt []
def czp (n:Nat) (x_:aj0):Option Bool :=
 some (if (if (if (decide (x_.At ≥ 0))=true then (decide (x_.Len ≥ 1)) else false)=true then (decide (x_.At < 512)) else false)=true then (decide (x_.Len≤(jd .i64 (512 - x_.At)))) else false)
def ezk (n:Nat):Go.AE.Fn:=mkFn (A:=aj0) (R:=Bool) 161 [(true,[.int .i64,.int .i64])] false (fun xs=>(⟨(cg (xs.getD 0 []) 0).toInt,(cg (xs.getD 0 []) 1).toInt⟩:aj0)) (fun a=>[[.int a.At,.int a.Len]]) (fun a=>czp n a) (fun r=>[.c .bool (.bool r)]) (fun r=>[])
theorem fyp (n:Nat):aj2 je (ezk n):=by
 have hΓ:=@g0 (aj2 je)
 refine ajb (Tryz.f161.body.getD .skip) h00 Tryz.func161 rfl Tryz.call161 (by decide) (by intro _ r;exact ⟨rfl,by simp⟩) ?_
 rintro x_ r H
 try dsimp only at H
 unfold czp at H
 simp only [Tryz.f161,jt]
 refine rA ?_
 refine rA ?_
 refine js ?_
 refine lf ?_
 obtain rfl:=Option.some.inj H
 exact rt []
abbrev cz3 (out:List Int):S:=stB [(5,.own 9000 [.int .i64] 0 out.length)] [(9000,.row 3 (List.map cyy out))]
def by5 (n:Nat) (out:List Int):Option ((List Int)×Bool) :=
 some (out,true)
abbrev czh (l:List aj0) (seen_1:List Bool) (out_2:List Int) (i:Int):S:=stB [(0,.c (.slice 80) (.slice (List.map aj1 l))),(4,.elt 9006 1 [.bool] 0 0),(5,.own 9007 [.int .i64] 0 out_2.length),(6,.c (.int .i64) (.int i))] [(9006,.row 4 (List.map ak0 seen_1)),(9007,.row 3 (List.map cyy out_2))]
def bqi (n:Nat) (l:List aj0) (seen_1:List Bool) (out_2:List Int) (i:Int):Option (((List Bool)×(List Int)×Int) ⊕ ((((List Int)×Bool) ⊕ ((List Int))))) :=
 some (.inl (seen_1,out_2,(jd .i64 (i+1))))
abbrev cws (l:List aj0) (i:Int) (seen_2:List Bool) (out_3:List Int) (k:Int):S:=stB [(0,.c (.slice 80) (.slice (List.map aj1 l))),(4,.elt 9010 1 [.bool] 0 0),(5,.own 9011 [.int .i64] 0 out_3.length),(6,.c (.int .i64) (.int i)),(7,.c (.int .i64) (.int k))] [(9010,.row 4 (List.map ak0 seen_2)),(9011,.row 3 (List.map cyy out_3))]
def azk (n:Nat) (l:List aj0) (i:Int) (seen_2:List Bool) (out_3:List Int) (k:Int):Option (((List Bool)×(List Int)×Int) ⊕ ((((List Int)×Bool) ⊕ ((List Bool)×(List Int))))) :=
 gd ((0≤i∧i < (l.length:Int))∧(0≤i∧i < (l.length:Int))) <|
 bif (decide (k < (jd .i64 (((gt l (Int.toNat i)).At)+((gt l (Int.toNat i)).Len))))) then
  gd ((0≤k∧k < 512∧seen_2.length=512)∧(Int.toNat k) < seen_2.length) <|
  bif (gt seen_2 (Int.toNat k)) then
   some (.inr (.inl ([],false)))
  else
   gd ((0≤k∧k < 512∧seen_2.length=512)∧(Int.toNat k) < seen_2.length) <|
   gd ((out_3.length+1)≤2147483648) <|
   some (.inl ((List.set seen_2 (Int.toNat k) true),(out_3 ++ [k]),(jd .i64 (k+1))))
 else
  some (.inr (.inr (seen_2,out_3)))
abbrev czm (l:List aj0) (seen:List Bool) (out_1:List Int) (i:Int):S:=stB [(0,.c (.slice 80) (.slice (List.map aj1 l))),(4,.elt 9004 1 [.bool] 0 0),(5,.own 9005 [.int .i64] 0 out_1.length),(6,.c (.int .i64) (.int i))] [(9004,.row 4 (List.map ak0 seen)),(9005,.row 3 (List.map cyy out_1))]
def azu (n:Nat) (l:List aj0) (seen:List Bool) (out_1:List Int) (i:Int):Option (((List Bool)×(List Int)×Int) ⊕ ((((List Int)×Bool) ⊕ ((List Int))))) :=
 bif (decide (i < (l.length:Int))) then
  gd ((0≤i∧i < (l.length:Int))) <|
  (czp n (gt l (Int.toNat i))).bind fun r1 =>
  bif (!r1) then
   some (.inr (.inl ([],false)))
  else
   gd ((0≤i∧i < (l.length:Int))) <|
   (ajk (fun (x:(List Bool)×(List Int)×Int)=>azk n l i x.1 x.2.1 x.2.2) n (seen,out_1,(gt l (Int.toNat i)).At)).bind fun y15 =>
   match y15 with
   | .inl vv =>
    some (.inr (.inl (vv.1,vv.2)))
   | .inr vv =>
    bqi n l vv.1 vv.2 i
 else
  some (.inr (.inr out_1))
def az8 (n:Nat) (l:List aj0):Option ((List Int)×Bool) :=
 (ajk (fun (x:(List Bool)×(List Int)×Int)=>azu n l x.1 x.2.1 x.2.2) n ((azv 512 false),[],0)).bind fun y6 =>
 match y6 with
 | .inl vv =>
  some (vv.1,vv.2)
 | .inr vv =>
  by5 n vv
def bqd (n:Nat):Go.AE.Fn:=mkFn (A:=(List aj0)) (R:=(List Int)×Bool) 120 [(false,[.slice 80])] false (fun xs=>((cg (xs.getD 0 []) 0).toSl.map ajl)) (fun a=>[[.slice (List.map aj1 a)]]) (fun a=>az8 n a) (fun r=>[.own 0 [.int .i64] 0 r.1.length,.c .bool (.bool r.2)]) (fun r=>[.row 3 (List.map cyy r.1)])
theorem bk3 (n:Nat):aj2 je (bqd n):=by
 have hΓ:=g1 (fyp n) (@g0 (aj2 je))
 refine ajb (Tryz.f120.body.getD .skip) h00 Tryz.func120 rfl Tryz.call120 (by decide) (fun _ r=>⟨rfl,m1 ⟨3,_,_,rfl,ty3,rfl⟩ m0⟩) ?_
 rintro l r H
 try dsimp only at H
 unfold az8 at H
 simp only [Tryz.f120,jt]
 refine rA ?_
 refine sX fun K2 hK2=>?_
 refine oY ?_
 refine hK2 _ ?_
 refine rA ?_
 refine j4 (fun (x:(List Int))=>cz3 x) (fun x=>by5 n x=some r) ?_ ?_
 ·refine rA ?_
  refine jC ?_
  obtain ⟨y6,hy6,Ho6⟩:=bind_some H
  refine j3 _ (fun x=>czm l x.1 x.2.1 x.2.2) hy6 (wb [some 64,none]) ?_
  rintro ⟨seen,out_1,i⟩ z6 H
  try dsimp only at H
  unfold azu at H
  refine Sm.st (czm.eq_1 ..) ?_
  refine jr fun K7 hK7=>?_
  refine rA ?_
  refine cnd H (fun h9 H=>?_) (fun h9 H=>?_)
  ·refine jq ?_
   refine hK7 _ ?_
   refine j4 (fun (x:(List Bool)×(List Int))=>czh l x.1 x.2 i) (fun x=>bqi n l x.1 x.2 i=some z6) ?_ ?_
   ·refine jC ?_
    refine jr fun K10 hK10=>?_
    obtain ⟨hg33,H⟩:=aj7 H
    obtain ⟨r1,hr1,H⟩:=bind_some H
    have q:=aI @ezk.eq_1 hr1
    refine rAq ?_
    refine cnd H (fun h12 H=>?_) (fun h12 H=>?_)
    ·refine rA ?_
     refine js ?_
     refine lf ?_
     refine lx H fun hyy=>?_
     subst hyy
     have H:=Ho6
     try dsimp only at H
     refine lf ?_
     obtain rfl:=Option.some.inj H
     exact rto [none]
    refine jq ?_
    refine hK10 _ ?_
    obtain ⟨hg32,H⟩:=aj7 H
    refine rA ?_
    refine jC ?_
    obtain ⟨y15,hy15,Ho15⟩:=bind_some H
    refine j3 _ (fun x=>cws l i x.1 x.2.1 x.2.2) hy15 (wb [some 9004,some 9005]) ?_
    rintro ⟨seen_2,out_3,k⟩ z15 H
    try dsimp only at H
    unfold azk at H
    refine Sm.st (cws.eq_1 ..) ?_
    refine jr fun K16 hK16=>?_
    obtain ⟨⟨hg30,hg31⟩,H⟩:=aj7 H
    refine rD ?_
    refine cnd H (fun h18 H=>?_) (fun h18 H=>?_)
    ·refine jq ?_
     refine hK16 _ ?_
     refine jr fun K19 hK19=>?_
     refine jC ?_
     refine jr fun K20 hK20=>?_
     obtain ⟨⟨hg28,hg29⟩,H⟩:=aj7 H
     refine rA ?_
     refine cnd H (fun h22 H=>?_) (fun h22 H=>?_)
     ·refine rA ?_
      refine js ?_
      refine lf ?_
      refine lx H fun hyy=>?_
      subst hyy
      have H:=Ho15
      try dsimp only at H
      refine lf ?_
      refine lx H fun hyy=>?_
      subst hyy
      have H:=Ho6
      try dsimp only at H
      refine lf ?_
      obtain rfl:=Option.some.inj H
      exact rto [none]
     refine jq ?_
     refine hK20 _ ?_
     obtain ⟨⟨hg26,hg27⟩,H⟩:=aj7 H
     refine rA ?_
     obtain ⟨hg25,H⟩:=aj7 H
     refine eA ?_
     refine hK19 _ ?_
     refine eA ?_
     refine lf ?_
     exact nx H (wb [some 9010,some 768])
    refine Jb ?_
    refine lf ?_
    refine lx H fun hyy=>?_
    subst hyy
    have H:=Ho15
    try dsimp only at H
    refine lf ?_
    exact ⟨(seen_2,out_3),H,wb [some 9010,some 9011]⟩
   rintro ⟨seen_1,out_2⟩ H
   try dsimp only at H
   unfold bqi at H
   refine Sm.st (czh.eq_1 ..) ?_
   refine eA ?_
   refine lf ?_
   exact nx H (wb [some 9006,some 9007])
  refine Jb ?_
  refine lf ?_
  refine lx H fun hyy=>?_
  subst hyy
  have H:=Ho6
  try dsimp only at H
  refine lf ?_
  exact ⟨_,H,wb [some 9005]⟩
 rintro out H
 try dsimp only at H
 unfold by5 at H
 refine Sm.st (cz3.eq_1 ..) ?_
 refine rA ?_
 refine js ?_
 refine lf ?_
 obtain rfl:=Option.some.inj H
 exact rto [some 9000]
def awq (n:Nat) (l:List aj0):Option Bool :=
 (az8 n l).bind fun r1 =>
 some r1.2
def bzf (n:Nat):Go.AE.Fn:=mkFn (A:=(List aj0)) (R:=Bool) 73 [(false,[.slice 80])] false (fun xs=>((cg (xs.getD 0 []) 0).toSl.map ajl)) (fun a=>[[.slice (List.map aj1 a)]]) (fun a=>awq n a) (fun r=>[.c .bool (.bool r)]) (fun r=>[])
theorem byk (n:Nat):aj2 je (bzf n):=by
 have hΓ:=g1 (bk3 n) (@g0 (aj2 je))
 refine ajb (Tryz.f73.body.getD .skip) h00 Tryz.func73 rfl Tryz.call73 (by decide) (by intro _ r;exact ⟨rfl,by simp⟩) ?_
 rintro l r H
 try dsimp only at H
 unfold awq at H
 simp only [Tryz.f73,jt]
 refine rA ?_
 obtain ⟨r1,hr1,H⟩:=bind_some H
 have q:=aI @bqd.eq_1 hr1
 refine rAq ?_
 refine rA ?_
 refine js ?_
 refine lf ?_
 obtain rfl:=Option.some.inj H
 exact rt []
def ay9 (n:Nat) (l:List aj0):Option Int :=
 (az8 n l).bind fun r1 =>
 some ((r1.1.length:Nat):Int)
def czs (n:Nat):Go.AE.Fn:=mkFn (A:=(List aj0)) (R:=Int) 128 [(false,[.slice 80])] false (fun xs=>((cg (xs.getD 0 []) 0).toSl.map ajl)) (fun a=>[[.slice (List.map aj1 a)]]) (fun a=>ay9 n a) (fun r=>[.c (.int .i64) (.int r)]) (fun r=>[])
theorem dzm (n:Nat):aj2 je (czs n):=by
 have hΓ:=g1 (bk3 n) (@g0 (aj2 je))
 refine ajb (Tryz.f128.body.getD .skip) h00 Tryz.func128 rfl Tryz.call128 (by decide) (by intro _ r;exact ⟨rfl,by simp⟩) ?_
 rintro l r H
 try dsimp only at H
 unfold ay9 at H
 simp only [Tryz.f128,jt]
 refine rA ?_
 obtain ⟨r1,hr1,H⟩:=bind_some H
 have q:=aI @bqd.eq_1 hr1
 refine rAq ?_
 refine rA ?_
 refine js ?_
 refine lf ?_
 obtain rfl:=Option.some.inj H
 exact rt []
abbrev cy2 (d:aj6):S:=stB [(3,.box 9000 0)] [(9000,.box [.c .str (.str d.Name),.c (.int .i64) (.int d.Dcb.Org),.c (.int .i64) (.int d.Dcb.Format),.c .bool (.bool d.Dcb.Blocked),.c .bool (.bool d.Dcb.Asa),.c (.int .i64) (.int d.Dcb.Lrecl),.c (.int .i64) (.int d.Dcb.Blksize),.c (.int .i64) (.int d.Dcb.KeyLen),.c (.int .i64) (.int d.Dcb.KeyPos),.c (.slice 80) (.slice (List.map aj1 d.Extents)),.c (.int .i64) (.int d.Used)])]
def bzb (n:Nat) (d:aj6):Option Bool :=
 (bwr n d.Name).bind fun r1 =>
 gd ((r1=true→(ajz n d.Dcb).isSome=true)∧((if r1=true then ((ajz n d.Dcb).getD default) else false)=true→(ajm n (d.Extents.length:Int) 1 8).isSome=true)∧((if (if r1=true then ((ajz n d.Dcb).getD default) else false)=true then ((ajm n (d.Extents.length:Int) 1 8).getD default) else false)=true→(awq n d.Extents).isSome=true)∧((if (if (if r1=true then ((ajz n d.Dcb).getD default) else false)=true then ((ajm n (d.Extents.length:Int) 1 8).getD default) else false)=true then ((awq n d.Extents).getD default) else false)=true→(ay9 n d.Extents).isSome=true)∧((if (if (if r1=true then ((ajz n d.Dcb).getD default) else false)=true then ((ajm n (d.Extents.length:Int) 1 8).getD default) else false)=true then ((awq n d.Extents).getD default) else false)=true→(ajm n d.Used 0 ((ay9 n d.Extents).getD default)).isSome=true)) <|
 some (if (if (if (if r1=true then ((ajz n d.Dcb).getD default) else false)=true then ((ajm n (d.Extents.length:Int) 1 8).getD default) else false)=true then ((awq n d.Extents).getD default) else false)=true then ((ajm n d.Used 0 ((ay9 n d.Extents).getD default)).getD default) else false)
abbrev cyd (v:aj5) (d:aj6) (k:Int):S:=stB [(2,.box 9003 0),(3,.box 9004 0),(5,.c (.int .i64) (.int k))] [(9003,.box [.c .str (.str v.Serial),.c (.int .i64) (.int v.Cyls),.c (.int .i64) (.int v.Heads),.c (.int .i64) (.int v.Size),.c (.slice 41) (.slice (List.map aj3 v.Sets))]),(9004,.box [.c .str (.str d.Name),.c (.int .i64) (.int d.Dcb.Org),.c (.int .i64) (.int d.Dcb.Format),.c .bool (.bool d.Dcb.Blocked),.c .bool (.bool d.Dcb.Asa),.c (.int .i64) (.int d.Dcb.Lrecl),.c (.int .i64) (.int d.Dcb.Blksize),.c (.int .i64) (.int d.Dcb.KeyLen),.c (.int .i64) (.int d.Dcb.KeyPos),.c (.slice 80) (.slice (List.map aj1 d.Extents)),.c (.int .i64) (.int d.Used)])]
def bj9 (n:Nat) (v:aj5) (d:aj6) (k:Int):Option ((Int) ⊕ (((Bool) ⊕ (Unit)))) :=
 bif (decide (k < (d.Extents.length:Int))) then
  gd ((0≤k∧k < (d.Extents.length:Int))) <|
  bif (if (decide (((gt d.Extents (Int.toNat k)).At)≤v.Size))=true then true else (decide ((jd .i64 (((gt d.Extents (Int.toNat k)).At)+((gt d.Extents (Int.toNat k)).Len))) > (jd .i64 (v.Cyls * v.Heads))))) then
   some (.inr (.inl false))
  else
   some (.inl (jd .i64 (k+1)))
 else
  some (.inr (.inr ()))
def bkw (n:Nat) (v:aj5) (d:aj6):Option Bool :=
 (ajk (fun (x:Int)=>bj9 n v d x) n 0).bind fun y9 =>
 match y9 with
 | .inl vv =>
  some vv
 | .inr vv =>
  bzb n d
def dk6 (n:Nat):Go.AE.Fn:=mkFn (A:=aj5×aj6) (R:=Bool) 72 [(true,[.str,.int .i64,.int .i64,.int .i64,.slice 41]),(true,[.str,.int .i64,.int .i64,.bool,.bool,.int .i64,.int .i64,.int .i64,.int .i64,.slice 80,.int .i64])] false (fun xs=>((⟨(cg (xs.getD 0 []) 0).toStr,(cg (xs.getD 0 []) 1).toInt,(cg (xs.getD 0 []) 2).toInt,(cg (xs.getD 0 []) 3).toInt,((cg (xs.getD 0 []) 4).toSl.map aq3)⟩:aj5),(⟨(cg (xs.getD 1 []) 0).toStr,(⟨(cg (xs.getD 1 []) 1).toInt,(cg (xs.getD 1 []) 2).toInt,(cg (xs.getD 1 []) 3).toBool,(cg (xs.getD 1 []) 4).toBool,(cg (xs.getD 1 []) 5).toInt,(cg (xs.getD 1 []) 6).toInt,(cg (xs.getD 1 []) 7).toInt,(cg (xs.getD 1 []) 8).toInt⟩:TDcb),((cg (xs.getD 1 []) 9).toSl.map ajl),(cg (xs.getD 1 []) 10).toInt⟩:aj6))) (fun a=>[[.str a.1.Serial,.int a.1.Cyls,.int a.1.Heads,.int a.1.Size,.slice (List.map aj3 a.1.Sets)],[.str a.2.Name,.int a.2.Dcb.Org,.int a.2.Dcb.Format,.bool a.2.Dcb.Blocked,.bool a.2.Dcb.Asa,.int a.2.Dcb.Lrecl,.int a.2.Dcb.Blksize,.int a.2.Dcb.KeyLen,.int a.2.Dcb.KeyPos,.slice (List.map aj1 a.2.Extents),.int a.2.Used]]) (fun a=>bkw n a.1 a.2) (fun r=>[.c .bool (.bool r)]) (fun r=>[])
theorem fqb (n:Nat):aj2 je (dk6 n):=by
 have hΓ:=g1 (djf n) (g1 (bzy n) (g1 (cz1 n) (g1 (byk n) (g1 (dzm n) (@g0 (aj2 je))))))
 refine ajb (Tryz.f72.body.getD .skip) h00 Tryz.func72 rfl Tryz.call72 (by decide) (by intro _ r;exact ⟨rfl,by simp⟩) ?_
 rintro ⟨v,d⟩ r H
 try dsimp only at H
 unfold bkw at H
 simp only [Tryz.f72,jt]
 refine rA ?_
 refine j4 (fun (x:Unit)=>cy2 d) (fun x=>bzb n d=some r) ?_ ?_
 ·refine rA ?_
  refine jC ?_
  obtain ⟨y9,hy9,Ho9⟩:=bind_some H
  refine j3 _ (fun x=>cyd v d x) hy9 (wb [some 32,some 48]) ?_
  rintro k z9 H
  try dsimp only at H
  unfold bj9 at H
  refine Sm.st (cyd.eq_1 ..) ?_
  refine jr fun K10 hK10=>?_
  refine rA ?_
  refine cnd H (fun h12 H=>?_) (fun h12 H=>?_)
  ·refine jq ?_
   refine hK10 _ ?_
   refine jr fun K13 hK13=>?_
   refine jC ?_
   obtain ⟨hg18,H⟩:=aj7 H
   refine rA ?_
   refine rA ?_
   refine cnd H (fun h16 H=>?_) (fun h16 H=>?_)
   ·refine rA ?_
    refine js ?_
    refine lf ?_
    refine lx H fun hyy=>?_
    subst hyy
    have H:=Ho9
    try dsimp only at H
    refine lf ?_
    obtain rfl:=Option.some.inj H
    exact rt []
   refine jq ?_
   refine hK13 _ ?_
   refine eA ?_
   refine lf ?_
   exact nx H (wb [some 9003,some 9004])
  refine Jb ?_
  refine lf ?_
  refine lx H fun hyy=>?_
  subst hyy
  have H:=Ho9
  try dsimp only at H
  refine lf ?_
  exact ⟨(),H,wb [some 9004]⟩
 rintro ⟨⟩ H
 try dsimp only at H
 unfold bzb at H
 refine Sm.st (cy2.eq_1 ..) ?_
 obtain ⟨r1,hr1,H⟩:=bind_some H
 obtain ⟨⟨hg3,hg4,hg5,hg6,hg7⟩,H⟩:=aj7 H
 have q:=aI @cqc.eq_1 (aI @bjg.eq_1 (aI @cjf.eq_1 (aI @bzf.eq_1 (aI @czs.eq_1 hr1))))
 refine rDq ?_
 refine js ?_
 refine lf ?_
 obtain rfl:=Option.some.inj H
 exact rt []
abbrev dzx (l:List aj0):S:=stB [(3,.own 9000 [.int .i64,.int .i64] 0 l.length)] [(9000,.row 80 (List.map aj1 l))]
def byx (n:Nat) (l:List aj0):Option (List aj0) :=
 some l
abbrev dzv (v:aj5) (l_1:List aj0) (k:Int):S:=stB [(1,.box 9004 0),(3,.own 9005 [.int .i64,.int .i64] 0 l_1.length),(4,.c (.int .i64) (.int k))] [(9004,.box [.c .str (.str v.Serial),.c (.int .i64) (.int v.Cyls),.c (.int .i64) (.int v.Heads),.c (.int .i64) (.int v.Size),.c (.slice 41) (.slice (List.map aj3 v.Sets))]),(9005,.row 80 (List.map aj1 l_1))]
def bjz (n:Nat) (v:aj5) (l_1:List aj0) (k:Int):Option (((List aj0)×Int) ⊕ (((List aj0)))) :=
 bif (decide (k < (v.Sets.length:Int))) then
  gd ((0≤k∧k < (v.Sets.length:Int))∧(l_1.length+((gt v.Sets (Int.toNat k)).Extents).length)≤2147483648) <|
  some (.inl ((l_1 ++ (gt v.Sets (Int.toNat k)).Extents),(jd .i64 (k+1))))
 else
  some (.inr l_1)
def cjo (n:Nat) (v:aj5):Option (List aj0) :=
 (ajk (fun (x:(List aj0)×Int)=>bjz n v x.1 x.2) n ([],0)).bind fun y5 =>
 byx n y5
def dz2 (n:Nat):Go.AE.Fn:=mkFn (A:=aj5) (R:=(List aj0)) 74 [(true,[.str,.int .i64,.int .i64,.int .i64,.slice 41])] false (fun xs=>(⟨(cg (xs.getD 0 []) 0).toStr,(cg (xs.getD 0 []) 1).toInt,(cg (xs.getD 0 []) 2).toInt,(cg (xs.getD 0 []) 3).toInt,((cg (xs.getD 0 []) 4).toSl.map aq3)⟩:aj5)) (fun a=>[[.str a.Serial,.int a.Cyls,.int a.Heads,.int a.Size,.slice (List.map aj3 a.Sets)]]) (fun a=>cjo n a) (fun r=>[.own 0 [.int .i64,.int .i64] 0 r.length]) (fun r=>[.row 80 (List.map aj1 r)])
theorem ewx (n:Nat):aj2 je (dz2 n):=by
 have hΓ:=@g0 (aj2 je)
 refine ajb (Tryz.f74.body.getD .skip) h00 Tryz.func74 rfl Tryz.call74 (by decide) (fun _ r=>⟨rfl,m1 ⟨80,_,_,rfl,ty80,rfl⟩ m0⟩) ?_
 rintro v r H
 try dsimp only at H
 unfold cjo at H
 simp only [Tryz.f74,jt]
 refine rA ?_
 refine rA ?_
 refine j4 (fun (x:(List aj0))=>dzx x) (fun x=>byx n x=some r) ?_ ?_
 ·refine rA ?_
  refine jC ?_
  obtain ⟨y5,hy5,Ho5⟩:=bind_some H
  refine j3 _ (fun x=>dzv v x.1 x.2) hy5 (wb [some 16,none]) ?_
  rintro ⟨l_1,k⟩ z5 H
  try dsimp only at H
  unfold bjz at H
  refine Sm.st (dzv.eq_1 ..) ?_
  refine jr fun K6 hK6=>?_
  refine rA ?_
  refine cnd H (fun h8 H=>?_) (fun h8 H=>?_)
  ·refine jq ?_
   refine hK6 _ ?_
   refine jr fun K9 hK9=>?_
   refine jC ?_
   obtain ⟨⟨hg10,hg11⟩,H⟩:=aj7 H
   refine eA ?_
   refine hK9 _ ?_
   refine eA ?_
   refine lf ?_
   exact nx H (wb [some 9004,some 304])
  refine Jb ?_
  refine lf ?_
  refine lx H fun hyy=>?_
  subst hyy
  have H:=Ho5
  try dsimp only at H
  refine lf ?_
  exact ⟨_,H,wb [some 9005]⟩
 rintro l H
 try dsimp only at H
 unfold byx at H
 refine Sm.st (dzx.eq_1 ..) ?_
 refine rA ?_
 refine js ?_
 refine lf ?_
 obtain rfl:=Option.some.inj H
 exact rto [some 9000]
abbrev cy0 (v:aj5):S:=stB [(1,.box 9000 0)] [(9000,.box [.c .str (.str v.Serial),.c (.int .i64) (.int v.Cyls),.c (.int .i64) (.int v.Heads),.c (.int .i64) (.int v.Size),.c (.slice 41) (.slice (List.map aj3 v.Sets))])]
def bzc (n:Nat) (v:aj5):Option Bool :=
 (cjo n v).bind fun r2 =>
 (awq n r2).bind fun r3 =>
 some r3
abbrev cyo (v:aj5) (k:Int):S:=stB [(1,.box 9002 0),(3,.c (.int .i64) (.int k))] [(9002,.box [.c .str (.str v.Serial),.c (.int .i64) (.int v.Cyls),.c (.int .i64) (.int v.Heads),.c (.int .i64) (.int v.Size),.c (.slice 41) (.slice (List.map aj3 v.Sets))])]
def azh (n:Nat) (v:aj5) (k:Int):Option ((Int) ⊕ (((Bool) ⊕ (Unit)))) :=
 bif (decide (k < (v.Sets.length:Int))) then
  gd ((0≤k∧k < (v.Sets.length:Int))) <|
  (bkw n v (gt v.Sets (Int.toNat k))).bind fun r4 =>
  gd ((((!(!r4)) && (decide (k > 0)))=true→(0≤(jd .i64 (k - 1))∧(jd .i64 (k - 1)) < (v.Sets.length:Int)))∧(((!(!r4)) && (decide (k > 0)))=true→(0≤k∧k < (v.Sets.length:Int)))) <|
  bif (if (!r4)=true then true else (if (decide (k > 0))=true then (!Op.bytesLess ((gt v.Sets (Int.toNat (jd .i64 (k - 1)))).Name) ((gt v.Sets (Int.toNat k)).Name)) else false)) then
   some (.inr (.inl false))
  else
   some (.inl (jd .i64 (k+1)))
 else
  some (.inr (.inr ()))
def bjq (n:Nat) (v:aj5):Option Bool :=
 (bzp n v.Serial).bind fun r1 =>
 gd (((!(!r1))=true→(ajm n v.Cyls 1 64).isSome=true)∧((!(if (!r1)=true then true else (!((ajm n v.Cyls 1 64).getD default))))=true→(ajm n v.Heads 1 8).isSome=true)∧((!(if (if (!r1)=true then true else (!((ajm n v.Cyls 1 64).getD default)))=true then true else (!((ajm n v.Heads 1 8).getD default))))=true→(ajm n v.Size 1 (jd .i64 ((jd .i64 (v.Cyls * v.Heads)) - 1))).isSome=true)) <|
 bif (if (if (if (if (if (!r1)=true then true else (!((ajm n v.Cyls 1 64).getD default)))=true then true else (!((ajm n v.Heads 1 8).getD default)))=true then true else (!((ajm n v.Size 1 (jd .i64 ((jd .i64 (v.Cyls * v.Heads)) - 1))).getD default)))=true then true else (decide ((v.Sets.length:Int) > 64)))=true then true else (decide ((v.Sets.length:Int) > (jd .i64 (14 * v.Size))))) then
  some false
 else
  (ajk (fun (x:Int)=>azh n v x) n 0).bind fun y8 =>
  match y8 with
  | .inl vv =>
   some vv
  | .inr vv =>
   bzc n v
def byu (n:Nat):Go.AE.Fn:=mkFn (A:=aj5) (R:=Bool) 31 [(true,[.str,.int .i64,.int .i64,.int .i64,.slice 41])] false (fun xs=>(⟨(cg (xs.getD 0 []) 0).toStr,(cg (xs.getD 0 []) 1).toInt,(cg (xs.getD 0 []) 2).toInt,(cg (xs.getD 0 []) 3).toInt,((cg (xs.getD 0 []) 4).toSl.map aq3)⟩:aj5)) (fun a=>[[.str a.Serial,.int a.Cyls,.int a.Heads,.int a.Size,.slice (List.map aj3 a.Sets)]]) (fun a=>bjq n a) (fun r=>[.c .bool (.bool r)]) (fun r=>[])
theorem cwy (n:Nat):aj2 je (byu n):=by
 have hΓ:=g1 (ekr n) (g1 (cz1 n) (g1 (fqb n) (g1 (ewx n) (g1 (byk n) (@g0 (aj2 je))))))
 have qe:=aI @dqm.eq_1 (aI @cjf.eq_1 (aI @dk6.eq_1 (aI @dz2.eq_1 @bzf.eq_1)))
 refine ajb (Tryz.f31.body.getD .skip) h00 Tryz.func31 rfl Tryz.call31 (by decide) (by intro _ r;exact ⟨rfl,by simp⟩) ?_
 rintro v r H
 try dsimp only at H
 unfold bjq at H
 simp only [Tryz.f31,jt]
 refine rA ?_
 refine jr fun K2 hK2=>?_
 obtain ⟨r1,hr1,H⟩:=bind_some H
 obtain ⟨⟨hg19,hg20,hg21⟩,H⟩:=aj7 H
 have q:=aI qe hr1
 refine rAq ?_
 refine cnd H (fun h4 H=>?_) (fun h4 H=>?_)
 ·refine rA ?_
  refine js ?_
  refine lf ?_
  obtain rfl:=Option.some.inj H
  exact rt []
 refine jq ?_
 refine hK2 _ ?_
 refine j4 (fun (x:Unit)=>cy0 v) (fun x=>bzc n v=some r) ?_ ?_
 ·refine rA ?_
  refine jC ?_
  obtain ⟨y8,hy8,Ho8⟩:=bind_some H
  refine j3 _ (fun x=>cyo v x) hy8 (wb [some 16]) ?_
  rintro k z8 H
  try dsimp only at H
  unfold azh at H
  refine Sm.st (cyo.eq_1 ..) ?_
  refine jr fun K9 hK9=>?_
  refine rA ?_
  refine cnd H (fun h11 H=>?_) (fun h11 H=>?_)
  ·refine jq ?_
   refine hK9 _ ?_
   refine jr fun K12 hK12=>?_
   refine jC ?_
   obtain ⟨hg16,H⟩:=aj7 H
   obtain ⟨r4,hr4,H⟩:=bind_some H
   obtain ⟨⟨hg17,hg18⟩,H⟩:=aj7 H
   have q:=aI qe hr4
   refine rDq ?_
   refine cnd H (fun h14 H=>?_) (fun h14 H=>?_)
   ·refine rA ?_
    refine js ?_
    refine lf ?_
    refine lx H fun hyy=>?_
    subst hyy
    have H:=Ho8
    try dsimp only at H
    refine lf ?_
    obtain rfl:=Option.some.inj H
    exact rt []
   refine jq ?_
   refine hK12 _ ?_
   refine eA ?_
   refine lf ?_
   exact nx H (wb [some 9002])
  refine Jb ?_
  refine lf ?_
  refine lx H fun hyy=>?_
  subst hyy
  have H:=Ho8
  try dsimp only at H
  refine lf ?_
  exact ⟨(),H,wb [some 9002]⟩
 rintro ⟨⟩ H
 try dsimp only at H
 unfold bzc at H
 refine Sm.st (cy0.eq_1 ..) ?_
 obtain ⟨r2,hr2,H⟩:=bind_some H
 obtain ⟨r3,hr3,H⟩:=bind_some H
 have q:=aI qe (aI hr2 hr3)
 refine rAq ?_
 refine js ?_
 refine lf ?_
 obtain rfl:=Option.some.inj H
 exact rt []
abbrev cy7:S:=stB [] []
def bz9 (n:Nat):Option Int :=
 some (-1)
abbrev cym (name:List UInt8) (v:aj5) (k:Int):S:=stB [(1,.c .str (.str name)),(2,.box 9001 0),(5,.c (.int .i64) (.int k))] [(9001,.box [.c .str (.str v.Serial),.c (.int .i64) (.int v.Cyls),.c (.int .i64) (.int v.Heads),.c (.int .i64) (.int v.Size),.c (.slice 41) (.slice (List.map aj3 v.Sets))])]
def aqj (n:Nat) (name:List UInt8) (v:aj5) (k:Int):Option ((Int) ⊕ (((Int) ⊕ (Unit)))) :=
 bif (decide (k < (v.Sets.length:Int))) then
  gd ((0≤k∧k < (v.Sets.length:Int))) <|
  bif (((gt v.Sets (Int.toNat k)).Name) == name) then
   some (.inr (.inl k))
  else
   some (.inl (jd .i64 (k+1)))
 else
  some (.inr (.inr ()))
def awb (n:Nat) (v:aj5) (name:List UInt8):Option Int :=
 (ajk (fun (x:Int)=>aqj n name v x) n 0).bind fun y4 =>
 match y4 with
 | .inl vv =>
  some vv
 | .inr vv =>
  bz9 n
def aks (n:Nat):Go.AE.Fn:=mkFn (A:=aj5×(List UInt8)) (R:=Int) 58 [(true,[.str,.int .i64,.int .i64,.int .i64,.slice 41]),(false,[.str])] false (fun xs=>((⟨(cg (xs.getD 0 []) 0).toStr,(cg (xs.getD 0 []) 1).toInt,(cg (xs.getD 0 []) 2).toInt,(cg (xs.getD 0 []) 3).toInt,((cg (xs.getD 0 []) 4).toSl.map aq3)⟩:aj5),(cg (xs.getD 1 []) 0).toStr)) (fun a=>[[.str a.1.Serial,.int a.1.Cyls,.int a.1.Heads,.int a.1.Size,.slice (List.map aj3 a.1.Sets)],[.str a.2]]) (fun a=>awb n a.1 a.2) (fun r=>[.c (.int .i64) (.int r)]) (fun r=>[])
theorem bqa (n:Nat):aj2 je (aks n):=by
 have hΓ:=@g0 (aj2 je)
 refine ajb (Tryz.f58.body.getD .skip) h00 Tryz.func58 rfl Tryz.call58 (by decide) (by intro _ r;exact ⟨rfl,by simp⟩) ?_
 rintro ⟨v,name⟩ r H
 try dsimp only at H
 unfold awb at H
 simp only [Tryz.f58,jt]
 refine rA ?_
 refine j4 (fun (x:Unit)=>cy7) (fun x=>bz9 n=some r) ?_ ?_
 ·refine rA ?_
  refine jC ?_
  obtain ⟨y4,hy4,Ho4⟩:=bind_some H
  refine j3 _ (fun x=>cym name v x) hy4 (wb [some 32]) ?_
  rintro k z4 H
  try dsimp only at H
  unfold aqj at H
  refine Sm.st (cym.eq_1 ..) ?_
  refine jr fun K5 hK5=>?_
  refine rA ?_
  refine cnd H (fun h7 H=>?_) (fun h7 H=>?_)
  ·refine jq ?_
   refine hK5 _ ?_
   refine jr fun K8 hK8=>?_
   refine jC ?_
   obtain ⟨hg12,H⟩:=aj7 H
   refine rA ?_
   refine cnd H (fun h10 H=>?_) (fun h10 H=>?_)
   ·refine rA ?_
    refine js ?_
    refine lf ?_
    refine lx H fun hyy=>?_
    subst hyy
    have H:=Ho4
    try dsimp only at H
    refine lf ?_
    obtain rfl:=Option.some.inj H
    exact rt []
   refine jq ?_
   refine hK8 _ ?_
   refine eA ?_
   refine lf ?_
   exact nx H (wb [some 9001])
  refine Jb ?_
  refine lf ?_
  refine lx H fun hyy=>?_
  subst hyy
  have H:=Ho4
  try dsimp only at H
  refine lf ?_
  exact ⟨(),H,wb []⟩
 rintro ⟨⟩ H
 try dsimp only at H
 unfold bz9 at H
 refine Sm.st (cy7.eq_1 ..) ?_
 refine rA ?_
 refine js ?_
 refine lf ?_
 obtain rfl:=Option.some.inj H
 exact rt []
abbrev dko (v2:List Bool) (out:List Bool):S:=stB [(2,.elt 9000 1 [.bool] 0 0),(3,.elt 9001 1 [.bool] 0 0)] [(9000,.row 4 (List.map ak0 v2)),(9001,.row 4 (List.map ak0 out))]
def byt (n:Nat) (v2:List Bool) (out:List Bool):Option (List Bool) :=
 gd (out.length=512∧v2.length=512) <|
 gd (out.length=512) <|
 some out
abbrev dkn (v2_1:List Bool) (t:List Int) (out_1:List Bool) (i:Int):S:=stB [(2,.elt 9005 1 [.bool] 0 0),(3,.elt 9006 1 [.bool] 0 0),(4,.own 9007 [.int .i64] 0 t.length),(6,.c (.int .i64) (.int i))] [(9005,.row 4 (List.map ak0 v2_1)),(9006,.row 4 (List.map ak0 out_1)),(9007,.row 3 (List.map cyy t))]
def bjv (n:Nat) (v2_1:List Bool) (t:List Int) (out_1:List Bool) (i:Int):Option (((List Bool)×Int) ⊕ (((List Bool)))) :=
 bif (decide (i < ((t.length:Nat):Int))) then
  gd ((0≤i∧i < (t.length:Int))∧(Int.toNat i) < t.length∧(0≤(gt t (Int.toNat i))∧(gt t (Int.toNat i)) < 512∧out_1.length=512)∧(Int.toNat (gt t (Int.toNat i))) < out_1.length) <|
  some (.inl ((List.set out_1 (Int.toNat (gt t (Int.toNat i))) true),(jd .i64 (i+1))))
 else
  some (.inr out_1)
def cjz (n:Nat) (l:List aj0):Option (List Bool) :=
 (az8 n l).bind fun r1 =>
 (ajk (fun (x:(List Bool)×Int)=>bjv n (azv 512 false) r1.1 x.1 x.2) n ((azv 512 false),0)).bind fun y8 =>
 byt n (azv 512 false) y8
def dz5 (n:Nat):Go.AE.Fn:=mkFn (A:=(List aj0)) (R:=(List Bool)) 130 [(false,[.slice 80])] true (fun xs=>((cg (xs.getD 0 []) 0).toSl.map ajl)) (fun a=>[[.slice (List.map aj1 a)]]) (fun a=>cjz n a) (fun r=>[.c (.arr 159) (.slice (List.map ak0 r))]) (fun r=>[])
theorem ezr (n:Nat):aj2 je (dz5 n):=by
 have hΓ:=g1 (bk3 n) (@g0 (aj2 je))
 refine ajb (Tryz.f130.body.getD .skip) h00 Tryz.func130 rfl Tryz.call130 (by decide) (by intro h;cases h) ?_
 rintro l r H
 try dsimp only at H
 unfold cjz at H
 simp only [Tryz.f130,jt]
 refine sX fun K1 hK1=>?_
 refine oY ?_
 refine hK1 _ ?_
 refine sX fun K2 hK2=>?_
 refine oY ?_
 refine hK2 _ ?_
 obtain ⟨r1,hr1,H⟩:=bind_some H
 have q:=aI @bqd.eq_1 hr1
 refine rAq ?_
 refine j4 (fun (x:(List Bool)×(List Bool))=>dko x.1 x.2) (fun x=>byt n x.1 x.2=some r) ?_ ?_
 ·refine rA ?_
  refine jC ?_
  obtain ⟨y8,hy8,Ho8⟩:=bind_some H
  refine j3 _ (fun x=>dkn (azv 512 false) r1.1 x.1 x.2) hy8 (wb [some 32,some 48,some 144]) ?_
  rintro ⟨out_1,i⟩ z8 H
  try dsimp only at H
  unfold bjv at H
  refine Sm.st (dkn.eq_1 ..) ?_
  refine jr fun K9 hK9=>?_
  refine rA ?_
  refine cnd H (fun h11 H=>?_) (fun h11 H=>?_)
  ·refine jq ?_
   refine hK9 _ ?_
   refine jr fun K12 hK12=>?_
   refine jC ?_
   obtain ⟨⟨hg13,hg14,hg15,hg16⟩,H⟩:=aj7 H
   refine eA ?_
   refine hK12 _ ?_
   refine eA ?_
   refine lf ?_
   exact nx H (wb [some 9005,some 9006,some 9007])
  refine Jb ?_
  refine lf ?_
  refine lx H fun hyy=>?_
  subst hyy
  have H:=Ho8
  try dsimp only at H
  refine lf ?_
  exact ⟨((azv 512 false),out_1),H,wb [some 9005,some 9006]⟩
 rintro ⟨v2,out⟩ H
 try dsimp only at H
 unfold byt at H
 refine Sm.st (dko.eq_1 ..) ?_
 refine sX fun K4 hK4=>?_
 obtain ⟨⟨hg5,hg6⟩,H⟩:=aj7 H
 iterate 2 refine oY ?_
 refine hK4 _ ?_
 refine js ?_
 refine lf ?_
 obtain ⟨hga,H⟩:=aj7 H
 obtain rfl:=Option.some.inj H
 refine Ret.ofR [] (.inr rfl) ?_
 simp only [z,seval]
 (repeat (first | refine gcI ?_ | trivial));try trivial
abbrev czr (out:List aj0):S:=stB [(3,.own 9000 [.int .i64,.int .i64] 0 out.length)] [(9000,.row 80 (List.map aj1 out))]
def bqg (n:Nat) (out:List aj0):Option (List aj0) :=
 some out
abbrev czv (in_:List Bool) (out_2:List aj0) (k:Int):S:=stB [(1,.elt 9006 1 [.bool] 0 0),(3,.own 9007 [.int .i64,.int .i64] 0 out_2.length),(4,.c (.int .i64) (.int k))] [(9006,.row 4 (List.map ak0 in_)),(9007,.row 80 (List.map aj1 out_2))]
def azm (n:Nat) (in_:List Bool) (out_2:List aj0) (k:Int):Option (((List aj0)×Int) ⊕ (((List aj0)))) :=
 some (.inl (out_2,(jd .i64 (k+1))))
abbrev cwk (in_:List Bool) (out_1:List aj0) (k:Int):S:=stB [(1,.elt 9004 1 [.bool] 0 0),(3,.own 9005 [.int .i64,.int .i64] 0 out_1.length),(4,.c (.int .i64) (.int k))] [(9004,.row 4 (List.map ak0 in_)),(9005,.row 80 (List.map aj1 out_1))]
def azq (n:Nat) (in_:List Bool) (out_1:List aj0) (k:Int):Option (((List aj0)×Int) ⊕ (((List aj0)))) :=
 bif (decide (k < 512)) then
  gd ((0≤k∧k < 512∧in_.length=512)∧(Int.toNat k) < in_.length) <|
  bif (!(gt in_ (Int.toNat k))) then
   azm n in_ out_1 k
  else
   gd (((decide (((out_1.length:Nat):Int) > 0))=true→(0≤(jd .i64 (((out_1.length:Nat):Int) - 1))∧(jd .i64 (((out_1.length:Nat):Int) - 1)) < (out_1.length:Int)))∧((decide (((out_1.length:Nat):Int) > 0))=true→(Int.toNat (jd .i64 (((out_1.length:Nat):Int) - 1))) < out_1.length)∧((decide (((out_1.length:Nat):Int) > 0))=true→(0≤(jd .i64 (((out_1.length:Nat):Int) - 1))∧(jd .i64 (((out_1.length:Nat):Int) - 1)) < (out_1.length:Int)))∧((decide (((out_1.length:Nat):Int) > 0))=true→(Int.toNat (jd .i64 (((out_1.length:Nat):Int) - 1))) < out_1.length)) <|
   bif (if (decide (((out_1.length:Nat):Int) > 0))=true then ((jd .i64 (((gt out_1 (Int.toNat (jd .i64 (((out_1.length:Nat):Int) - 1)))).At)+((gt out_1 (Int.toNat (jd .i64 (((out_1.length:Nat):Int) - 1)))).Len))) == k) else false) then
    gd ((0≤(jd .i64 (((out_1.length:Nat):Int) - 1))∧(jd .i64 (((out_1.length:Nat):Int) - 1)) < (out_1.length:Int))∧(Int.toNat (jd .i64 (((out_1.length:Nat):Int) - 1))) < out_1.length∧(0≤(jd .i64 (((out_1.length:Nat):Int) - 1))∧(jd .i64 (((out_1.length:Nat):Int) - 1)) < (out_1.length:Int))∧(Int.toNat (jd .i64 (((out_1.length:Nat):Int) - 1))) < out_1.length) <|
    azm n in_ (List.set out_1 (Int.toNat (jd .i64 (((out_1.length:Nat):Int) - 1))) (⟨(gt out_1 (Int.toNat (jd .i64 (((out_1.length:Nat):Int) - 1)))).At,(jd .i64 (((gt out_1 (Int.toNat (jd .i64 (((out_1.length:Nat):Int) - 1)))).Len)+1))⟩:aj0)) k
   else
    gd ((out_1.length+1)≤2147483648) <|
    azm n in_ (out_1 ++ [(⟨k,1⟩:aj0)]) k
 else
  some (.inr out_1)
def bjt (n:Nat) (in_:List Bool):Option (List aj0) :=
 (ajk (fun (x:(List aj0)×Int)=>azq n in_ x.1 x.2) n ([],0)).bind fun y5 =>
 bqg n y5
def cql (n:Nat):Go.AE.Fn:=mkFn (A:=(List Bool)) (R:=(List aj0)) 131 [(false,[.arr 159])] false (fun xs=>((cg (xs.getD 0 []) 0).toSl.map fqm)) (fun a=>[[.slice (List.map ak0 a)]]) (fun a=>bjt n a) (fun r=>[.own 0 [.int .i64,.int .i64] 0 r.length]) (fun r=>[.row 80 (List.map aj1 r)])
theorem dqb (n:Nat):aj2 je (cql n):=by
 have hΓ:=@g0 (aj2 je)
 refine ajb (Tryz.f131.body.getD .skip) h00 Tryz.func131 rfl Tryz.call131 (by decide) (fun _ r=>⟨rfl,m1 ⟨80,_,_,rfl,ty80,rfl⟩ m0⟩) ?_
 rintro in_ r H
 try dsimp only at H
 unfold bjt at H
 simp only [Tryz.f131,jt]
 refine sX fun K1 hK1=>?_
 refine oY ?_
 refine oX ?_
 refine hK1 _ ?_
 refine rA ?_
 refine j4 (fun (x:(List aj0))=>czr x) (fun x=>bqg n x=some r) ?_ ?_
 ·refine rA ?_
  refine jC ?_
  obtain ⟨y5,hy5,Ho5⟩:=bind_some H
  refine j3 _ (fun x=>cwk in_ x.1 x.2) hy5 (wb [some 16,none]) ?_
  rintro ⟨out_1,k⟩ z5 H
  try dsimp only at H
  unfold azq at H
  refine Sm.st (cwk.eq_1 ..) ?_
  refine jr fun K6 hK6=>?_
  refine rA ?_
  refine cnd H (fun h8 H=>?_) (fun h8 H=>?_)
  ·refine jq ?_
   refine hK6 _ ?_
   refine j4 (fun (x:(List aj0))=>czv in_ x k) (fun x=>azm n in_ x k=some z5) ?_ ?_
   ·refine jC ?_
    refine jr fun K9 hK9=>?_
    obtain ⟨⟨hg24,hg25⟩,H⟩:=aj7 H
    refine rA ?_
    refine cnd H (fun h11 H=>?_) (fun h11 H=>?_)
    ·refine Jb ?_
     refine lf ?_
     exact ⟨_,H,wb [some 9004,some 9005]⟩
    refine jq ?_
    refine hK9 _ ?_
    refine rA ?_
    obtain ⟨⟨hg20,hg21,hg22,hg23⟩,H⟩:=aj7 H
    refine rD ?_
    refine cnd H (fun h14 H=>?_) (fun h14 H=>?_)
    ·obtain ⟨⟨hg15,hg16,hg17,hg18⟩,H⟩:=aj7 H
     refine eA ?_
     refine lf ?_
     exact ⟨_,H,wb [some 9004,some 9005]⟩
    obtain ⟨hg19,H⟩:=aj7 H
    refine eA ?_
    refine lf ?_
    exact ⟨_,H,wb [some 9004,some 768]⟩
   rintro out_2 H
   try dsimp only at H
   unfold azm at H
   refine Sm.st (czv.eq_1 ..) ?_
   refine eA ?_
   refine lf ?_
   exact nx H (wb [some 9006,some 9007])
  refine Jb ?_
  refine lf ?_
  refine lx H fun hyy=>?_
  subst hyy
  have H:=Ho5
  try dsimp only at H
  refine lf ?_
  exact ⟨_,H,wb [some 9005]⟩
 rintro out H
 try dsimp only at H
 unfold bqg at H
 refine Sm.st (czr.eq_1 ..) ?_
 refine rA ?_
 refine js ?_
 refine lf ?_
 obtain rfl:=Option.some.inj H
 exact rto [some 9000]
abbrev dqw (out:List Bool):S:=stB [(6,.elt 9000 1 [.bool] 0 0)] [(9000,.row 4 (List.map ak0 out))]
def bkd (n:Nat) (out:List Bool):Option (List aj0) :=
 gd (out.length=512) <|
 (bjt n out).bind fun r3 =>
 some r3
abbrev dwb (n_:Int) (in_:List Bool) (out_1:List Bool) (k:Int):S:=stB [(1,.c (.int .i64) (.int n_)),(5,.elt 9003 1 [.bool] 0 0),(6,.elt 9004 1 [.bool] 0 0),(7,.c (.int .i64) (.int k))] [(9003,.row 4 (List.map ak0 in_)),(9004,.row 4 (List.map ak0 out_1))]
def ayo (n:Nat) (n_:Int) (in_:List Bool) (out_1:List Bool) (k:Int):Option (((List Bool)×Int) ⊕ (((List Bool)))) :=
 bif (decide (k < n_)) then
  gd ((0≤k∧k < 512∧in_.length=512)∧(Int.toNat k) < in_.length∧(0≤k∧k < 512∧out_1.length=512)∧(Int.toNat k) < out_1.length) <|
  some (.inl ((List.set out_1 (Int.toNat k) (!(gt in_ (Int.toNat k)))),(jd .i64 (k+1))))
 else
  some (.inr out_1)
def bq4 (n:Nat) (used:List aj0) (n_:Int):Option (List aj0) :=
 (awq n used).bind fun r1 =>
 bif (if (if (!r1)=true then true else (decide (n_ < 0)))=true then true else (decide (n_ > 512))) then
  some []
 else
  (cjz n used).bind fun r2 =>
  gd (512=512) <|
  (ajk (fun (x:(List Bool)×Int)=>ayo n n_ r2 x.1 x.2) n ((azv 512 false),0)).bind fun y12 =>
  bkd n y12
def ejk (n:Nat):Go.AE.Fn:=mkFn (A:=(List aj0)×Int) (R:=(List aj0)) 77 [(false,[.slice 80]),(false,[.int .i64])] false (fun xs=>(((cg (xs.getD 0 []) 0).toSl.map ajl),(cg (xs.getD 1 []) 0).toInt)) (fun a=>[[.slice (List.map aj1 a.1)],[.int a.2]]) (fun a=>bq4 n a.1 a.2) (fun r=>[.own 0 [.int .i64,.int .i64] 0 r.length]) (fun r=>[.row 80 (List.map aj1 r)])
theorem fwz (n:Nat):aj2 je (ejk n):=by
 have hΓ:=g1 (byk n) (g1 (ezr n) (g1 (dqb n) (@g0 (aj2 je))))
 have qe:=aI @bzf.eq_1 (aI @dz5.eq_1 @cql.eq_1)
 refine ajb (Tryz.f77.body.getD .skip) h00 Tryz.func77 rfl Tryz.call77 (by decide) (fun _ r=>⟨rfl,m1 ⟨80,_,_,rfl,ty80,rfl⟩ m0⟩) ?_
 rintro ⟨used,n_⟩ r H
 try dsimp only at H
 unfold bq4 at H
 simp only [Tryz.f77,jt]
 refine rA ?_
 refine jr fun K2 hK2=>?_
 obtain ⟨r1,hr1,H⟩:=bind_some H
 have q:=aI qe hr1
 refine rAq ?_
 refine cnd H (fun h4 H=>?_) (fun h4 H=>?_)
 ·refine rA ?_
  refine js ?_
  refine lf ?_
  obtain rfl:=Option.some.inj H
  exact rto [none]
 refine jq ?_
 refine hK2 _ ?_
 refine sX fun K6 hK6=>?_
 obtain ⟨r2,hr2,H⟩:=bind_some H
 obtain ⟨hg7,H⟩:=aj7 H
 have q:=aI qe hr2
 iterate 2 refine oXq ?_
 iterate 2 refine oYq ?_
 refine hK6 _ ?_
 refine sX fun K8 hK8=>?_
 refine oY ?_
 refine hK8 _ ?_
 refine j4 (fun (x:(List Bool))=>dqw x) (fun x=>bkd n x=some r) ?_ ?_
 ·refine rA ?_
  refine jC ?_
  obtain ⟨y12,hy12,Ho12⟩:=bind_some H
  refine j3 _ (fun x=>dwb n_ r2 x.1 x.2) hy12 (wb [some 80,some 96]) ?_
  rintro ⟨out_1,k⟩ z12 H
  try dsimp only at H
  unfold ayo at H
  refine Sm.st (dwb.eq_1 ..) ?_
  refine jr fun K13 hK13=>?_
  refine rA ?_
  refine cnd H (fun h15 H=>?_) (fun h15 H=>?_)
  ·refine jq ?_
   refine hK13 _ ?_
   refine jr fun K16 hK16=>?_
   refine jC ?_
   obtain ⟨⟨hg17,hg18,hg19,hg20⟩,H⟩:=aj7 H
   refine eA ?_
   refine hK16 _ ?_
   refine eA ?_
   refine lf ?_
   exact nx H (wb [some 9003,some 9004])
  refine Jb ?_
  refine lf ?_
  refine lx H fun hyy=>?_
  subst hyy
  have H:=Ho12
  try dsimp only at H
  refine lf ?_
  exact ⟨_,H,wb [some 9004]⟩
 rintro out H
 try dsimp only at H
 unfold bkd at H
 refine Sm.st (dqw.eq_1 ..) ?_
 refine sX fun K9 hK9=>?_
 obtain ⟨hg10,H⟩:=aj7 H
 obtain ⟨r3,hr3,H⟩:=bind_some H
 have q:=aI qe hr3
 refine oYq ?_
 iterate 2 refine oXq ?_
 refine hK9 _ ?_
 refine js ?_
 refine lf ?_
 obtain rfl:=Option.some.inj H
 exact rto [some 528]
def bkm (n:Nat) (v:aj5):Option (List aj0) :=
 (bjq n v).bind fun r1 =>
 bif (!r1) then
  some []
 else
  (cjo n v).bind fun r2 =>
  gd ((r2.length+1)≤2147483648) <|
  (bq4 n (r2 ++ [(⟨0,(jd .i64 (v.Size+1))⟩:aj0)]) (jd .i64 (v.Cyls * v.Heads))).bind fun r3 =>
  some r3
def cyx (n:Nat):Go.AE.Fn:=mkFn (A:=aj5) (R:=(List aj0)) 35 [(true,[.str,.int .i64,.int .i64,.int .i64,.slice 41])] false (fun xs=>(⟨(cg (xs.getD 0 []) 0).toStr,(cg (xs.getD 0 []) 1).toInt,(cg (xs.getD 0 []) 2).toInt,(cg (xs.getD 0 []) 3).toInt,((cg (xs.getD 0 []) 4).toSl.map aq3)⟩:aj5)) (fun a=>[[.str a.Serial,.int a.Cyls,.int a.Heads,.int a.Size,.slice (List.map aj3 a.Sets)]]) (fun a=>bkm n a) (fun r=>[.own 0 [.int .i64,.int .i64] 0 r.length]) (fun r=>[.row 80 (List.map aj1 r)])
theorem eja (n:Nat):aj2 je (cyx n):=by
 have hΓ:=g1 (cwy n) (g1 (ewx n) (g1 (fwz n) (@g0 (aj2 je))))
 have qe:=aI @byu.eq_1 (aI @dz2.eq_1 @ejk.eq_1)
 refine ajb (Tryz.f35.body.getD .skip) h00 Tryz.func35 rfl Tryz.call35 (by decide) (fun _ r=>⟨rfl,m1 ⟨80,_,_,rfl,ty80,rfl⟩ m0⟩) ?_
 rintro v r H
 try dsimp only at H
 unfold bkm at H
 simp only [Tryz.f35,jt]
 refine rA ?_
 refine jr fun K2 hK2=>?_
 obtain ⟨r1,hr1,H⟩:=bind_some H
 have q:=aI qe hr1
 refine rAq ?_
 refine cnd H (fun h4 H=>?_) (fun h4 H=>?_)
 ·refine rA ?_
  refine js ?_
  refine lf ?_
  obtain rfl:=Option.some.inj H
  exact rto [none]
 refine jq ?_
 refine hK2 _ ?_
 obtain ⟨r2,hr2,H⟩:=bind_some H
 obtain ⟨hg7,H⟩:=aj7 H
 obtain ⟨r3,hr3,H⟩:=bind_some H
 refine sQ [0,1,2,3,4,5,6,7,8,9,10,11,12,13,14] [(none,[16],[]),(none,[],[127,126,125,124,123,122,121,120,119,118,117,116,115,114,113,112]),(none,[16],[]),(none,[16],[]),(none,[],[]),(none,[],[]),(none,[],[192]),(none,[112,192],[208,112]),(none,[16],[]),(none,[16],[]),(none,[16],[]),(none,[16],[]),(none,[],[]),(none,[208],[319,318,317,316,315,314,313,312,311,310,309,308,307,306,305,304,208]),(none,[],[])] fun K6 hK6=>?_
 have q:=aI qe (aI hr2 hr3)
 iterate 15 refine oQq ?_
 refine ckg ?_
 refine hK6 _ ?_
 refine js ?_
 refine lf ?_
 obtain rfl:=Option.some.inj H
 exact rto [some 304]
end Go.Proofs.YtijnkhcfondehaaGreatDoor
