/- Text. -/
import Derived.Test.YtijnkhcfondehaaGreatDoorT
import Derived.Test.YtijnkhcfondehaaGreatDoorL204
import Derived.Test.YtijnkhcfondehaaGreatDoorN2
import Derived.Test.YtijnkhcfondehaaGreatDoorJ
set_option maxHeartbeats 8000000
set_option linter.unusedVariables false
set_option linter.unusedSimpArgs false
set_option maxRecDepth 100000
open _root_.Bool renaming not_false→Ji,not_true→jT,false_eq_true→jn
open Go.IntKind renaming wrap→jb,bits→jj
open _root_.Nat renaming le_of_ble_eq_true→jp
open _root_.Option renaming getD→jz
open Go.AE.Sm renaming ret→jC,seqK→js,skip→jy,cut→Jp,block→jN,loopB→Jl,exit→Js
open Go.Proofs.Tryz renaming prog→jd
namespace Go.Proofs.YtijnkhcfondehaaGreatDoor
open Go.AE
def aq6 (n:Nat) (n_:Int) (lo:Int) (hi:Int):Option Bool :=
 some (if (decide (lo≤n_))=true then (decide (n_≤hi)) else false)
def cky (n:Nat):Go.AE.Fn:=mkFn (A:=Int×Int×Int) (R:=Bool) 67 [(false,[.int .i64]),(false,[.int .i64]),(false,[.int .i64])] false (fun xs=>((cg (xs.getD 0 []) 0).toInt,(cg (xs.getD 1 []) 0).toInt,(cg (xs.getD 2 []) 0).toInt)) (fun a=>[[.int a.1],[.int a.2.1],[.int a.2.2]]) (fun a=>aq6 n a.1 a.2.1 a.2.2) (fun r=>[.c .bool (.bool r)]) (fun r=>[])
theorem dz6 (n:Nat):aj1 jd (cky n):=by
 have hΓ:=@g0 (aj1 jd);refine cF (Tryz.f67.body.getD .skip) Tryz.func67 rfl Tryz.call67 ?_;rintro ⟨n_,lo,hi⟩ r H
 try dsimp only at H
 unfold aq6 at H;simp only [Tryz.f67,jz];refine rA ?_;refine rA ?_;refine jC (lf ?_);obtain rfl:=sI H;exact rt []
abbrev dwd:S:=stB [] []
def cqo (n:Nat):Option Bool :=
 some true
abbrev dqu (v9:List (List UInt8)) (v10:Int) (v11:Int):S:=stB [(9,.own 9001 [.str] 0 v9.length),(10,.c (.int .i64) (.int v10)),(11,.c (.int .i64) (.int v11))] [(9001,.row 9 (List.map dj7 v9))]
def bwc (n:Nat) (v9:List (List UInt8)) (v10:Int) (v11:Int):Option ((Int) ⊕ (((Bool) ⊕ (Unit)))) :=
 bif (decide (v11 < v10)) then
  gd ((0≤v11∧v11 < (v9.length:Int))∧(Int.toNat v11) < v9.length) <|
  gd (((!(if (decide (((gt v9 (Int.toNat v11)).length:Int) < 1))=true then true else (decide (((gt v9 (Int.toNat v11)).length:Int) > 8))))=true→0 < ((gt v9 (Int.toNat v11)).length:Int))∧(((!(if (decide (((gt v9 (Int.toNat v11)).length:Int) < 1))=true then true else (decide (((gt v9 (Int.toNat v11)).length:Int) > 8)))) && (decide (((((gt v9 (Int.toNat v11)).getD 0 0).toNat:Nat):Int) ≥ 48)))=true→0 < ((gt v9 (Int.toNat v11)).length:Int))) <|
  bif (if (if (decide (((gt v9 (Int.toNat v11)).length:Int) < 1))=true then true else (decide (((gt v9 (Int.toNat v11)).length:Int) > 8)))=true then true else (if (decide (((((gt v9 (Int.toNat v11)).getD 0 0).toNat:Nat):Int) ≥ 48))=true then (decide (((((gt v9 (Int.toNat v11)).getD 0 0).toNat:Nat):Int)≤57)) else false)) then
   some (.inr (.inl false))
  else
   (aqt n (gt v9 (Int.toNat v11)) [65,66,67,68,69,70,71,72,73,74,75,76,77,78,79,80,81,82,83,84,85,86,87,88,89,90,48,49,50,51,52,53,54,55,56,57,64,35,36]).bind fun r2 =>
   bif (r2 != []) then
    some (.inr (.inl false))
   else
    some (.inl (jb .i64 (v11+1)))
 else
  some (.inr (.inr ()))
def bk2 (n:Nat) (s:List UInt8):Option Bool :=
 bif (decide ((s.length:Int) > 44)) then
  some false
 else
  (strings_Split n s [46]).bind fun r1 =>
  (ajo (fun (x:Int)=>bwc n r1 ((r1.length:Nat):Int) x) n 0).bind fun y8 =>
  match y8 with
  | .inl vv =>
   some vv
  | .inr vv =>
   cqo n
def cws (n:Nat):Go.AE.Fn:=mkFn (A:=(List UInt8)) (R:=Bool) 17 [(false,[.str])] false (fun xs=>(cg (xs.getD 0 []) 0).toStr) (fun a=>[[.str a]]) (fun a=>bk2 n a) (fun r=>[.c .bool (.bool r)]) (fun r=>[])
theorem dq5 (n:Nat):aj1 jd (cws n):=by
 have hΓ:=g1 (dyj n) (g1 (cy4 n) (@g0 (aj1 jd)));have qe:=aI @bw1.eq_1 @ayd.eq_1;refine cF (Tryz.f17.body.getD .skip) Tryz.func17 rfl Tryz.call17 ?_;rintro s r H
 try dsimp only at H
 unfold bk2 at H;simp only [Tryz.f17,jz];refine rA ?_;refine js fun K2 hK2=>?_;refine rA ?_;refine cnd H (fun h4 H=>?_) (fun h4 H=>?_)
 ·refine rA ?_;refine jC (lf ?_);obtain rfl:=sI H;exact rt []
 refine jy (hK2 _ ?_);refine Jp (fun (x:Unit)=>dwd) (fun x=>cqo n=some r) ?_ ?_
 ·obtain ⟨r1,hr1,H⟩:=bind_some H;have q:=aI qe hr1;refine rAq ?_;refine jN ?_;obtain ⟨y8,hy8,Ho8⟩:=bind_some H;refine Jl _ (fun x=>dqu r1 ((r1.length:Nat):Int) x) hy8 (wb [some 144]) ?_;rintro v11 z8 H
  try dsimp only at H
  unfold bwc at H;refine Sm.st (dqu.eq_1 ..) ?_;refine rA ?_;refine js fun K10 hK10=>?_;refine cnd H (fun h11 H=>?_) (fun h11 H=>?_)
  ·refine jy (hK10 _ (js fun K12 hK12=>jN ?_));obtain ⟨⟨hg23,hg24⟩,H⟩:=aj8 H;refine rA ?_;refine js fun K14 hK14=>?_;obtain ⟨⟨hg21,hg22⟩,H⟩:=aj8 H;refine rA ?_;refine cnd H (fun h16 H=>?_) (fun h16 H=>?_)
   ·refine rA ?_;refine jC (lf ?_);refine lx H fun hyy=>?_;subst hyy;have H:=Ho8
    try dsimp only at H
    refine lf ?_;obtain rfl:=sI H;exact rt []
   refine jy (hK14 _ ?_);obtain ⟨r2,hr2,H⟩:=bind_some H;have q:=aI qe hr2;refine rAq ?_;refine cnd H (fun h19 H=>?_) (fun h19 H=>?_)
   ·refine rA ?_;refine jC (lf ?_);refine lx H fun hyy=>?_;subst hyy;have H:=Ho8
    try dsimp only at H
    refine lf ?_;obtain rfl:=sI H;exact rt []
   refine jy (hK12 _ ?_);refine eA ?_;refine lf ?_;exact nx H (wb [some 9001])
  refine Js (lf ?_);refine lx H fun hyy=>?_;subst hyy;have H:=Ho8
  try dsimp only at H
  refine lf ?_;exact ⟨(),H,wb []⟩
 rintro ⟨⟩ H
 try dsimp only at H
 unfold cqo at H;refine Sm.st (dwd.eq_1 ..) ?_;refine rA ?_;refine jC (lf ?_);obtain rfl:=sI H;exact rt []
def aqn (n:Nat) (d:TDcb):Option Bool :=
 (aq6 n d.Org 1 3).bind fun r1 =>
 gd ((r1=true→(aq6 n d.Format 1 3).isSome=true)∧((if r1=true then ((aq6 n d.Format 1 3).getD default) else false)=true→(aq6 n d.Lrecl 0 1024).isSome=true)∧((if (if r1=true then ((aq6 n d.Format 1 3).getD default) else false)=true then ((aq6 n d.Lrecl 0 1024).getD default) else false)=true→(aq6 n d.Blksize 0 1024).isSome=true)∧((if (if (if r1=true then ((aq6 n d.Format 1 3).getD default) else false)=true then ((aq6 n d.Lrecl 0 1024).getD default) else false)=true then ((aq6 n d.Blksize 0 1024).getD default) else false)=true→(aq6 n d.KeyPos 0 1024).isSome=true)∧((if (if (if (if r1=true then ((aq6 n d.Format 1 3).getD default) else false)=true then ((aq6 n d.Lrecl 0 1024).getD default) else false)=true then ((aq6 n d.Blksize 0 1024).getD default) else false)=true then ((aq6 n d.KeyPos 0 1024).getD default) else false)=true→(aq6 n d.KeyLen 0 64).isSome=true)) <|
 some (if (if (if (if (if r1=true then ((aq6 n d.Format 1 3).getD default) else false)=true then ((aq6 n d.Lrecl 0 1024).getD default) else false)=true then ((aq6 n d.Blksize 0 1024).getD default) else false)=true then ((aq6 n d.KeyPos 0 1024).getD default) else false)=true then ((aq6 n d.KeyLen 0 64).getD default) else false)
def bq7 (n:Nat):Go.AE.Fn:=mkFn (A:=TDcb) (R:=Bool) 84 [(true,[.int .i64,.int .i64,.bool,.bool,.int .i64,.int .i64,.int .i64,.int .i64])] false (fun xs=>(⟨(cg (xs.getD 0 []) 0).toInt,(cg (xs.getD 0 []) 1).toInt,(cg (xs.getD 0 []) 2).toBool,(cg (xs.getD 0 []) 3).toBool,(cg (xs.getD 0 []) 4).toInt,(cg (xs.getD 0 []) 5).toInt,(cg (xs.getD 0 []) 6).toInt,(cg (xs.getD 0 []) 7).toInt⟩:TDcb)) (fun a=>[[.int a.Org,.int a.Format,.bool a.Blocked,.bool a.Asa,.int a.Lrecl,.int a.Blksize,.int a.KeyLen,.int a.KeyPos]]) (fun a=>aqn n a) (fun r=>[.c .bool (.bool r)]) (fun r=>[])
theorem bk3 (n:Nat):aj1 jd (bq7 n):=by
 have hΓ:=g1 (dz6 n) (@g0 (aj1 jd));refine cF (Tryz.f84.body.getD .skip) Tryz.func84 rfl Tryz.call84 ?_;rintro d r H
 try dsimp only at H
 unfold aqn at H;simp only [Tryz.f84,jz];refine rA ?_;obtain ⟨r1,hr1,H⟩:=bind_some H;obtain ⟨⟨hg3,hg4,hg5,hg6,hg7⟩,H⟩:=aj8 H;have q:=aI @cky.eq_1 hr1;refine rAq ?_;refine jC (lf ?_);obtain rfl:=sI H;exact rt []
def bjq (n:Nat) (x_:aj0):Option Bool :=
 some (if (if (if (decide (x_.At ≥ 0))=true then (decide (x_.Len ≥ 1)) else false)=true then (decide (x_.At < 512)) else false)=true then (decide (x_.Len≤(jb .i64 (512 - x_.At)))) else false)
def cj2 (n:Nat):Go.AE.Fn:=mkFn (A:=aj0) (R:=Bool) 125 [(true,[.int .i64,.int .i64])] false (fun xs=>(⟨(cg (xs.getD 0 []) 0).toInt,(cg (xs.getD 0 []) 1).toInt⟩:aj0)) (fun a=>[[.int a.At,.int a.Len]]) (fun a=>bjq n a) (fun r=>[.c .bool (.bool r)]) (fun r=>[])
theorem cyd (n:Nat):aj1 jd (cj2 n):=by
 have hΓ:=@g0 (aj1 jd);refine cF (Tryz.f125.body.getD .skip) Tryz.func125 rfl Tryz.call125 ?_;rintro x_ r H
 try dsimp only at H
 unfold bjq at H;simp only [Tryz.f125,jz];refine rA ?_;refine rA ?_;refine jC (lf ?_);obtain rfl:=sI H;exact rt []
def az1 (n:Nat) (s:List aj0):Option (List aj0) :=
 uniB s fun nb1 =>
 bif nb1 then
  some []
 else
  gd (s.length≤2147483648) <|
  some s
def awl (n:Nat):Go.AE.Fn:=mkFn (A:=(List aj0)) (R:=(List aj0)) 118 [(false,[.slice 80])] false (fun xs=>((cg (xs.getD 0 []) 0).toSl.map aqm)) (fun a=>[[.slice (List.map aj2 a)]]) (fun a=>az1 n a) (fun r=>[.own 0 [.int .i64,.int .i64] 0 r.length]) (fun r=>[.row 80 (List.map aj2 r)])
theorem aku (n:Nat):aj1 jd (awl n):=by
 have hΓ:=@g0 (aj1 jd);refine ajb (Tryz.f118.body.getD .skip) h00 Tryz.func118 rfl Tryz.call118 (by decide) (fun _ r=>⟨rfl,m1 ⟨80,_,_,rfl,ty80,rfl⟩ m0⟩) ?_;rintro s r H
 try dsimp only at H
 unfold az1 at H;simp only [Tryz.f118,jz];refine rA ?_;refine js fun K2 hK2=>?_;refine sX fun K3 hK3=>?_;refine oX ?_;refine opsN fun K hK=>?_;simp only [z,seval];(repeat (first | refine gcI ?_ | refine fun (_:_≤_)=>?_));intro nb1 hnb1;refine hK _ ?_;clear hK K
 replace H:=gzl H nb1 (fun hb=>by simpa using hnb1 hb)
 refine hK3 _ ?_;refine cnd H (fun h4 H=>?_) (fun h4 H=>?_)
 ·refine rA ?_;refine jC (lf ?_);obtain rfl:=sI H;exact rto [none]
 refine jy (hK2 _ ?_);obtain ⟨hg7,H⟩:=aj8 H;refine rA ?_;refine jC (lf ?_);obtain rfl:=sI H;exact rto [some 112]
def bw0 (n:Nat) (x_:Int):Option Bool :=
 some (x_ != x_)
def bwx (n:Nat) (x_:Int) (y:Int):Option Int :=
 (bw0 n x_).bind fun r1 =>
 (bw0 n y).bind fun r2 =>
 bif r1 then
  bif r2 then
   some 0
  else
   some (-1)
 else
  bif r2 then
   some 1
  else
   bif (decide (x_ < y)) then
    some (-1)
   else
    bif (decide (x_ > y)) then
     some 1
    else
     some 0
def azz (n:Nat) (a:aj0) (b:aj0):Option Int :=
 (bwx n a.At b.At).bind fun r1 =>
 some r1
def azp (n:Nat) (s:List aj0):Option (List aj0):=fj3 (fun x y=>azz n x y) s
theorem bk7 (n:Nat) (s:List aj0) (r:List aj0) (H:azp n s=some r):aw8 jd 164 [.ref (.own 0 [.int .i64,.int .i64] 0 s.length),.ref (.fnv 165 [])] [.row 80 (List.map aj2 s)] [] [.row 80 (List.map aj2 r)] :=
 dw1 ijk ty80 Tryz.isAgg80 Tryz.sizeOf80 (by decide) (by decide) (by intro args w;exact Tryz.call165 args w) aj2 (fun _=>rfl) (fun x y=>azz n x y) (fun x y c h=>hyn _ _ _ _ _ (by
  simp only [azz,bwx,bw0,Option.bind_some,bne_self_eq_false,cond_false,gt_iff_lt] at h
  by_cases h1:x.At < y.At <;> by_cases h2:y.At < x.At <;> simp [h1,h2] at h ⊢ <;> first | exact h.symm | omega)) s r H
def aym (n:Nat) (l:List aj0):Option (List aj0) :=
 (az1 n l).bind fun r1 =>
 (azp n r1).bind fun r2 =>
 some (List.take r1.length r2)
def bkr (n:Nat):Go.AE.Fn:=mkFn (A:=(List aj0)) (R:=(List aj0)) 126 [(false,[.slice 80])] true (fun xs=>((cg (xs.getD 0 []) 0).toSl.map aqm)) (fun a=>[[.slice (List.map aj2 a)]]) (fun a=>aym n a) (fun r=>[.c (.slice 80) (.slice (List.map aj2 r))]) (fun r=>[])
theorem cz4 (n:Nat):aj1 jd (bkr n):=by
 have hΓ:=g1 (aku n) (@g0 (aj1 jd));refine ajb (Tryz.f126.body.getD .skip) h00 Tryz.func126 rfl Tryz.call126 (by decide) (by intro h;cases h) ?_;rintro l r H
 try dsimp only at H
 unfold aym at H;simp only [Tryz.f126,jz];refine rA ?_;obtain ⟨r1,hr1,H⟩:=bind_some H;have q:=aI @awl.eq_1 hr1;refine rAq ?_;refine sX fun K3 hK3=>?_;obtain ⟨r2,hr2,H⟩:=bind_some H;have q:=hr2;refine oX ?_;refine oMq (bk7 n _ r2 hr2) [80] [] ?_;refine hK3 _ ?_;refine rA ?_;refine jC (lf ?_);obtain rfl:=sI H;exact rt []
abbrev cqm:S:=stB [] []
def bq0 (n:Nat):Option Bool :=
 some true
abbrev cqn (s:List aj0) (i:Int):S:=stB [(5,.c (.slice 80) (.slice (List.map aj2 s))),(6,.c (.int .i64) (.int i))] []
def ak3 (n:Nat) (s:List aj0) (i:Int):Option ((Int) ⊕ (((Bool) ⊕ (Unit)))) :=
 bif (decide (i < (s.length:Int))) then
  gd ((0≤i∧i < (s.length:Int))∧(0≤(jb .i64 (i - 1))∧(jb .i64 (i - 1)) < (s.length:Int))∧(0≤(jb .i64 (i - 1))∧(jb .i64 (i - 1)) < (s.length:Int))) <|
  bif (decide (((gt s (Int.toNat i)).At) < (jb .i64 (((gt s (Int.toNat (jb .i64 (i - 1)))).At)+((gt s (Int.toNat (jb .i64 (i - 1)))).Len))))) then
   some (.inr (.inl false))
  else
   some (.inl (jb .i64 (i+1)))
 else
  some (.inr (.inr ()))
abbrev cql (l:List aj0):S:=stB [(0,.c (.slice 80) (.slice (List.map aj2 l)))] []
def bjx (n:Nat) (l:List aj0):Option Bool :=
 (aym n l).bind fun r1 =>
 (ajo (fun (x:Int)=>ak3 n r1 x) n 1).bind fun y9 =>
 match y9 with
 | .inl vv =>
  some vv
 | .inr vv =>
  bq0 n
abbrev cw5 (l:List aj0) (v11:Int) (v12:Int):S:=stB [(0,.c (.slice 80) (.slice (List.map aj2 l))),(10,.c (.slice 80) (.slice (List.map aj2 l))),(11,.c (.int .i64) (.int v11)),(12,.c (.int .i64) (.int v12))] []
def aya (n:Nat) (l:List aj0) (v11:Int) (v12:Int):Option ((Int) ⊕ (((Bool) ⊕ (Unit)))) :=
 bif (decide (v12 < v11)) then
  gd ((0≤v12∧v12 < (l.length:Int))) <|
  (bjq n (gt l (Int.toNat v12))).bind fun r2 =>
  bif (!r2) then
   some (.inr (.inl false))
  else
   some (.inl (jb .i64 (v12+1)))
 else
  some (.inr (.inr ()))
def awf (n:Nat) (l:List aj0):Option Bool :=
 bif (decide ((l.length:Int) > 512)) then
  some false
 else
  (ajo (fun (x:Int)=>aya n l (l.length:Int) x) n 0).bind fun y21 =>
  match y21 with
  | .inl vv =>
   some vv
  | .inr vv =>
   bjx n l
def ayj (n:Nat):Go.AE.Fn:=mkFn (A:=(List aj0)) (R:=Bool) 69 [(false,[.slice 80])] false (fun xs=>((cg (xs.getD 0 []) 0).toSl.map aqm)) (fun a=>[[.slice (List.map aj2 a)]]) (fun a=>awf n a) (fun r=>[.c .bool (.bool r)]) (fun r=>[])
theorem bq5 (n:Nat):aj1 jd (ayj n):=by
 have hΓ:=g1 (cyd n) (g1 (cz4 n) (@g0 (aj1 jd)));have qe:=aI @cj2.eq_1 @bkr.eq_1;refine cF (Tryz.f69.body.getD .skip) Tryz.func69 rfl Tryz.call69 ?_;rintro l r H
 try dsimp only at H
 unfold awf at H;simp only [Tryz.f69,jz];refine rA ?_;refine js fun K2 hK2=>?_;refine rA ?_;refine cnd H (fun h4 H=>?_) (fun h4 H=>?_)
 ·refine rA ?_;refine jC (lf ?_);obtain rfl:=sI H;exact rt []
 refine jy (hK2 _ ?_);refine Jp (fun (x:Unit)=>cql l) (fun x=>bjx n l=some r) ?_ ?_
 ·refine rA ?_;refine jN ?_;obtain ⟨y21,hy21,Ho21⟩:=bind_some H;refine Jl _ (fun x=>cw5 l (l.length:Int) x) hy21 (wb []) ?_;rintro v12 z21 H
  try dsimp only at H
  unfold aya at H;refine Sm.st (cw5.eq_1 ..) ?_;refine rA ?_;refine js fun K23 hK23=>?_;refine cnd H (fun h24 H=>?_) (fun h24 H=>?_)
  ·refine jy (hK23 _ (js fun K25 hK25=>jN ?_));obtain ⟨hg30,H⟩:=aj8 H;refine rA ?_;obtain ⟨r2,hr2,H⟩:=bind_some H;have q:=aI qe hr2;refine rAq ?_;refine cnd H (fun h28 H=>?_) (fun h28 H=>?_)
   ·refine rA ?_;refine jC (lf ?_);refine lx H fun hyy=>?_;subst hyy;have H:=Ho21
    try dsimp only at H
    refine lf ?_;obtain rfl:=sI H;exact rt []
   refine jy (hK25 _ ?_);refine eA ?_;refine lf ?_;exact nx H (wb [])
  refine Js (lf ?_);refine lx H fun hyy=>?_;subst hyy;have H:=Ho21
  try dsimp only at H
  refine lf ?_;exact ⟨(),H,wb []⟩
 rintro ⟨⟩ H
 try dsimp only at H
 unfold bjx at H;refine Sm.st (cql.eq_1 ..) ?_;obtain ⟨r1,hr1,H⟩:=bind_some H;have q:=aI qe hr1;refine rAq ?_;refine Jp (fun (x:Unit)=>cqm) (fun x=>bq0 n=some r) ?_ ?_
 ·refine rA ?_;refine jN ?_;obtain ⟨y9,hy9,Ho9⟩:=bind_some H;refine Jl _ (fun x=>cqn r1 x) hy9 (wb []) ?_;rintro i z9 H
  try dsimp only at H
  unfold ak3 at H;refine Sm.st (cqn.eq_1 ..) ?_;refine js fun K10 hK10=>?_;refine rA ?_;refine cnd H (fun h12 H=>?_) (fun h12 H=>?_)
  ·refine jy (hK10 _ (js fun K13 hK13=>jN ?_));obtain ⟨⟨hg17,hg18,hg19⟩,H⟩:=aj8 H;refine rD ?_;refine cnd H (fun h15 H=>?_) (fun h15 H=>?_)
   ·refine rA ?_;refine jC (lf ?_);refine lx H fun hyy=>?_;subst hyy;have H:=Ho9
    try dsimp only at H
    refine lf ?_;obtain rfl:=sI H;exact rt []
   refine jy (hK13 _ ?_);refine eA ?_;refine lf ?_;exact nx H (wb [])
  refine Js (lf ?_);refine lx H fun hyy=>?_;subst hyy;have H:=Ho9
  try dsimp only at H
  refine lf ?_;exact ⟨(),H,wb []⟩
 rintro ⟨⟩ H
 try dsimp only at H
 unfold bq0 at H;refine Sm.st (cqm.eq_1 ..) ?_;refine rA ?_;refine jC (lf ?_);obtain rfl:=sI H;exact rt []
abbrev cw1 (n_:Int):S:=stB [(3,.c (.int .i64) (.int n_))] []
def bqb (n:Nat) (n_:Int):Option Int :=
 some n_
abbrev cw8 (l:List aj0) (v10:Int) (n__1:Int) (v11:Int):S:=stB [(3,.c (.int .i64) (.int n__1)),(9,.c (.slice 80) (.slice (List.map aj2 l))),(10,.c (.int .i64) (.int v10)),(11,.c (.int .i64) (.int v11))] []
def ak2 (n:Nat) (l:List aj0) (v10:Int) (n__1:Int) (v11:Int):Option ((Int×Int) ⊕ ((Int))) :=
 bif (decide (v11 < v10)) then
  gd ((0≤v11∧v11 < (l.length:Int))) <|
  some (.inl ((jb .i64 (n__1+((gt l (Int.toNat v11)).Len))),(jb .i64 (v11+1))))
 else
  some (.inr n__1)
def bjp (n:Nat) (l:List aj0):Option Int :=
 (awf n l).bind fun r1 =>
 bif (!r1) then
  some 0
 else
  (ajo (fun (x:Int×Int)=>ak2 n l (l.length:Int) x.1 x.2) n (0,0)).bind fun y9 =>
  bqb n y9
def cjh (n:Nat):Go.AE.Fn:=mkFn (A:=(List aj0)) (R:=Int) 99 [(false,[.slice 80])] false (fun xs=>((cg (xs.getD 0 []) 0).toSl.map aqm)) (fun a=>[[.slice (List.map aj2 a)]]) (fun a=>bjp n a) (fun r=>[.c (.int .i64) (.int r)]) (fun r=>[])
theorem cyq (n:Nat):aj1 jd (cjh n):=by
 have hΓ:=g1 (bq5 n) (@g0 (aj1 jd));refine cF (Tryz.f99.body.getD .skip) Tryz.func99 rfl Tryz.call99 ?_;rintro l r H
 try dsimp only at H
 unfold bjp at H;simp only [Tryz.f99,jz];refine rA ?_;refine js fun K2 hK2=>?_;obtain ⟨r1,hr1,H⟩:=bind_some H;have q:=aI @ayj.eq_1 hr1;refine rAq ?_;refine cnd H (fun h4 H=>?_) (fun h4 H=>?_)
 ·refine rA ?_;refine jC (lf ?_);obtain rfl:=sI H;exact rt []
 refine jy (hK2 _ ?_);refine rA ?_;refine Jp (fun (x:Int)=>cw1 x) (fun x=>bqb n x=some r) ?_ ?_
 ·refine rA ?_;refine jN ?_;obtain ⟨y9,hy9,Ho9⟩:=bind_some H;refine Jl _ (fun x=>cw8 l (l.length:Int) x.1 x.2) hy9 (wb []) ?_;rintro ⟨n__1,v11⟩ z9 H
  try dsimp only at H
  unfold ak2 at H;refine Sm.st (cw8.eq_1 ..) ?_;refine rA ?_;refine js fun K11 hK11=>?_;refine cnd H (fun h12 H=>?_) (fun h12 H=>?_)
  ·refine jy (hK11 _ (js fun K13 hK13=>jN ?_));obtain ⟨hg15,H⟩:=aj8 H;refine rA ?_;refine eA ?_;refine hK13 _ ?_;refine eA ?_;refine lf ?_;exact nx H (wb [])
  refine Js (lf ?_);refine lx H fun hyy=>?_;subst hyy;have H:=Ho9
  try dsimp only at H
  refine lf ?_;exact ⟨_,H,wb []⟩
 rintro n_ H
 try dsimp only at H
 unfold bqb at H;refine Sm.st (cw1.eq_1 ..) ?_;refine rA ?_;refine jC (lf ?_);obtain rfl:=sI H;exact rt []
abbrev bkj (d:aj5):S:=stB [(3,.box 9000 0)] [(9000,.box (cD d))]
def akq (n:Nat) (d:aj5):Option Bool :=
 (bjp n d.Extents).bind fun r2 =>
 (aq6 n d.Used 0 r2).bind fun r3 =>
 some r3
abbrev bkh (v:aj6) (d:aj5) (v32:Int) (v33:Int):S:=stB [(2,.box 9003 0),(3,.box 9004 0),(31,.c (.slice 80) (.slice (List.map aj2 d.Extents))),(32,.c (.int .i64) (.int v32)),(33,.c (.int .i64) (.int v33))] [(9003,.box (cV v)),(9004,.box (cD d))]
def azn (n:Nat) (v:aj6) (d:aj5) (v32:Int) (v33:Int):Option ((Int) ⊕ (((Bool) ⊕ (Unit)))) :=
 bif (decide (v33 < v32)) then
  gd ((0≤v33∧v33 < (d.Extents.length:Int))) <|
  bif (decide ((jb .i64 (((gt d.Extents (Int.toNat v33)).At)+((gt d.Extents (Int.toNat v33)).Len))) > (jb .i64 (v.Cyls * v.Heads)))) then
   some (.inr (.inl false))
  else
   some (.inl (jb .i64 (v33+1)))
 else
  some (.inr (.inr ()))
def ay8 (n:Nat) (v:aj6) (d:aj5):Option Bool :=
 (bk2 n d.Name).bind fun r1 =>
 gd (((!(!r1))=true→(aqn n d.Dcb).isSome=true)∧((!(if (!r1)=true then true else (!((aqn n d.Dcb).getD default))))=true→(aq6 n (d.Extents.length:Int) 1 8).isSome=true)∧((!(if (if (!r1)=true then true else (!((aqn n d.Dcb).getD default)))=true then true else (!((aq6 n (d.Extents.length:Int) 1 8).getD default))))=true→(awf n d.Extents).isSome=true)) <|
 bif (if (if (if (!r1)=true then true else (!((aqn n d.Dcb).getD default)))=true then true else (!((aq6 n (d.Extents.length:Int) 1 8).getD default)))=true then true else (!((awf n d.Extents).getD default))) then
  some false
 else
  (ajo (fun (x:Int)=>azn n v d (d.Extents.length:Int) x) n 0).bind fun y8 =>
  match y8 with
  | .inl vv =>
   some vv
  | .inr vv =>
   akq n d
def cjy (n:Nat):Go.AE.Fn:=mkFn (A:=aj6×aj5) (R:=Bool) 68 [(true,[.str,.int .i64,.int .i64,.int .i64,.slice 41]),(true,kD)] false (fun xs=>((⟨(cg (xs.getD 0 []) 0).toStr,(cg (xs.getD 0 []) 1).toInt,(cg (xs.getD 0 []) 2).toInt,(cg (xs.getD 0 []) 3).toInt,((cg (xs.getD 0 []) 4).toSl.map akb)⟩:aj6),(⟨(cg (xs.getD 1 []) 0).toStr,(⟨(cg (xs.getD 1 []) 1).toInt,(cg (xs.getD 1 []) 2).toInt,(cg (xs.getD 1 []) 3).toBool,(cg (xs.getD 1 []) 4).toBool,(cg (xs.getD 1 []) 5).toInt,(cg (xs.getD 1 []) 6).toInt,(cg (xs.getD 1 []) 7).toInt,(cg (xs.getD 1 []) 8).toInt⟩:TDcb),((cg (xs.getD 1 []) 9).toSl.map aqm),(cg (xs.getD 1 []) 10).toInt⟩:aj5))) (fun a=>[[.str a.1.Serial,.int a.1.Cyls,.int a.1.Heads,.int a.1.Size,.slice (List.map aj4 a.1.Sets)],[.str a.2.Name,.int a.2.Dcb.Org,.int a.2.Dcb.Format,.bool a.2.Dcb.Blocked,.bool a.2.Dcb.Asa,.int a.2.Dcb.Lrecl,.int a.2.Dcb.Blksize,.int a.2.Dcb.KeyLen,.int a.2.Dcb.KeyPos,.slice (List.map aj2 a.2.Extents),.int a.2.Used]]) (fun a=>ay8 n a.1 a.2) (fun r=>[.c .bool (.bool r)]) (fun r=>[])
theorem dwq (n:Nat):aj1 jd (cjy n):=by
 have hΓ:=g1 (dq5 n) (g1 (bk3 n) (g1 (dz6 n) (g1 (bq5 n) (g1 (cyq n) (@g0 (aj1 jd))))));have qe:=aI @cws.eq_1 (aI @bq7.eq_1 (aI @cky.eq_1 (aI @ayj.eq_1 @cjh.eq_1)));refine cF (Tryz.f68.body.getD .skip) Tryz.func68 rfl Tryz.call68 ?_;rintro ⟨v,d⟩ r H
 try dsimp only at H
 unfold ay8 at H;simp only [Tryz.f68,jz];refine rA ?_;refine js fun K2 hK2=>?_;obtain ⟨r1,hr1,H⟩:=bind_some H;obtain ⟨⟨hg18,hg19,hg20⟩,H⟩:=aj8 H;have q:=aI qe hr1;refine rAq ?_;refine cnd H (fun h4 H=>?_) (fun h4 H=>?_)
 ·refine rA ?_;refine jC (lf ?_);obtain rfl:=sI H;exact rt []
 refine jy (hK2 _ ?_);refine Jp (fun (x:Unit)=>bkj d) (fun x=>akq n d=some r) ?_ ?_
 ·refine rA ?_;refine jN ?_;obtain ⟨y8,hy8,Ho8⟩:=bind_some H;refine Jl _ (fun x=>bkh v d (d.Extents.length:Int) x) hy8 (wb [some 32,some 48]) ?_;rintro v33 z8 H
  try dsimp only at H
  unfold azn at H;refine Sm.st (bkh.eq_1 ..) ?_;refine rA ?_;refine js fun K10 hK10=>?_;refine cnd H (fun h11 H=>?_) (fun h11 H=>?_)
  ·refine jy (hK10 _ (js fun K12 hK12=>jN ?_));obtain ⟨hg17,H⟩:=aj8 H;refine rA ?_;refine rA ?_;refine cnd H (fun h15 H=>?_) (fun h15 H=>?_)
   ·refine rA ?_;refine jC (lf ?_);refine lx H fun hyy=>?_;subst hyy;have H:=Ho8
    try dsimp only at H
    refine lf ?_;obtain rfl:=sI H;exact rt []
   refine jy (hK12 _ ?_);refine eA ?_;refine lf ?_;exact nx H (wb [some 9003,some 9004])
  refine Js (lf ?_);refine lx H fun hyy=>?_;subst hyy;have H:=Ho8
  try dsimp only at H
  refine lf ?_;exact ⟨(),H,wb [some 9004]⟩
 rintro ⟨⟩ H
 try dsimp only at H
 unfold akq at H;refine Sm.st (bkj.eq_1 ..) ?_;obtain ⟨r2,hr2,H⟩:=bind_some H;obtain ⟨r3,hr3,H⟩:=bind_some H;have q:=aI qe (aI hr2 hr3);refine rDq ?_;refine jC (lf ?_);obtain rfl:=sI H;exact rt []
abbrev cyg (used:List aj0):S:=stB [(3,.own 9000 [.int .i64,.int .i64] 0 used.length)] [(9000,.row 80 (List.map aj2 used))]
def bjy (n:Nat) (used:List aj0):Option Int :=
 (awf n used).bind fun r3 =>
 bif (!r3) then
  some 5
 else
  some 0
abbrev dj6 (v:aj6) (v54:Int) (used_1:List aj0) (v55:Int):S:=stB [(1,.box 9003 0),(3,.own 9004 [.int .i64,.int .i64] 0 used_1.length),(53,.c (.slice 41) (.slice (List.map aj4 v.Sets))),(54,.c (.int .i64) (.int v54)),(55,.c (.int .i64) (.int v55))] [(9003,.box (cV v)),(9004,.row 80 (List.map aj2 used_1))]
def awd (n:Nat) (v:aj6) (v54:Int) (used_1:List aj0) (v55:Int):Option (((List aj0)×Int) ⊕ (((Int) ⊕ ((List aj0))))) :=
 bif (decide (v55 < v54)) then
  gd ((0≤v55∧v55 < (v.Sets.length:Int))) <|
  (ay8 n v (gt v.Sets (Int.toNat v55))).bind fun r4 =>
  gd ((((!(!r4)) && (decide (v55 > 0)))=true→(0≤(jb .i64 (v55 - 1))∧(jb .i64 (v55 - 1)) < (v.Sets.length:Int)))) <|
  bif (if (!r4)=true then true else (if (decide (v55 > 0))=true then (!Op.bytesLess ((gt v.Sets (Int.toNat (jb .i64 (v55 - 1)))).Name) ((gt v.Sets (Int.toNat v55)).Name)) else false)) then
   some (.inr (.inl 5))
  else
   gd ((used_1.length+((gt v.Sets (Int.toNat v55)).Extents).length)≤2147483648) <|
   some (.inl ((used_1 ++ (gt v.Sets (Int.toNat v55)).Extents),(jb .i64 (v55+1))))
 else
  some (.inr (.inr used_1))
def awb (n:Nat) (v:aj6):Option Int :=
 (aq6 n (v.Serial.length:Int) 1 6).bind fun r1 =>
 gd (((!(!r1))=true→(aqt n v.Serial [65,66,67,68,69,70,71,72,73,74,75,76,77,78,79,80,81,82,83,84,85,86,87,88,89,90,48,49,50,51,52,53,54,55,56,57]).isSome=true)) <|
 bif (if (!r1)=true then true else (((aqt n v.Serial [65,66,67,68,69,70,71,72,73,74,75,76,77,78,79,80,81,82,83,84,85,86,87,88,89,90,48,49,50,51,52,53,54,55,56,57]).getD default) != [])) then
  some 5
 else
  (aq6 n v.Cyls 1 64).bind fun r2 =>
  gd (((!(!r2))=true→(aq6 n v.Heads 1 8).isSome=true)∧((!(if (!r2)=true then true else (!((aq6 n v.Heads 1 8).getD default))))=true→(aq6 n v.Size 1 (jb .i64 ((jb .i64 (v.Cyls * v.Heads)) - 1))).isSome=true)) <|
  bif (if (if (!r2)=true then true else (!((aq6 n v.Heads 1 8).getD default)))=true then true else (!((aq6 n v.Size 1 (jb .i64 ((jb .i64 (v.Cyls * v.Heads)) - 1))).getD default))) then
   some 5
  else
   bif (decide ((v.Sets.length:Int) > (if (jb .i64 (14 * v.Size)) < 64 then (jb .i64 (14 * v.Size)) else 64))) then
    some 5
   else
    (ajo (fun (x:(List aj0)×Int)=>awd n v (v.Sets.length:Int) x.1 x.2) n ([(⟨0,(jb .i64 (v.Size+1))⟩:aj0)],0)).bind fun y21 =>
    match y21 with
    | .inl vv =>
     some vv
    | .inr vv =>
     bjy n vv
def az6 (n:Nat):Go.AE.Fn:=mkFn (A:=aj6) (R:=Int) 30 [(true,[.str,.int .i64,.int .i64,.int .i64,.slice 41])] false (fun xs=>(⟨(cg (xs.getD 0 []) 0).toStr,(cg (xs.getD 0 []) 1).toInt,(cg (xs.getD 0 []) 2).toInt,(cg (xs.getD 0 []) 3).toInt,((cg (xs.getD 0 []) 4).toSl.map akb)⟩:aj6)) (fun a=>[[.str a.Serial,.int a.Cyls,.int a.Heads,.int a.Size,.slice (List.map aj4 a.Sets)]]) (fun a=>awb n a) (fun r=>[.c (.int .i64) (.int r)]) (fun r=>[])
theorem akc (n:Nat):aj1 jd (az6 n):=by
 have hΓ:=g1 (dz6 n) (g1 (cy4 n) (g1 (dwq n) (g1 (bq5 n) (@g0 (aj1 jd)))));have qe:=aI @cky.eq_1 (aI @ayd.eq_1 (aI @cjy.eq_1 @ayj.eq_1));refine cF (Tryz.f30.body.getD .skip) Tryz.func30 rfl Tryz.call30 ?_;rintro v r H
 try dsimp only at H
 unfold awb at H;simp only [Tryz.f30,jz];refine rA ?_;refine js fun K2 hK2=>?_;obtain ⟨r1,hr1,H⟩:=bind_some H;obtain ⟨hg36,H⟩:=aj8 H;have q:=aI qe hr1;refine rAq ?_;refine cnd H (fun h4 H=>?_) (fun h4 H=>?_)
 ·refine rA ?_;refine jC (lf ?_);obtain rfl:=sI H;exact rt []
 refine jy (hK2 _ (js fun K6 hK6=>?_));obtain ⟨r2,hr2,H⟩:=bind_some H;obtain ⟨⟨hg34,hg35⟩,H⟩:=aj8 H;have q:=aI qe hr2;refine rAq ?_;refine cnd H (fun h8 H=>?_) (fun h8 H=>?_)
 ·refine rA ?_;refine jC (lf ?_);obtain rfl:=sI H;exact rt []
 refine jy (hK6 _ (js fun K10 hK10=>?_));refine rA ?_;refine cnd H (fun h12 H=>?_) (fun h12 H=>?_)
 ·refine rA ?_;refine jC (lf ?_);obtain rfl:=sI H;exact rt []
 refine jy (hK10 _ ?_);refine rA ?_;refine Jp (fun (x:(List aj0))=>cyg x) (fun x=>bjy n x=some r) ?_ ?_
 ·refine rA ?_;refine jN ?_;obtain ⟨y21,hy21,Ho21⟩:=bind_some H;refine Jl _ (fun x=>dj6 v (v.Sets.length:Int) x.1 x.2) hy21 (wb [some 16,some 816]) ?_;rintro ⟨used_1,v55⟩ z21 H
  try dsimp only at H
  unfold awd at H;refine Sm.st (dj6.eq_1 ..) ?_;refine rA ?_;refine js fun K23 hK23=>?_;refine cnd H (fun h24 H=>?_) (fun h24 H=>?_)
  ·refine jy (hK23 _ (js fun K25 hK25=>jN ?_));obtain ⟨hg33,H⟩:=aj8 H;refine rA ?_;refine js fun K27 hK27=>?_;obtain ⟨r4,hr4,H⟩:=bind_some H;obtain ⟨hg32,H⟩:=aj8 H;have q:=aI qe hr4;refine rDq ?_;refine cnd H (fun h29 H=>?_) (fun h29 H=>?_)
   ·refine rA ?_;refine jC (lf ?_);refine lx H fun hyy=>?_;subst hyy;have H:=Ho21
    try dsimp only at H
    refine lf ?_;obtain rfl:=sI H;exact rt []
   refine jy (hK27 _ ?_);obtain ⟨hg31,H⟩:=aj8 H;refine eA ?_;refine hK25 _ ?_;refine eA ?_;refine lf ?_;exact nx H (wb [some 9003,some 1328])
  refine Js (lf ?_);refine lx H fun hyy=>?_;subst hyy;have H:=Ho21
  try dsimp only at H
  refine lf ?_;exact ⟨_,H,wb [some 9004]⟩
 rintro used H
 try dsimp only at H
 unfold bjy at H;refine Sm.st (cyg.eq_1 ..) ?_;refine js fun K15 hK15=>?_;obtain ⟨r3,hr3,H⟩:=bind_some H;have q:=aI qe hr3;refine rAq ?_;refine cnd H (fun h17 H=>?_) (fun h17 H=>?_)
 ·refine rA ?_;refine jC (lf ?_);obtain rfl:=sI H;exact rt []
 refine jy (hK15 _ ?_);refine rA ?_;refine jC (lf ?_);obtain rfl:=sI H;exact rt []
def ckq (n:Nat) (serial:List UInt8) (cyls:Int) (heads:Int) (size:Int):Option (aj6×Int) :=
 (awb n (⟨serial,cyls,heads,size,[]⟩:aj6)).bind fun r1 =>
 bif (r1 != 0) then
  some ((⟨[],0,0,0,[]⟩:aj6),1)
 else
  some ((⟨serial,cyls,heads,size,[]⟩:aj6),0)
def dk4 (n:Nat):Go.AE.Fn:=mkFn (A:=(List UInt8)×Int×Int×Int) (R:=aj6×Int) 15 [(false,[.str]),(false,[.int .i64]),(false,[.int .i64]),(false,[.int .i64])] false (fun xs=>((cg (xs.getD 0 []) 0).toStr,(cg (xs.getD 1 []) 0).toInt,(cg (xs.getD 2 []) 0).toInt,(cg (xs.getD 3 []) 0).toInt)) (fun a=>[[.str a.1],[.int a.2.1],[.int a.2.2.1],[.int a.2.2.2]]) (fun a=>ckq n a.1 a.2.1 a.2.2.1 a.2.2.2) (fun r=>[.agg [.c .str (.str r.1.Serial),.c (.int .i64) (.int r.1.Cyls),.c (.int .i64) (.int r.1.Heads),.c (.int .i64) (.int r.1.Size),.nilsl],.c (.int .i64) (.int r.2)]) (fun r=>[])
theorem eyb (n:Nat):aj1 jd (dk4 n):=by
 have hΓ:=g1 (akc n) (@g0 (aj1 jd));refine cF (Tryz.f15.body.getD .skip) Tryz.func15 rfl Tryz.call15 ?_;rintro ⟨serial,cyls,heads,size⟩ r H
 try dsimp only at H
 unfold ckq at H;simp only [Tryz.f15,jz];refine rA ?_;refine rA ?_;refine js fun K3 hK3=>?_;obtain ⟨r1,hr1,H⟩:=bind_some H;have q:=aI @az6.eq_1 hr1;refine rAq ?_;refine cnd H (fun h5 H=>?_) (fun h5 H=>?_)
 ·refine rA ?_;refine jC (lf ?_);obtain rfl:=sI H;exact rt []
 refine jy (hK3 _ ?_);refine rA ?_;refine jC (lf ?_);obtain rfl:=sI H;exact rt []
def cjg (n:Nat):Option TDcb :=
 some (⟨1,1,false,false,80,80,0,0⟩:TDcb)
def dql (n:Nat):Go.AE.Fn:=mkFn (A:=Unit) (R:=TDcb) 42 [] false (fun xs=>()) (fun a=>[]) (fun a=>cjg n) (fun r=>[.agg [.c (.int .i64) (.int r.Org),.c (.int .i64) (.int r.Format),.c .bool (.bool r.Blocked),.c .bool (.bool r.Asa),.c (.int .i64) (.int r.Lrecl),.c (.int .i64) (.int r.Blksize),.c (.int .i64) (.int r.KeyLen),.c (.int .i64) (.int r.KeyPos)]]) (fun r=>[])
theorem ek0 (n:Nat):aj1 jd (dql n):=by
 have hΓ:=@g0 (aj1 jd);refine cF (Tryz.f42.body.getD .skip) Tryz.func42 rfl Tryz.call42 ?_;rintro ⟨⟩ r H
 try dsimp only at H
 unfold cjg at H;simp only [Tryz.f42,jz];refine rA ?_;refine rA ?_;refine jC (lf ?_);obtain rfl:=sI H;exact rt []
def aw2 (n:Nat) (d:aj5) (s:List UInt8):Option Int :=
 (strings_Compare n d.Name s).bind fun r1 =>
 some r1
def bjg (n:Nat):Go.AE.Fn:=mkFn (A:=aj5×(List UInt8)) (R:=Int) 117 [(true,kD),(false,[.str])] false (fun xs=>((⟨(cg (xs.getD 0 []) 0).toStr,(⟨(cg (xs.getD 0 []) 1).toInt,(cg (xs.getD 0 []) 2).toInt,(cg (xs.getD 0 []) 3).toBool,(cg (xs.getD 0 []) 4).toBool,(cg (xs.getD 0 []) 5).toInt,(cg (xs.getD 0 []) 6).toInt,(cg (xs.getD 0 []) 7).toInt,(cg (xs.getD 0 []) 8).toInt⟩:TDcb),((cg (xs.getD 0 []) 9).toSl.map aqm),(cg (xs.getD 0 []) 10).toInt⟩:aj5),(cg (xs.getD 1 []) 0).toStr)) (fun a=>[[.str a.1.Name,.int a.1.Dcb.Org,.int a.1.Dcb.Format,.bool a.1.Dcb.Blocked,.bool a.1.Dcb.Asa,.int a.1.Dcb.Lrecl,.int a.1.Dcb.Blksize,.int a.1.Dcb.KeyLen,.int a.1.Dcb.KeyPos,.slice (List.map aj2 a.1.Extents),.int a.1.Used],[.str a.2]]) (fun a=>aw2 n a.1 a.2) (fun r=>[.c (.int .i64) (.int r)]) (fun r=>[])
theorem cki (n:Nat):aj1 jd (bjg n):=by
 have hΓ:=g1 (dwo n) (@g0 (aj1 jd));refine cF (Tryz.f117.body.getD .skip) Tryz.func117 rfl Tryz.call117 ?_;rintro ⟨d,s⟩ r H
 try dsimp only at H
 unfold aw2 at H;simp only [Tryz.f117,jz];refine rA ?_;obtain ⟨r1,hr1,H⟩:=bind_some H;have q:=aI @akg.eq_1 hr1;refine rAq ?_;refine jC (lf ?_);obtain rfl:=sI H;exact rt []
abbrev az9 (x_:List aj5) (target:List UInt8) (n_:Int) (i:Int):S:=stB [(0,.c (.slice 41) (.slice (List.map aj4 x_))),(1,.c .str (.str target)),(2,.fnv 117 []),(8,.c (.int .i64) (.int n_)),(9,.c (.int .i64) (.int i))] []
def aq4 (n:Nat) (x_:List aj5) (target:List UInt8) (n_:Int) (i:Int):Option (Int×Bool) :=
 gd (((decide (i < n_))=true→(0≤i∧i < (x_.length:Int)))∧((decide (i < n_))=true→(aw2 n (gt x_ (Int.toNat i)) target).isSome=true)) <|
 some (i,(if (decide (i < n_))=true then (((aw2 n (gt x_ (Int.toNat i)) target).getD default) == 0) else false))
abbrev aza (x_:List aj5) (target:List UInt8) (n__1:Int) (i_1:Int) (j:Int):S:=stB [(0,.c (.slice 41) (.slice (List.map aj4 x_))),(1,.c .str (.str target)),(2,.fnv 117 []),(8,.c (.int .i64) (.int n__1)),(9,.c (.int .i64) (.int i_1)),(10,.c (.int .i64) (.int j))] []
def ajh (n:Nat) (x_:List aj5) (target:List UInt8) (n__1:Int) (i_1:Int) (j:Int):Option ((Int×Int) ⊕ ((Int))) :=
 bif (decide (i_1 < j)) then
  gd ((0≤(jb .i64 ((Int.fdiv (jb .u64 ((jb .i64 (i_1+j)))) (2 ^ min 1 (jj .u64)))))∧(jb .i64 ((Int.fdiv (jb .u64 ((jb .i64 (i_1+j)))) (2 ^ min 1 (jj .u64))))) < (x_.length:Int))) <|
  (aw2 n (gt x_ (Int.toNat (jb .i64 ((Int.fdiv (jb .u64 ((jb .i64 (i_1+j)))) (2 ^ min 1 (jj .u64))))))) target).bind fun r1 =>
  bif (decide (r1 < 0)) then
   some (.inl ((jb .i64 ((jb .i64 ((Int.fdiv (jb .u64 ((jb .i64 (i_1+j)))) (2 ^ min 1 (jj .u64)))))+1)),j))
  else
   some (.inl (i_1,(jb .i64 ((Int.fdiv (jb .u64 ((jb .i64 (i_1+j)))) (2 ^ min 1 (jj .u64)))))))
 else
  some (.inr i_1)
def aqg (n:Nat) (x_:List aj5) (target:List UInt8):Option (Int×Bool) :=
 (ajo (fun (x:Int×Int)=>ajh n x_ target (x_.length:Int) x.1 x.2) n (0,(x_.length:Int))).bind fun y7 =>
 aq4 n x_ target (x_.length:Int) y7
theorem bqf (n:Nat) (x_:List aj5) (target:List UInt8) (r:Int×Bool) (H:aqg n x_ target=some r):aw8 jd 116 [.dat (false,[.slice 41]) [.slice (List.map aj4 x_)],.dat (false,[.str]) [.str target],.ref (.fnv 117 [])] [] [.c (.int .i64) (.int r.1),.c .bool (.bool r.2)] []:=by
 have hΓ:=g1 (cki n) (@g0 (aj1 jd));refine aw9 (Tryz.f116.body.getD .skip) h00 Tryz.func116 rfl Tryz.call116 (jp rfl) (jp rfl) ?_;unfold aqg at H;simp only [Tryz.f116,jz];refine rA ?_;refine rA ?_;refine rA ?_;refine Jp (fun (x:Int×Int)=>az9 x_ target x.1 x.2) (fun x=>aq4 n x_ target x.1 x.2=some r) ?_ ?_
 ·refine jN ?_;obtain ⟨y7,hy7,Ho7⟩:=bind_some H;refine Jl _ (fun x=>aza x_ target (x_.length:Int) x.1 x.2) hy7 (wb []) ?_;rintro ⟨i_1,j⟩ z7 H
  try dsimp only at H
  unfold ajh at H;refine Sm.st (aza.eq_1 ..) ?_;refine js fun K8 hK8=>?_;refine rA ?_;refine cnd H (fun h10 H=>?_) (fun h10 H=>?_)
  ·refine jy (hK8 _ (jN ?_));refine sX fun K11 hK11=>?_
   iterate 4 refine oX ?_
   refine oE awv ?_
   iterate 2 refine oX ?_
   refine hK11 _ ?_;obtain ⟨hg14,H⟩:=aj8 H;obtain ⟨r1,hr1,H⟩:=bind_some H;have q:=aI @bjg.eq_1 hr1;refine rAq ?_;refine cnd H (fun h13 H=>?_) (fun h13 H=>?_)
   ·refine eA ?_;refine lf ?_;exact nx H (wb [])
   refine eA ?_;refine lf ?_;exact nx H (wb [])
  refine Js (lf ?_);refine lx H fun hyy=>?_;subst hyy;have H:=Ho7
  try dsimp only at H
  refine lf ?_;exact ⟨((x_.length:Int),i_1),H,wb []⟩
 rintro ⟨n_,i⟩ H
 try dsimp only at H
 unfold aq4 at H;refine Sm.st (az9.eq_1 ..) ?_;obtain ⟨⟨hg5,hg6⟩,H⟩:=aj8 H;have q:=@bjg.eq_1;refine rAq ?_;refine jC (lf ?_);obtain rfl:=sI H;exact rtM []
def ajt (n:Nat) (v:aj6) (name:List UInt8):Option (Int×Bool) :=
 (aqg n v.Sets name).bind fun r1 =>
 some (r1.1,r1.2)
def aqr (n:Nat):Go.AE.Fn:=mkFn (A:=aj6×(List UInt8)) (R:=Int×Bool) 56 [(true,[.str,.int .i64,.int .i64,.int .i64,.slice 41]),(false,[.str])] false (fun xs=>((⟨(cg (xs.getD 0 []) 0).toStr,(cg (xs.getD 0 []) 1).toInt,(cg (xs.getD 0 []) 2).toInt,(cg (xs.getD 0 []) 3).toInt,((cg (xs.getD 0 []) 4).toSl.map akb)⟩:aj6),(cg (xs.getD 1 []) 0).toStr)) (fun a=>[[.str a.1.Serial,.int a.1.Cyls,.int a.1.Heads,.int a.1.Size,.slice (List.map aj4 a.1.Sets)],[.str a.2]]) (fun a=>ajt n a.1 a.2) (fun r=>[.c (.int .i64) (.int r.1),.c .bool (.bool r.2)]) (fun r=>[])
theorem awa (n:Nat):aj1 jd (aqr n):=by
 have hΓ:=@g0 (aj1 jd);refine cF (Tryz.f56.body.getD .skip) Tryz.func56 rfl Tryz.call56 ?_;rintro ⟨v,name⟩ r H
 try dsimp only at H
 unfold ajt at H;simp only [Tryz.f56,jz];refine rA ?_;refine sX fun K2 hK2=>?_;obtain ⟨r1,hr1,H⟩:=bind_some H;have q:=hr1
 iterate 3 refine oX ?_
 refine oMq (bqf n _ _ r1 hr1) [] [] ?_
 iterate 4 refine oXq ?_
 refine hK2 _ (jC (lf ?_));obtain rfl:=sI H;exact rt []
abbrev czd (out_1:List aj0):S:=stB [(5,.own 9001 [.int .i64,.int .i64] 0 out_1.length)] [(9001,.row 80 (List.map aj2 out_1))]
def ayr (n:Nat) (out_1:List aj0):Option (List aj0) :=
 some out_1
abbrev czp (n_:Int) (out:List aj0) (at_:Int):S:=stB [(1,.c (.int .i64) (.int n_)),(5,.own 9000 [.int .i64,.int .i64] 0 out.length),(6,.c (.int .i64) (.int at_))] [(9000,.row 80 (List.map aj2 out))]
def akj (n:Nat) (n_:Int) (out:List aj0) (at_:Int):Option (List aj0) :=
 bif (decide (n_ > at_)) then
  gd ((out.length+1)≤2147483648) <|
  ayr n (out ++ [(⟨at_,(jb .i64 (n_ - at_))⟩:aj0)])
 else
  ayr n out
abbrev czg (n_:Int) (out_3:List aj0) (at__2:Int) (v22:List aj0) (v23:Int) (v24:Int):S:=stB [(1,.c (.int .i64) (.int n_)),(5,.own 9004 [.int .i64,.int .i64] 0 out_3.length),(6,.c (.int .i64) (.int at__2)),(22,.c (.slice 80) (.slice (List.map aj2 v22))),(23,.c (.int .i64) (.int v23)),(24,.c (.int .i64) (.int v24))] [(9004,.row 80 (List.map aj2 out_3))]
def bw5 (n:Nat) (n_:Int) (out_3:List aj0) (at__2:Int) (v22:List aj0) (v23:Int) (v24:Int):Option (((List aj0)×Int×Int) ⊕ (((List aj0)×Int))) :=
 some (.inl (out_3,at__2,(jb .i64 (v24+1))))
abbrev czz (n_:Int) (out_4:List aj0) (x_:Int) (x__1:Int) (v22:List aj0) (v23:Int) (v24:Int):S:=stB [(1,.c (.int .i64) (.int n_)),(5,.own 9005 [.int .i64,.int .i64] 0 out_4.length),(8,.box 9006 0),(22,.c (.slice 80) (.slice (List.map aj2 v22))),(23,.c (.int .i64) (.int v23)),(24,.c (.int .i64) (.int v24))] [(9005,.row 80 (List.map aj2 out_4)),(9006,.box [.c (.int .i64) (.int x_),.c (.int .i64) (.int x__1)])]
def bj0 (n:Nat) (n_:Int) (out_4:List aj0) (x_:Int) (x__1:Int) (v22:List aj0) (v23:Int) (v24:Int):Option (((List aj0)×Int×Int) ⊕ (((List aj0)×Int))) :=
 bw5 n n_ out_4 (jb .i64 (x_+x__1)) v22 v23 v24
abbrev cz9 (n_:Int) (v22:List aj0) (v23:Int) (out_2:List aj0) (at__1:Int) (v24:Int):S:=stB [(1,.c (.int .i64) (.int n_)),(5,.own 9003 [.int .i64,.int .i64] 0 out_2.length),(6,.c (.int .i64) (.int at__1)),(22,.c (.slice 80) (.slice (List.map aj2 v22))),(23,.c (.int .i64) (.int v23)),(24,.c (.int .i64) (.int v24))] [(9003,.row 80 (List.map aj2 out_2))]
def azv (n:Nat) (n_:Int) (v22:List aj0) (v23:Int) (out_2:List aj0) (at__1:Int) (v24:Int):Option (((List aj0)×Int×Int) ⊕ (((List aj0)×Int))) :=
 bif (decide (v24 < v23)) then
  gd ((0≤v24∧v24 < (v22.length:Int))) <|
  bif (decide ((if n_ < ((gt v22 (Int.toNat v24)).At) then n_ else ((gt v22 (Int.toNat v24)).At)) > at__1)) then
   gd ((out_2.length+1)≤2147483648) <|
   bj0 n n_ (out_2 ++ [(⟨at__1,(jb .i64 ((if n_ < ((gt v22 (Int.toNat v24)).At) then n_ else ((gt v22 (Int.toNat v24)).At)) - at__1))⟩:aj0)]) ((gt v22 (Int.toNat v24)).At) ((gt v22 (Int.toNat v24)).Len) v22 v23 v24
  else
   bj0 n n_ out_2 ((gt v22 (Int.toNat v24)).At) ((gt v22 (Int.toNat v24)).Len) v22 v23 v24
 else
  some (.inr (out_2,at__1))
def bqs (n:Nat) (used:List aj0) (n_:Int):Option (List aj0) :=
 (awf n used).bind fun r1 =>
 bif (if (if (!r1)=true then true else (decide (n_ < 0)))=true then true else (decide (n_ > 512))) then
  some []
 else
  (aym n used).bind fun r2 =>
  (ajo (fun (x:(List aj0)×Int×Int)=>azv n n_ r2 (r2.length:Int) x.1 x.2.1 x.2.2) n ([],0,0)).bind fun y13 =>
  akj n n_ y13.1 y13.2
def dqb (n:Nat):Go.AE.Fn:=mkFn (A:=(List aj0)×Int) (R:=(List aj0)) 76 [(false,[.slice 80]),(false,[.int .i64])] false (fun xs=>(((cg (xs.getD 0 []) 0).toSl.map aqm),(cg (xs.getD 1 []) 0).toInt)) (fun a=>[[.slice (List.map aj2 a.1)],[.int a.2]]) (fun a=>bqs n a.1 a.2) (fun r=>[.own 0 [.int .i64,.int .i64] 0 r.length]) (fun r=>[.row 80 (List.map aj2 r)])
theorem ezr (n:Nat):aj1 jd (dqb n):=by
 have hΓ:=g1 (bq5 n) (g1 (cz4 n) (@g0 (aj1 jd)));have qe:=aI @ayj.eq_1 @bkr.eq_1;refine ajb (Tryz.f76.body.getD .skip) h00 Tryz.func76 rfl Tryz.call76 (by decide) (fun _ r=>⟨rfl,m1 ⟨80,_,_,rfl,ty80,rfl⟩ m0⟩) ?_;rintro ⟨used,n_⟩ r H
 try dsimp only at H
 unfold bqs at H;simp only [Tryz.f76,jz];refine rA ?_;refine js fun K2 hK2=>?_;obtain ⟨r1,hr1,H⟩:=bind_some H;have q:=aI qe hr1;refine rAq ?_;refine cnd H (fun h4 H=>?_) (fun h4 H=>?_)
 ·refine rA ?_;refine jC (lf ?_);obtain rfl:=sI H;exact rto [none]
 refine jy (hK2 _ ?_);refine rA ?_;refine rA ?_;refine Jp (fun (x:(List aj0)×Int)=>czp n_ x.1 x.2) (fun x=>akj n n_ x.1 x.2=some r) ?_ ?_
 ·obtain ⟨r2,hr2,H⟩:=bind_some H;have q:=aI qe hr2;refine rAq ?_;refine jN ?_;obtain ⟨y13,hy13,Ho13⟩:=bind_some H;refine Jl _ (fun x=>cz9 n_ r2 (r2.length:Int) x.1 x.2.1 x.2.2) hy13 (wb [none]) ?_;rintro ⟨out_2,at__1,v24⟩ z13 H
  try dsimp only at H
  unfold azv at H;refine Sm.st (cz9.eq_1 ..) ?_;refine rA ?_;refine js fun K15 hK15=>?_;refine cnd H (fun h16 H=>?_) (fun h16 H=>?_)
  ·refine jy (hK15 _ ?_);refine Jp (fun (x:(List aj0)×Int)=>czg n_ x.1 x.2 r2 (r2.length:Int) v24) (fun x=>bw5 n n_ x.1 x.2 r2 (r2.length:Int) v24=some z13) ?_ ?_
   ·refine jN ?_;obtain ⟨hg22,H⟩:=aj8 H;refine rA ?_;refine Jp (fun (x:(List aj0))=>czz n_ x ((gt r2 (Int.toNat v24)).At) ((gt r2 (Int.toNat v24)).Len) r2 (r2.length:Int) v24) (fun x=>bj0 n n_ x ((gt r2 (Int.toNat v24)).At) ((gt r2 (Int.toNat v24)).Len) r2 (r2.length:Int) v24=some z13) ?_ ?_
    ·refine rA ?_;refine rA ?_;refine cnd H (fun h20 H=>?_) (fun h20 H=>?_)
     ·obtain ⟨hg21,H⟩:=aj8 H;refine eA ?_;refine lf ?_;exact ⟨_,H,wb [some 672,some 128]⟩
     refine jy (lf ?_);exact ⟨_,H,wb [some 9003,some 128]⟩
    rintro out_4 H
    try dsimp only at H
    unfold bj0 at H;refine Sm.st (czz.eq_1 ..) ?_;refine eA ?_;refine lf ?_;exact ⟨(out_4,(jb .i64 ((gt r2 (Int.toNat v24)).At+(gt r2 (Int.toNat v24)).Len))),H,wb [some 9005]⟩
   rintro ⟨out_3,at__2⟩ H
   try dsimp only at H
   unfold bw5 at H;refine Sm.st (czg.eq_1 ..) ?_;refine eA ?_;refine lf ?_;exact nx H (wb [some 9004])
  refine Js (lf ?_);refine lx H fun hyy=>?_;subst hyy;have H:=Ho13
  try dsimp only at H
  refine lf ?_;exact ⟨(out_2,at__1),H,wb [some 9003]⟩
 rintro ⟨out,at_⟩ H
 try dsimp only at H
 unfold akj at H;refine Sm.st (czp.eq_1 ..) ?_;refine Jp (fun (x:(List aj0))=>czd x) (fun x=>ayr n x=some r) ?_ ?_
 ·refine rA ?_;refine cnd H (fun h10 H=>?_) (fun h10 H=>?_)
  ·obtain ⟨hg11,H⟩:=aj8 H;refine eA ?_;refine lf ?_;exact ⟨_,H,wb [some 944]⟩
  refine jy (lf ?_);exact ⟨_,H,wb [some 9000]⟩
 rintro out_1 H
 try dsimp only at H
 unfold ayr at H;refine Sm.st (czd.eq_1 ..) ?_;refine rA ?_;refine jC (lf ?_);obtain rfl:=sI H;exact rto [some 9001]
abbrev dqk (v:aj6) (used:List aj0):S:=stB [(1,.box 9000 0),(3,.own 9001 [.int .i64,.int .i64] 0 used.length)] [(9000,.box (cV v)),(9001,.row 80 (List.map aj2 used))]
def bkp (n:Nat) (v:aj6) (used:List aj0):Option (List aj0) :=
 (bqs n used (jb .i64 (v.Cyls * v.Heads))).bind fun r2 =>
 some r2
abbrev dqe (v:aj6) (v16:Int) (used_1:List aj0) (v17:Int):S:=stB [(1,.box 9004 0),(3,.own 9005 [.int .i64,.int .i64] 0 used_1.length),(15,.c (.slice 41) (.slice (List.map aj4 v.Sets))),(16,.c (.int .i64) (.int v16)),(17,.c (.int .i64) (.int v17))] [(9004,.box (cV v)),(9005,.row 80 (List.map aj2 used_1))]
def bjn (n:Nat) (v:aj6) (v16:Int) (used_1:List aj0) (v17:Int):Option (((List aj0)×Int) ⊕ (((List aj0)))) :=
 bif (decide (v17 < v16)) then
  gd ((0≤v17∧v17 < (v.Sets.length:Int))) <|
  gd ((used_1.length+((gt v.Sets (Int.toNat v17)).Extents).length)≤2147483648) <|
  some (.inl ((used_1 ++ (gt v.Sets (Int.toNat v17)).Extents),(jb .i64 (v17+1))))
 else
  some (.inr used_1)
def bwn (n:Nat) (v:aj6):Option (List aj0) :=
 (awb n v).bind fun r1 =>
 bif (r1 != 0) then
  some []
 else
  (ajo (fun (x:(List aj0)×Int)=>bjn n v (v.Sets.length:Int) x.1 x.2) n ([(⟨0,(jb .i64 (v.Size+1))⟩:aj0)],0)).bind fun y9 =>
  bkp n v y9
def byy (n:Nat):Go.AE.Fn:=mkFn (A:=aj6) (R:=(List aj0)) 34 [(true,[.str,.int .i64,.int .i64,.int .i64,.slice 41])] false (fun xs=>(⟨(cg (xs.getD 0 []) 0).toStr,(cg (xs.getD 0 []) 1).toInt,(cg (xs.getD 0 []) 2).toInt,(cg (xs.getD 0 []) 3).toInt,((cg (xs.getD 0 []) 4).toSl.map akb)⟩:aj6)) (fun a=>[[.str a.Serial,.int a.Cyls,.int a.Heads,.int a.Size,.slice (List.map aj4 a.Sets)]]) (fun a=>bwn n a) (fun r=>[.own 0 [.int .i64,.int .i64] 0 r.length]) (fun r=>[.row 80 (List.map aj2 r)])
theorem cwk (n:Nat):aj1 jd (byy n):=by
 have hΓ:=g1 (akc n) (g1 (ezr n) (@g0 (aj1 jd)));have qe:=aI @az6.eq_1 @dqb.eq_1;refine ajb (Tryz.f34.body.getD .skip) h00 Tryz.func34 rfl Tryz.call34 (by decide) (fun _ r=>⟨rfl,m1 ⟨80,_,_,rfl,ty80,rfl⟩ m0⟩) ?_;rintro v r H
 try dsimp only at H
 unfold bwn at H;simp only [Tryz.f34,jz];refine rA ?_;refine js fun K2 hK2=>?_;obtain ⟨r1,hr1,H⟩:=bind_some H;have q:=aI qe hr1;refine rAq ?_;refine cnd H (fun h4 H=>?_) (fun h4 H=>?_)
 ·refine rA ?_;refine jC (lf ?_);obtain rfl:=sI H;exact rto [none]
 refine jy (hK2 _ ?_);refine rA ?_;refine Jp (fun (x:(List aj0))=>dqk v x) (fun x=>bkp n v x=some r) ?_ ?_
 ·refine rA ?_;refine jN ?_;obtain ⟨y9,hy9,Ho9⟩:=bind_some H;refine Jl _ (fun x=>dqe v (v.Sets.length:Int) x.1 x.2) hy9 (wb [some 16,some 208]) ?_;rintro ⟨used_1,v17⟩ z9 H
  try dsimp only at H
  unfold bjn at H;refine Sm.st (dqe.eq_1 ..) ?_;refine rA ?_;refine js fun K11 hK11=>?_;refine cnd H (fun h12 H=>?_) (fun h12 H=>?_)
  ·refine jy (hK11 _ (js fun K13 hK13=>jN ?_));obtain ⟨hg16,H⟩:=aj8 H;refine rA ?_;obtain ⟨hg15,H⟩:=aj8 H;refine eA ?_;refine hK13 _ ?_;refine eA ?_;refine lf ?_;exact nx H (wb [some 9004,some 384])
  refine Js (lf ?_);refine lx H fun hyy=>?_;subst hyy;have H:=Ho9
  try dsimp only at H
  refine lf ?_;exact ⟨_,H,wb [some 9004,some 9005]⟩
 rintro used H
 try dsimp only at H
 unfold bkp at H;refine Sm.st (dqk.eq_1 ..) ?_;obtain ⟨r2,hr2,H⟩:=bind_some H;have q:=aI qe hr2;refine rAq ?_;refine jC (lf ?_);obtain rfl:=sI H;exact rto [some 512]
abbrev cwc:S:=stB [] []
def bzj (n:Nat):Option Bool :=
 some true
abbrev cqi (n_:Int) (l:List aj0) (v9:Int) (end_:Int) (v10:Int):S:=stB [(1,.c (.int .i64) (.int n_)),(5,.c (.int .i64) (.int end_)),(8,.c (.slice 80) (.slice (List.map aj2 l))),(9,.c (.int .i64) (.int v9)),(10,.c (.int .i64) (.int v10))] []
def ak5 (n:Nat) (n_:Int) (l:List aj0) (v9:Int) (end_:Int) (v10:Int):Option ((Int×Int) ⊕ (((Bool) ⊕ (Unit)))) :=
 bif (decide (v10 < v9)) then
  gd ((0≤v10∧v10 < (l.length:Int))) <|
  (bjq n (gt l (Int.toNat v10))).bind fun r1 =>
  bif (if (if (!r1)=true then true else (decide (((gt l (Int.toNat v10)).At)≤end_)))=true then true else (decide ((jb .i64 (((gt l (Int.toNat v10)).At)+((gt l (Int.toNat v10)).Len))) > n_))) then
   some (.inr (.inl false))
  else
   some (.inl ((jb .i64 (((gt l (Int.toNat v10)).At)+((gt l (Int.toNat v10)).Len))),(jb .i64 (v10+1))))
 else
  some (.inr (.inr ()))
def bwg (n:Nat) (l:List aj0) (n_:Int):Option Bool :=
 (ajo (fun (x:Int×Int)=>ak5 n n_ l (l.length:Int) x.1 x.2) n ((-1),0)).bind fun y5 =>
 match y5 with
 | .inl vv =>
  some vv
 | .inr vv =>
  bzj n
def cku (n:Nat):Go.AE.Fn:=mkFn (A:=(List aj0)×Int) (R:=Bool) 137 [(false,[.slice 80]),(false,[.int .i64])] false (fun xs=>(((cg (xs.getD 0 []) 0).toSl.map aqm),(cg (xs.getD 1 []) 0).toInt)) (fun a=>[[.slice (List.map aj2 a.1)],[.int a.2]]) (fun a=>bwg n a.1 a.2) (fun r=>[.c .bool (.bool r)]) (fun r=>[])
theorem ewd (n:Nat):aj1 jd (cku n):=by
 have hΓ:=g1 (cyd n) (@g0 (aj1 jd));refine cF (Tryz.f137.body.getD .skip) Tryz.func137 rfl Tryz.call137 ?_;rintro ⟨l,n_⟩ r H
 try dsimp only at H
 unfold bwg at H;simp only [Tryz.f137,jz];refine rA ?_;refine rA ?_;refine Jp (fun (x:Unit)=>cwc) (fun x=>bzj n=some r) ?_ ?_
 ·refine rA ?_;refine jN ?_;obtain ⟨y5,hy5,Ho5⟩:=bind_some H;refine Jl _ (fun x=>cqi n_ l (l.length:Int) x.1 x.2) hy5 (wb []) ?_;rintro ⟨end_,v10⟩ z5 H
  try dsimp only at H
  unfold ak5 at H;refine Sm.st (cqi.eq_1 ..) ?_;refine rA ?_;refine js fun K7 hK7=>?_;refine cnd H (fun h8 H=>?_) (fun h8 H=>?_)
  ·refine jy (hK7 _ (js fun K9 hK9=>jN ?_));obtain ⟨hg15,H⟩:=aj8 H;refine rA ?_;refine js fun K11 hK11=>?_;obtain ⟨r1,hr1,H⟩:=bind_some H;have q:=aI @cj2.eq_1 hr1;refine rAq ?_;refine cnd H (fun h13 H=>?_) (fun h13 H=>?_)
   ·refine rA ?_;refine jC (lf ?_);refine lx H fun hyy=>?_;subst hyy;have H:=Ho5
    try dsimp only at H
    refine lf ?_;obtain rfl:=sI H;exact rt []
   refine jy (hK11 _ ?_);refine eA ?_;refine hK9 _ ?_;refine eA ?_;refine lf ?_;exact nx H (wb [])
  refine Js (lf ?_);refine lx H fun hyy=>?_;subst hyy;have H:=Ho5
  try dsimp only at H
  refine lf ?_;exact ⟨(),H,wb []⟩
 rintro ⟨⟩ H
 try dsimp only at H
 unfold bzj at H;refine Sm.st (cwc.eq_1 ..) ?_;refine rA ?_;refine jC (lf ?_);obtain rfl:=sI H;exact rt []
def aqs (n:Nat) (s:List aj0) (s_l:Nat) (i:Int) (j:Int):Option (Nat×(List aj0)) :=
 gd ((0≤i∧i≤j∧j≤((s_l:Nat):Int)∧((s_l:Nat):Int)≤(s_l:Int))) <|
 bif (i == j) then
  some (s_l,s)
 else
  gd ((0≤i∧i≤(s.length:Int))∧(0≤j∧j≤(s_l:Int)∧(s_l:Int)≤(s.length:Int))∧((Int.toNat (i - 0))+(List.take (Int.toNat ((s_l:Int) - j)) (List.drop (Int.toNat j) s)).length)≤s.length) <|
  gd ((0≤((((Int.toNat (i - 0))+(List.take (Int.toNat ((s_l:Int) - j)) (List.drop (Int.toNat j) s)).length):Nat):Int)∧((((Int.toNat (i - 0))+(List.take (Int.toNat ((s_l:Int) - j)) (List.drop (Int.toNat j) s)).length):Nat):Int)≤((s_l:Nat):Int)∧((s_l:Nat):Int)≤(s.length:Int))∧(((Int.toNat (i - 0))+(List.take (Int.toNat ((s_l:Int) - j)) (List.drop (Int.toNat j) s)).length)+(Int.toNat (((s_l:Nat):Int) - ((((Int.toNat (i - 0))+(List.take (Int.toNat ((s_l:Int) - j)) (List.drop (Int.toNat j) s)).length):Nat):Int))))≤s.length) <|
  some (((Int.toNat (i - 0))+(List.take (Int.toNat ((s_l:Int) - j)) (List.drop (Int.toNat j) s)).length),(bk8 (bk8 s (Int.toNat (i - 0)) (List.take (Int.toNat ((s_l:Int) - j)) (List.drop (Int.toNat j) s))) ((Int.toNat (i - 0))+(List.take (Int.toNat ((s_l:Int) - j)) (List.drop (Int.toNat j) s)).length) (awi (Int.toNat (((s_l:Nat):Int) - ((((Int.toNat (i - 0))+(List.take (Int.toNat ((s_l:Int) - j)) (List.drop (Int.toNat j) s)).length):Nat):Int))) (⟨0,0⟩:aj0))))
theorem bqg (n:Nat) (s:List aj0) (s_l:Nat) (i:Int) (j:Int) (r:Nat×(List aj0)) (H:aqs n s s_l i j=some r):aw8 jd 138 [.ref (.own 0 [.int .i64,.int .i64] 0 s_l),.dat (false,[.int .i64]) [.int i],.dat (false,[.int .i64]) [.int j]] [.row 80 (List.map aj2 s)] [.own 0 [.int .i64,.int .i64] 0 r.1] [.row 80 (List.map aj2 r.2)]:=by
 have hΓ:=@g0 (aj1 jd);refine aw9 (Tryz.f138.body.getD .skip) h00 Tryz.func138 rfl Tryz.call138 (jp rfl) (jp rfl) ?_;unfold aqs at H;simp only [Tryz.f138,jz];refine rA ?_;refine sX fun K2 hK2=>?_;obtain ⟨hg3,H⟩:=aj8 H
 iterate 5 refine oX ?_
 refine oY ?_;refine hK2 _ (js fun K4 hK4=>?_);refine rA ?_;refine cnd H (fun h6 H=>?_) (fun h6 H=>?_)
 ·refine rA ?_;refine jC (lf ?_);obtain rfl:=sI H;exact rtM [some 0]
 refine jy (hK4 _ ?_);refine rA ?_;obtain ⟨⟨hg14,hg15,hg16⟩,H⟩:=aj8 H;refine rD ?_;refine sX fun K10 hK10=>?_;obtain ⟨⟨hg11,hg12⟩,H⟩:=aj8 H
 iterate 5 refine oX ?_
 refine oY ?_;refine hK10 _ ?_;refine rA ?_;refine jC (lf ?_);obtain rfl:=sI H;exact rtM [some 0]
abbrev cka:S:=stB [] []
def bky (n:Nat):Option ((List aj0)×(List aj0)×Int) :=
 some ([],[],200)
abbrev czn (want_1:Int) (most:Int) (got:List aj0) (rest:List aj0) (rest_2:Nat) (longest:Int):S:=stB [(1,.c (.int .i64) (.int want_1)),(2,.c (.int .i64) (.int most)),(6,.own 9005 [.int .i64,.int .i64] 0 got.length),(7,.own 9006 [.int .i64,.int .i64] 0 rest_2),(9,.c (.int .i64) (.int longest))] [(9005,.row 80 (List.map aj2 got)),(9006,.row 80 (List.map aj2 rest))]
def bw6 (n:Nat) (want_1:Int) (most:Int) (got:List aj0) (rest:List aj0) (rest_2:Nat) (longest:Int):Option ((Int×(List aj0)×(List aj0)×Nat) ⊕ ((((List aj0)×(List aj0)×Int) ⊕ (Unit)))) :=
 gd ((0≤longest∧longest < (rest_2:Int))∧(Int.toNat longest) < rest.length∧(got.length+1)≤2147483648) <|
 gd ((0≤longest∧longest < (rest_2:Int))∧(Int.toNat longest) < rest.length) <|
 (aqs n rest rest_2 longest (jb .i64 (longest+1))).bind fun r3 =>
 some (.inl ((jb .i64 (want_1 - ((gt rest (Int.toNat longest)).Len))),(got ++ [(gt rest (Int.toNat longest))]),r3.2,r3.1))
abbrev czv (want_1:Int) (most:Int) (got:List aj0) (rest:List aj0) (rest_4:Nat) (longest_2:Int) (v35:Int) (v36:Int):S:=stB [(1,.c (.int .i64) (.int want_1)),(2,.c (.int .i64) (.int most)),(6,.own 9013 [.int .i64,.int .i64] 0 got.length),(7,.own 9014 [.int .i64,.int .i64] 0 rest_4),(9,.c (.int .i64) (.int longest_2)),(34,.own 9014 [.int .i64,.int .i64] 0 rest_4),(35,.c (.int .i64) (.int v35)),(36,.c (.int .i64) (.int v36))] [(9013,.row 80 (List.map aj2 got)),(9014,.row 80 (List.map aj2 rest))]
def ayv (n:Nat) (want_1:Int) (most:Int) (got:List aj0) (rest:List aj0) (rest_4:Nat) (longest_2:Int) (v35:Int) (v36:Int):Option ((Nat×Int×Int) ⊕ ((((List aj0)×(List aj0)×Int) ⊕ (Nat×Int)))) :=
 some (.inl (rest_4,longest_2,(jb .i64 (v36+1))))
abbrev ck9 (want_1:Int) (most:Int) (got:List aj0) (rest:List aj0) (v35:Int) (rest_3:Nat) (longest_1:Int) (v36:Int):S:=stB [(1,.c (.int .i64) (.int want_1)),(2,.c (.int .i64) (.int most)),(6,.own 9011 [.int .i64,.int .i64] 0 got.length),(7,.own 9012 [.int .i64,.int .i64] 0 rest_3),(9,.c (.int .i64) (.int longest_1)),(34,.own 9012 [.int .i64,.int .i64] 0 rest_3),(35,.c (.int .i64) (.int v35)),(36,.c (.int .i64) (.int v36))] [(9011,.row 80 (List.map aj2 got)),(9012,.row 80 (List.map aj2 rest))]
def azq (n:Nat) (want_1:Int) (most:Int) (got:List aj0) (rest:List aj0) (v35:Int) (rest_3:Nat) (longest_1:Int) (v36:Int):Option ((Nat×Int×Int) ⊕ ((((List aj0)×(List aj0)×Int) ⊕ (Nat×Int)))) :=
 bif (decide (v36 < v35)) then
  gd ((0≤v36∧v36 < (rest_3:Int))∧(Int.toNat v36) < rest.length) <|
  bif (decide (((gt rest (Int.toNat v36)).Len) > want_1)) then
   gd ((got.length+1)≤2147483648) <|
   gd ((0≤v36∧v36 < (rest_3:Int))∧(Int.toNat v36) < rest.length) <|
   some (.inr (.inl ((got ++ [(⟨(gt rest (Int.toNat v36)).At,want_1⟩:aj0)]),(List.take rest_3 (List.set rest (Int.toNat v36) (⟨(jb .i64 (((gt rest (Int.toNat v36)).At)+want_1)),(jb .i64 (((gt rest (Int.toNat v36)).Len) - want_1))⟩:aj0))),0)))
  else
   bif (((gt rest (Int.toNat v36)).Len) == want_1) then
    gd ((got.length+1)≤2147483648) <|
    (aqs n rest rest_3 v36 (jb .i64 (v36+1))).bind fun r4 =>
    some (.inr (.inl ((got ++ [(gt rest (Int.toNat v36))]),(List.take r4.1 r4.2),0)))
   else
    gd ((0≤longest_1∧longest_1 < (rest_3:Int))∧(Int.toNat longest_1) < rest.length) <|
    bif (decide (((gt rest (Int.toNat v36)).Len) > ((gt rest (Int.toNat longest_1)).Len))) then
     ayv n want_1 most got rest rest_3 v36 v35 v36
    else
     ayv n want_1 most got rest rest_3 longest_1 v35 v36
 else
  some (.inr (.inr (rest_3,longest_1)))
abbrev czl (most:Int) (want_1:Int) (got:List aj0) (rest:List aj0) (rest_1:Nat):S:=stB [(1,.c (.int .i64) (.int want_1)),(2,.c (.int .i64) (.int most)),(6,.own 9003 [.int .i64,.int .i64] 0 got.length),(7,.own 9004 [.int .i64,.int .i64] 0 rest_1)] [(9003,.row 80 (List.map aj2 got)),(9004,.row 80 (List.map aj2 rest))]
def awy (n:Nat) (most:Int) (want_1:Int) (got:List aj0) (rest:List aj0) (rest_1:Nat):Option ((Int×(List aj0)×(List aj0)×Nat) ⊕ ((((List aj0)×(List aj0)×Int) ⊕ (Unit)))) :=
 bif (if (decide (((got.length:Nat):Int) < most))=true then (decide (((rest_1:Nat):Int) > 0)) else false) then
  (ajo (fun (x:Nat×Int×Int)=>azq n want_1 most got rest ((rest_1:Nat):Int) x.1 x.2.1 x.2.2) n (rest_1,0,0)).bind fun y23 =>
  match y23 with
  | .inl vv =>
   some (.inr (.inl (vv.1,vv.2.1,vv.2.2)))
  | .inr vv =>
   bw6 n want_1 most got rest vv.1 vv.2
 else
  some (.inr (.inr ()))
def az3 (n:Nat) (free:List aj0) (want:Int) (most:Int):Option ((List aj0)×(List aj0)×Int) :=
 (bwg n free 512).bind fun r1 =>
 bif (if (if (!r1)=true then true else (decide (want < 1)))=true then true else (decide (most < 1))) then
  some ([],[],1)
 else
  (az1 n free).bind fun r2 =>
  (ajo (fun (x:Int×(List aj0)×(List aj0)×Nat)=>awy n most x.1 x.2.1 x.2.2.1 x.2.2.2) n (want,[],r2,r2.length)).bind fun y9 =>
  match y9 with
  | .inl vv =>
   some (vv.1,vv.2.1,vv.2.2)
  | .inr vv =>
   bky n
def bkk (n:Nat):Go.AE.Fn:=mkFn (A:=(List aj0)×Int×Int) (R:=(List aj0)×(List aj0)×Int) 85 [(false,[.slice 80]),(false,[.int .i64]),(false,[.int .i64])] true (fun xs=>(((cg (xs.getD 0 []) 0).toSl.map aqm),(cg (xs.getD 1 []) 0).toInt,(cg (xs.getD 2 []) 0).toInt)) (fun a=>[[.slice (List.map aj2 a.1)],[.int a.2.1],[.int a.2.2]]) (fun a=>az3 n a.1 a.2.1 a.2.2) (fun r=>[.own 0 [.int .i64,.int .i64] 0 r.1.length,.c (.slice 80) (.slice (List.map aj2 r.2.1)),.c (.int .i64) (.int r.2.2)]) (fun r=>[.row 80 (List.map aj2 r.1)])
theorem cqb (n:Nat):aj1 jd (bkk n):=by
 have hΓ:=g1 (ewd n) (g1 (aku n) (@g0 (aj1 jd)));have qe:=aI @cku.eq_1 @awl.eq_1;refine ajb (Tryz.f85.body.getD .skip) h00 Tryz.func85 rfl Tryz.call85 (by decide) (by intro h;cases h) ?_;rintro ⟨free,want,most⟩ r H
 try dsimp only at H
 unfold az3 at H;simp only [Tryz.f85,jz];refine rA ?_;refine Sm.scope ?_;refine js fun K2 hK2=>?_;obtain ⟨r1,hr1,H⟩:=bind_some H;have q:=aI qe hr1;refine rAq ?_;refine cnd H (fun h4 H=>?_) (fun h4 H=>?_)
 ·refine rA ?_;refine jC (lf ?_);obtain rfl:=sI H;exact rto [none]
 refine jy (hK2 _ ?_);obtain ⟨r2,hr2,H⟩:=bind_some H;have q:=aI qe hr2;refine rAq ?_;refine js fun K7 hK7=>?_;refine Sm.of (Γ:=[]) h00 mixed (by simp) rfl ?_;refine hK7 _ ?_;refine Jp (fun (x:Unit)=>cka) (fun x=>bky n=some r) ?_ ?_
 ·refine jN ?_;obtain ⟨y9,hy9,Ho9⟩:=bind_some H;refine Jl _ (fun x=>czl most x.1 x.2.1 x.2.2.1 x.2.2.2) hy9 (wb [none,some 384]) ?_;rintro ⟨want_1,got,rest,rest_1⟩ z9 H
  try dsimp only at H
  unfold awy at H;refine Sm.st (czl.eq_1 ..) ?_;refine js fun K10 hK10=>?_;refine rA ?_;refine cnd H (fun h12 H=>?_) (fun h12 H=>?_)
  ·refine jy (hK10 _ (jN ?_));refine rA ?_;refine Jp (fun (x:Nat×Int)=>czn want_1 most got rest x.1 x.2) (fun x=>bw6 n want_1 most got rest x.1 x.2=some z9) ?_ ?_
   ·refine rA ?_;refine jN ?_;obtain ⟨y23,hy23,Ho23⟩:=bind_some H;refine Jl _ (fun x=>ck9 want_1 most got rest ((rest_1:Nat):Int) x.1 x.2.1 x.2.2) hy23 (wb [some 9003,some 9004]) ?_;rintro ⟨rest_3,longest_1,v36⟩ z23 H
    try dsimp only at H
    unfold azq at H;refine Sm.st (ck9.eq_1 ..) ?_;refine rA ?_;refine js fun K25 hK25=>?_;refine cnd H (fun h26 H=>?_) (fun h26 H=>?_)
    ·refine jy (hK25 _ ?_);refine Jp (fun (x:Int)=>czv want_1 most got rest rest_3 x ((rest_1:Nat):Int) v36) (fun x=>ayv n want_1 most got rest rest_3 x ((rest_1:Nat):Int) v36=some z23) ?_ ?_
     ·refine jN ?_;obtain ⟨⟨hg47,hg48⟩,H⟩:=aj8 H;refine rA ?_;refine js fun K28 hK28=>?_;refine rA ?_;refine cnd H (fun h30 H=>?_) (fun h30 H=>?_)
      ·obtain ⟨hg36,H⟩:=aj8 H;refine rA ?_;obtain ⟨⟨hg34,hg35⟩,H⟩:=aj8 H;refine rA ?_;refine rA ?_;refine jC (lf ?_);refine lx H fun hyy=>?_;subst hyy;have H:=Ho23
       try dsimp only at H
       refine lf ?_;refine lx H fun hyy=>?_;subst hyy;have H:=Ho9
       try dsimp only at H
       refine lf ?_;obtain rfl:=sI H;exact rto [some 816]
      refine jy (hK28 _ (js fun K37 hK37=>?_));refine rA ?_;refine cnd H (fun h39 H=>?_) (fun h39 H=>?_)
      ·obtain ⟨hg42,H⟩:=aj8 H;refine rA ?_;refine sX fun K41 hK41=>?_;obtain ⟨r4,hr4,H⟩:=bind_some H;have q:=hr4
       iterate 5 refine oX ?_
       refine oMq (bqg n _ _ _ _ r4 hr4) [9012] [] ?_
       iterate 3 refine oXq ?_
       refine hK41 _ (jC (lf ?_));refine lx H fun hyy=>?_;subst hyy;have H:=Ho23
       try dsimp only at H
       refine lf ?_;refine lx H fun hyy=>?_;subst hyy;have H:=Ho9
       try dsimp only at H
       refine lf ?_;obtain rfl:=sI H;exact rto [some 1168]
      refine jy (hK37 _ ?_);obtain ⟨⟨hg45,hg46⟩,H⟩:=aj8 H;refine rD ?_;refine cnd H (fun h44 H=>?_) (fun h44 H=>?_)
      ·refine eA ?_;refine lf ?_;exact ⟨_,H,wb [some 9011,some 9012]⟩
      refine jy (lf ?_);exact ⟨_,H,wb [some 9011,some 9012]⟩
     rintro longest_2 H
     try dsimp only at H
     unfold ayv at H;refine Sm.st (czv.eq_1 ..) ?_;refine eA ?_;refine lf ?_;exact nx H (wb [some 9013,some 9014])
    refine Js (lf ?_);refine lx H fun hyy=>?_;subst hyy;have H:=Ho23
    try dsimp only at H
    refine lf ?_;exact ⟨(rest_3,longest_1),H,wb [some 9011,some 9012]⟩
   rintro ⟨rest_2,longest⟩ H
   try dsimp only at H
   unfold bw6 at H;refine Sm.st (czn.eq_1 ..) ?_;obtain ⟨⟨hg19,hg20,hg21⟩,H⟩:=aj8 H;refine rA ?_;obtain ⟨⟨hg17,hg18⟩,H⟩:=aj8 H;refine rA ?_;refine sX fun K16 hK16=>?_;obtain ⟨r3,hr3,H⟩:=bind_some H;have q:=hr3
   iterate 4 refine oX ?_
   refine oMq (bqg n _ _ _ _ r3 hr3) [9006] [] ?_;refine oXq ?_;refine hK16 _ (Js (lf ?_));exact nx H (wb [some 1536,some 9006])
  refine Js (lf ?_);refine lx H fun hyy=>?_;subst hyy;have H:=Ho9
  try dsimp only at H
  refine lf ?_;exact ⟨(),H,wb []⟩
 rintro ⟨⟩ H
 try dsimp only at H
 unfold bky at H;refine Sm.st (cka.eq_1 ..) ?_;refine rA ?_;refine jC (lf ?_);obtain rfl:=sI H;exact rto [none]
abbrev bwz (v:aj6) (l:List aj5):S:=stB [(1,.box 9000 0),(2,.box 9001 0),(3,.own 9002 kD 0 l.length)] [(9000,.box (cV v)),(9001,.box [.c .str (.str []),.c (.int .i64) (.int 0),.c (.int .i64) (.int 0),.c (.int .i64) (.int 0),.nilsl]),(9002,.row 41 (List.map aj4 l))]
def aws (n:Nat) (v:aj6) (l:List aj5):Option aj6 :=
 some (⟨v.Serial,v.Cyls,v.Heads,v.Size,l⟩:aj6)
abbrev azw (v:aj6) (v16:Int) (l_1:List aj5) (v17:Int):S:=stB [(1,.box 9006 0),(2,.box 9007 0),(3,.own 9008 kD 0 l_1.length),(15,.c (.slice 41) (.slice (List.map aj4 v.Sets))),(16,.c (.int .i64) (.int v16)),(17,.c (.int .i64) (.int v17))] [(9006,.box (cV v)),(9007,.box [.c .str (.str []),.c (.int .i64) (.int 0),.c (.int .i64) (.int 0),.c (.int .i64) (.int 0),.nilsl]),(9008,.row 41 (List.map aj4 l_1))]
def aqi (n:Nat) (v:aj6) (v16:Int) (l_1:List aj5) (v17:Int):Option (((List aj5)×Int) ⊕ (((List aj5)))) :=
 bif (decide (v17 < v16)) then
  gd ((0≤v17∧v17 < (v.Sets.length:Int))) <|
  (az1 n ((gt v.Sets (Int.toNat v17)).Extents)).bind fun r1 =>
  gd ((0≤v17∧v17 < (l_1.length:Int))∧(Int.toNat v17) < l_1.length) <|
  some (.inl ((List.set l_1 (Int.toNat v17) (⟨(gt v.Sets (Int.toNat v17)).Name,((gt v.Sets (Int.toNat v17)).Dcb),r1,(gt v.Sets (Int.toNat v17)).Used⟩:aj5)),(jb .i64 (v17+1))))
 else
  some (.inr l_1)
def ajn (n:Nat) (v:aj6):Option aj6 :=
 gd ((0≤(v.Sets.length:Int)∧(v.Sets.length:Int)≤(jb .i64 ((v.Sets.length:Int)+1))∧(jb .i64 ((v.Sets.length:Int)+1))≤2147483648)) <|
 (ajo (fun (x:(List aj5)×Int)=>aqi n v (v.Sets.length:Int) x.1 x.2) n ((awi (Int.toNat (v.Sets.length:Int)) (⟨[],(⟨0,0,false,false,0,0,0,0⟩:TDcb),[],0⟩:aj5)),0)).bind fun y7 =>
 aws n v y7
def awj (n:Nat):Go.AE.Fn:=mkFn (A:=aj6) (R:=aj6) 57 [(true,[.str,.int .i64,.int .i64,.int .i64,.slice 41])] true (fun xs=>(⟨(cg (xs.getD 0 []) 0).toStr,(cg (xs.getD 0 []) 1).toInt,(cg (xs.getD 0 []) 2).toInt,(cg (xs.getD 0 []) 3).toInt,((cg (xs.getD 0 []) 4).toSl.map akb)⟩:aj6)) (fun a=>[[.str a.Serial,.int a.Cyls,.int a.Heads,.int a.Size,.slice (List.map aj4 a.Sets)]]) (fun a=>ajn n a) (fun r=>[.agg [.c .str (.str r.Serial),.c (.int .i64) (.int r.Cyls),.c (.int .i64) (.int r.Heads),.c (.int .i64) (.int r.Size),.own 0 kD 0 r.Sets.length]]) (fun r=>[.row 41 (List.map aj4 r.Sets)])
theorem azl (n:Nat):aj1 jd (awj n):=by
 have hΓ:=g1 (aku n) (@g0 (aj1 jd));refine ajb (Tryz.f57.body.getD .skip) h00 Tryz.func57 rfl Tryz.call57 (by decide) (by intro h;cases h) ?_;rintro v r H
 try dsimp only at H
 unfold ajn at H;simp only [Tryz.f57,jz];refine rA ?_;refine sX fun K2 hK2=>?_;obtain ⟨hg3,H⟩:=aj8 H
 iterate 7 refine oX ?_
 refine oY ?_;refine oX ?_;refine hK2 _ ?_;refine Jp (fun (x:(List aj5))=>bwz v x) (fun x=>aws n v x=some r) ?_ ?_
 ·refine rA ?_;refine jN ?_;obtain ⟨y7,hy7,Ho7⟩:=bind_some H;refine Jl _ (fun x=>azw v (v.Sets.length:Int) x.1 x.2) hy7 (wb [some 16,some 32,some 208]) ?_;rintro ⟨l_1,v17⟩ z7 H
  try dsimp only at H
  unfold aqi at H;refine Sm.st (azw.eq_1 ..) ?_;refine rA ?_;refine js fun K9 hK9=>?_;refine cnd H (fun h10 H=>?_) (fun h10 H=>?_)
  ·refine jy (hK9 _ (js fun K11 hK11=>jN ?_));obtain ⟨hg16,H⟩:=aj8 H;refine rA ?_;obtain ⟨r1,hr1,H⟩:=bind_some H;have q:=aI @awl.eq_1 hr1;refine rAq ?_;obtain ⟨⟨hg14,hg15⟩,H⟩:=aj8 H;refine eA ?_;refine hK11 _ ?_;refine eA ?_;refine lf ?_;exact nx H (wb [some 9006,some 9007,some 9008])
  refine Js (lf ?_);refine lx H fun hyy=>?_;subst hyy;have H:=Ho7
  try dsimp only at H
  refine lf ?_;exact ⟨_,H,wb [some 9006,some 9007,some 9008]⟩
 rintro l H
 try dsimp only at H
 unfold aws at H;refine Sm.st (bwz.eq_1 ..) ?_;refine rA ?_;refine rA ?_;refine jC (lf ?_);obtain rfl:=sI H;exact rto [some 9002]
def bjh (n:Nat) (v:aj6) (d:aj5) (tracks:Int):Option (aj6×Int) :=
 (awb n v).bind fun r1 =>
 bif (r1 != 0) then
  some ((⟨[],0,0,0,[]⟩:aj6),r1)
 else
  (bk2 n d.Name).bind fun r2 =>
  gd (((!(!r2))=true→(aqn n d.Dcb).isSome=true)) <|
  bif (if (if (!r2)=true then true else (!((aqn n d.Dcb).getD default)))=true then true else (decide (tracks < 1))) then
   some ((⟨[],0,0,0,[]⟩:aj6),1)
  else
   (ajt n v d.Name).bind fun r3 =>
   bif r3.2 then
    some ((⟨[],0,0,0,[]⟩:aj6),4)
   else
    bif ((v.Sets.length:Int) == (if (jb .i64 (14 * v.Size)) < 64 then (jb .i64 (14 * v.Size)) else 64)) then
     some ((⟨[],0,0,0,[]⟩:aj6),7)
    else
     (bwn n v).bind fun r4 =>
     (az3 n r4 tracks 8).bind fun r5 =>
     bif (r5.2.2 != 0) then
      some ((⟨[],0,0,0,[]⟩:aj6),r5.2.2)
     else
      (ajn n v).bind fun r6 =>
      (bq6 n r6.Sets r3.1 [(⟨d.Name,d.Dcb,r5.1,0⟩:aj5)]).bind fun r7 =>
      some ((⟨r6.Serial,r6.Cyls,r6.Heads,r6.Size,r7⟩:aj6),0)
def cqp (n:Nat):Go.AE.Fn:=mkFn (A:=aj6×aj5×Int) (R:=aj6×Int) 41 [(true,[.str,.int .i64,.int .i64,.int .i64,.slice 41]),(true,kD),(false,[.int .i64])] true (fun xs=>((⟨(cg (xs.getD 0 []) 0).toStr,(cg (xs.getD 0 []) 1).toInt,(cg (xs.getD 0 []) 2).toInt,(cg (xs.getD 0 []) 3).toInt,((cg (xs.getD 0 []) 4).toSl.map akb)⟩:aj6),(⟨(cg (xs.getD 1 []) 0).toStr,(⟨(cg (xs.getD 1 []) 1).toInt,(cg (xs.getD 1 []) 2).toInt,(cg (xs.getD 1 []) 3).toBool,(cg (xs.getD 1 []) 4).toBool,(cg (xs.getD 1 []) 5).toInt,(cg (xs.getD 1 []) 6).toInt,(cg (xs.getD 1 []) 7).toInt,(cg (xs.getD 1 []) 8).toInt⟩:TDcb),((cg (xs.getD 1 []) 9).toSl.map aqm),(cg (xs.getD 1 []) 10).toInt⟩:aj5),(cg (xs.getD 2 []) 0).toInt)) (fun a=>[[.str a.1.Serial,.int a.1.Cyls,.int a.1.Heads,.int a.1.Size,.slice (List.map aj4 a.1.Sets)],[.str a.2.1.Name,.int a.2.1.Dcb.Org,.int a.2.1.Dcb.Format,.bool a.2.1.Dcb.Blocked,.bool a.2.1.Dcb.Asa,.int a.2.1.Dcb.Lrecl,.int a.2.1.Dcb.Blksize,.int a.2.1.Dcb.KeyLen,.int a.2.1.Dcb.KeyPos,.slice (List.map aj2 a.2.1.Extents),.int a.2.1.Used],[.int a.2.2]]) (fun a=>bjh n a.1 a.2.1 a.2.2) (fun r=>[.agg [.c .str (.str r.1.Serial),.c (.int .i64) (.int r.1.Cyls),.c (.int .i64) (.int r.1.Heads),.c (.int .i64) (.int r.1.Size),.own 0 kD 0 r.1.Sets.length],.c (.int .i64) (.int r.2)]) (fun r=>[.row 41 (List.map aj4 r.1.Sets)])
theorem dq9 (n:Nat):aj1 jd (cqp n):=by
 have hΓ:=g1 (akc n) (g1 (dq5 n) (g1 (bk3 n) (g1 (awa n) (g1 (cwk n) (g1 (cqb n) (g1 (azl n) (@g0 (aj1 jd))))))));have qe:=aI @az6.eq_1 (aI @cws.eq_1 (aI @bq7.eq_1 (aI @aqr.eq_1 (aI @byy.eq_1 (aI @bkk.eq_1 @awj.eq_1)))));refine ajb (Tryz.f41.body.getD .skip) h00 Tryz.func41 rfl Tryz.call41 (by decide) (by intro h;cases h) ?_;rintro ⟨v,d,tracks⟩ r H
 try dsimp only at H
 unfold bjh at H;simp only [Tryz.f41,jz];refine rA ?_;refine js fun K2 hK2=>?_;obtain ⟨r1,hr1,H⟩:=bind_some H;have q:=aI qe hr1;refine rAq ?_;refine rA ?_;refine cnd H (fun h5 H=>?_) (fun h5 H=>?_)
 ·refine rA ?_;refine jC (lf ?_);obtain rfl:=sI H;exact rto [none]
 refine jy (hK2 _ (js fun K7 hK7=>?_));obtain ⟨r2,hr2,H⟩:=bind_some H;obtain ⟨hg28,H⟩:=aj8 H;have q:=aI qe hr2;refine rAq ?_;refine cnd H (fun h9 H=>?_) (fun h9 H=>?_)
 ·refine rA ?_;refine jC (lf ?_);obtain rfl:=sI H;exact rto [none]
 refine jy (hK7 _ ?_);obtain ⟨r3,hr3,H⟩:=bind_some H;have q:=aI qe hr3;refine rAq ?_;refine js fun K12 hK12=>?_;refine rA ?_;refine cnd H (fun h14 H=>?_) (fun h14 H=>?_)
 ·refine rA ?_;refine jC (lf ?_);obtain rfl:=sI H;exact rto [none]
 refine jy (hK12 _ (js fun K16 hK16=>?_));refine rA ?_;refine cnd H (fun h18 H=>?_) (fun h18 H=>?_)
 ·refine rA ?_;refine jC (lf ?_);obtain rfl:=sI H;exact rto [none]
 refine jy (hK16 _ ?_);obtain ⟨r4,hr4,H⟩:=bind_some H;obtain ⟨r5,hr5,H⟩:=bind_some H;have q:=aI qe (aI hr4 hr5);refine rAq ?_;refine js fun K21 hK21=>?_;refine rA ?_;refine cnd H (fun h23 H=>?_) (fun h23 H=>?_)
 ·refine rA ?_;refine jC (lf ?_);obtain rfl:=sI H;exact rto [none]
 refine jy (hK21 _ ?_);obtain ⟨r6,hr6,H⟩:=bind_some H;have q:=aI qe hr6;refine rAq ?_;refine sX fun K26 hK26=>?_;obtain ⟨r7,hr7,H⟩:=bind_some H;have q:=hr7
 iterate 10 refine oX ?_
 refine oMq (dwn n _ _ _ r7 hr7) [1072,1232] [1248] ?_
 iterate 2 refine oXq ?_
 refine hK26 _ ?_;refine rA ?_;refine jC (lf ?_);obtain rfl:=sI H;exact rto [some 1248]
abbrev cjx:S:=stB [] []
def bjb (n:Nat):Option Bool :=
 some true
abbrev cq0 (a:List aj0) (b:List aj0) (k:Int):S:=stB [(0,.c (.slice 80) (.slice (List.map aj2 a))),(1,.c (.slice 80) (.slice (List.map aj2 b))),(5,.c (.int .i64) (.int k))] []
def ake (n:Nat) (a:List aj0) (b:List aj0) (k:Int):Option ((Int) ⊕ (((Bool) ⊕ (Unit)))) :=
 bif (decide (k < (a.length:Int))) then
  gd ((0≤k∧k < (a.length:Int))∧(0≤k∧k < (b.length:Int))) <|
  bif (!((((gt a (Int.toNat k)).At) == ((gt b (Int.toNat k)).At)) && (((gt a (Int.toNat k)).Len) == ((gt b (Int.toNat k)).Len)))) then
   some (.inr (.inl false))
  else
   some (.inl (jb .i64 (k+1)))
 else
  some (.inr (.inr ()))
def aww (n:Nat) (a:List aj0) (b:List aj0):Option Bool :=
 bif ((a.length:Int) != (b.length:Int)) then
  some false
 else
  (ajo (fun (x:Int)=>ake n a b x) n 0).bind fun y8 =>
  match y8 with
  | .inl vv =>
   some vv
  | .inr vv =>
   bjb n
def by5 (n:Nat):Go.AE.Fn:=mkFn (A:=(List aj0)×(List aj0)) (R:=Bool) 49 [(false,[.slice 80]),(false,[.slice 80])] false (fun xs=>(((cg (xs.getD 0 []) 0).toSl.map aqm),((cg (xs.getD 1 []) 0).toSl.map aqm))) (fun a=>[[.slice (List.map aj2 a.1)],[.slice (List.map aj2 a.2)]]) (fun a=>aww n a.1 a.2) (fun r=>[.c .bool (.bool r)]) (fun r=>[])
theorem czj (n:Nat):aj1 jd (by5 n):=by
 have hΓ:=@g0 (aj1 jd);refine cF (Tryz.f49.body.getD .skip) Tryz.func49 rfl Tryz.call49 ?_;rintro ⟨a,b⟩ r H
 try dsimp only at H
 unfold aww at H;simp only [Tryz.f49,jz];refine rA ?_;refine js fun K2 hK2=>?_;refine rA ?_;refine cnd H (fun h4 H=>?_) (fun h4 H=>?_)
 ·refine rA ?_;refine jC (lf ?_);obtain rfl:=sI H;exact rt []
 refine jy (hK2 _ ?_);refine Jp (fun (x:Unit)=>cjx) (fun x=>bjb n=some r) ?_ ?_
 ·refine rA ?_;refine jN ?_;obtain ⟨y8,hy8,Ho8⟩:=bind_some H;refine Jl _ (fun x=>cq0 a b x) hy8 (wb []) ?_;rintro k z8 H
  try dsimp only at H
  unfold ake at H;refine Sm.st (cq0.eq_1 ..) ?_;refine js fun K9 hK9=>?_;refine rA ?_;refine cnd H (fun h11 H=>?_) (fun h11 H=>?_)
  ·refine jy (hK9 _ (js fun K12 hK12=>jN ?_));obtain ⟨⟨hg16,hg17⟩,H⟩:=aj8 H;refine rD ?_;refine cnd H (fun h14 H=>?_) (fun h14 H=>?_)
   ·refine rA ?_;refine jC (lf ?_);refine lx H fun hyy=>?_;subst hyy;have H:=Ho8
    try dsimp only at H
    refine lf ?_;obtain rfl:=sI H;exact rt []
   refine jy (hK12 _ ?_);refine eA ?_;refine lf ?_;exact nx H (wb [])
  refine Js (lf ?_);refine lx H fun hyy=>?_;subst hyy;have H:=Ho8
  try dsimp only at H
  refine lf ?_;exact ⟨(),H,wb []⟩
 rintro ⟨⟩ H
 try dsimp only at H
 unfold bjb at H;refine Sm.st (cjx.eq_1 ..) ?_;refine rA ?_;refine jC (lf ?_);obtain rfl:=sI H;exact rt []
def bk0 (n:Nat):Option Bool :=
 (ckq n [86,49] 4 2 1).bind fun r1 =>
 (cjg n).bind fun r2 =>
 (bjh n (⟨r1.1.Serial,r1.1.Cyls,r1.1.Heads,r1.1.Size,[]⟩:aj6) (⟨[65],r2,[],0⟩:aj5) 3).bind fun r3 =>
 (cjg n).bind fun r4 =>
 (bjh n r3.1 (⟨[66],r4,[],0⟩:aj5) 2).bind fun r5 =>
 (bwn n r5.1).bind fun r6 =>
 gd (((if (if (if (r1.2 == 0)=true then (r3.2 == 0) else false)=true then (r5.2 == 0) else false)=true then (((r5.1.Sets.length:Nat):Int) == 2) else false)=true→0 < (r5.1.Sets.length:Int))∧((if (if (if (r1.2 == 0)=true then (r3.2 == 0) else false)=true then (r5.2 == 0) else false)=true then (((r5.1.Sets.length:Nat):Int) == 2) else false)=true→0 < r5.1.Sets.length)) <|
 bif (if (if (if (r1.2 == 0)=true then (r3.2 == 0) else false)=true then (r5.2 == 0) else false)=true then (((r5.1.Sets.length:Nat):Int) == 2) else false) then
  gd ((if (if (if (r1.2 == 0)=true then (r3.2 == 0) else false)=true then (r5.2 == 0) else false)=true then (((r5.1.Sets.length:Nat):Int) == 2) else false)=true∧(if (if (if (r1.2 == 0)=true then (r3.2 == 0) else false)=true then (r5.2 == 0) else false)=true then (((r5.1.Sets.length:Nat):Int) == 2) else false)=true) <|
  (aww n ((gt r5.1.Sets 0).Extents) [(⟨2,3⟩:aj0)]).bind fun r7 =>
  gd ((r7=true→1 < (r5.1.Sets.length:Int))∧(r7=true→1 < r5.1.Sets.length)) <|
  bif r7 then
   gd (r7=true∧r7=true) <|
   (aww n ((gt r5.1.Sets 1).Extents) [(⟨5,2⟩:aj0)]).bind fun r8 =>
   bif r8 then
    gd (r8=true∧r8=true) <|
    (aww n r6 [(⟨7,1⟩:aj0)]).bind fun r9 =>
    some r9
   else
    some false
  else
   some false
 else
  some false
def dqq (n:Nat):Go.AE.Fn:=mkFn (A:=Unit) (R:=Bool) 14 [] false (fun xs=>()) (fun a=>[]) (fun a=>bk0 n) (fun r=>[.c .bool (.bool r)]) (fun r=>[])
theorem ekx (n:Nat):aj1 jd (dqq n):=by
 have hΓ:=g1 (eyb n) (g1 (ek0 n) (g1 (dq9 n) (g1 (cwk n) (g1 (czj n) (@g0 (aj1 jd))))));have qe:=aI @dk4.eq_1 (aI @dql.eq_1 (aI @cqp.eq_1 (aI @byy.eq_1 @by5.eq_1)));refine cF (Tryz.f14.body.getD .skip) Tryz.func14 rfl Tryz.call14 ?_;rintro ⟨⟩ r H
 try dsimp only at H
 unfold bk0 at H;simp only [Tryz.f14,jz];refine rA ?_;obtain ⟨r1,hr1,H⟩:=bind_some H;have q:=aI qe hr1;refine rAq ?_;obtain ⟨r2,hr2,H⟩:=bind_some H;obtain ⟨r3,hr3,H⟩:=bind_some H;refine sQ [0,1,2,3,4,5,6,7,8] [(none,[16],[]),(none,[],[207,206,205,204,203,202,201,200,199,198,197,196,195,194,193,192]),(none,[],[]),(none,[],[239,238,237,236,235,234,233,232,231,230,229,228,227,226,225,224]),(none,[],[]),(none,[],[]),(none,[],[]),(none,[16,224],[16]),(none,[],[])] fun K3 hK3=>?_;have q:=aI qe (aI hr2 hr3)
 iterate 9 refine oQq ?_
 refine cz0 ?_;refine hK3 _ ?_;obtain ⟨r4,hr4,H⟩:=bind_some H;obtain ⟨r5,hr5,H⟩:=bind_some H;refine sQ [0,1,2,3,4,5,6,7,8] [(none,[16],[]),(none,[],[319,318,317,316,315,314,313,312,311,310,309,308,307,306,305,304]),(none,[],[]),(none,[224],[351,350,349,348,347,346,345,344,343,342,341,340,339,338,337,336,224]),(none,[],[]),(none,[],[]),(none,[],[]),(none,[16,336],[16]),(none,[],[])] fun K4 hK4=>?_;have q:=aI qe (aI hr4 hr5)
 iterate 9 refine oQq ?_
 refine cz0 ?_;refine hK4 _ ?_;obtain ⟨r6,hr6,H⟩:=bind_some H;have q:=aI qe hr6;refine rAq ?_;refine sX fun K6 hK6=>?_;obtain ⟨⟨hg7,hg8⟩,H⟩:=aj8 H;have q:=qe
 iterate 23 refine oXq ?_
 refine bwe H (fun hs9 H=>?_) (fun hs9 H=>?_)
 ·try simp only [hs9,Ji,jT,jn,true_implies,false_implies,forall_const] at hg7
  try simp only [hs9,Ji,jT,jn,true_implies,false_implies,forall_const] at hg8
  obtain ⟨⟨hg10,hg11⟩,H⟩:=aj8 H;obtain ⟨r7,hr7,H⟩:=bind_some H;obtain ⟨⟨hg12,hg13⟩,H⟩:=aj8 H;have q:=aI qe (aI hs9 hr7);refine oTG ?_;refine oTG ?_;refine oPl ?_
  iterate 7 refine oXq ?_
  refine bwe H (fun hs14 H=>?_) (fun hs14 H=>?_)
  ·try simp only [z,seval,hs9,hr7] at hs14
   try simp only [hs14,Ji,jT,jn,true_implies,false_implies,forall_const] at hg12
   try simp only [hs14,Ji,jT,jn,true_implies,false_implies,forall_const] at hg13
   obtain ⟨⟨hg15,hg16⟩,H⟩:=aj8 H;obtain ⟨r8,hr8,H⟩:=bind_some H;have q:=aI qe (aI hs9 (aI hr7 (aI hs14 hr8)));refine oTG ?_;refine oTG ?_;refine oPl ?_
   iterate 3 refine oXq ?_
   refine bwe H (fun hs17 H=>?_) (fun hs17 H=>?_)
   ·try simp only [z,seval,hs9,hr7,hs14,hr8] at hs17
    obtain ⟨⟨hg18,hg19⟩,H⟩:=aj8 H;obtain ⟨r9,hr9,H⟩:=bind_some H;have q:=aI qe (aI hs9 (aI hr7 (aI hs14 (aI hr8 (aI hs17 hr9)))));refine oTG ?_;refine oTG ?_;refine oPl ?_;refine oXq ?_;refine hK6 _ (jC (lf ?_));obtain rfl:=sI H;exact rt []
   try simp only [z,seval,hs9,hr7,hs14,hr8] at hs17
   have q:=aI qe (aI hs9 (aI hr7 (aI hs14 (aI hr8 hs17))));refine oFq ?_;refine oFq ?_;refine oPr ?_;refine oXq ?_;refine hK6 _ (jC (lf ?_));obtain rfl:=sI H;exact rt []
  try simp only [z,seval,hs9,hr7] at hs14
  try simp only [hs14,Ji,jT,jn,true_implies,false_implies,forall_const] at hg12
  try simp only [hs14,Ji,jT,jn,true_implies,false_implies,forall_const] at hg13
  have q:=aI qe (aI hs9 (aI hr7 hs14));refine oFq ?_;refine oFq ?_;refine oPr ?_;refine oXq ?_;refine oFq ?_;refine oFq ?_;refine oFq ?_;refine oFq ?_;refine oPr ?_;refine oXq ?_;refine hK6 _ (jC (lf ?_));obtain rfl:=sI H;exact rt []
 try simp only [hs9,Ji,jT,jn,true_implies,false_implies,forall_const] at hg7
 try simp only [hs9,Ji,jT,jn,true_implies,false_implies,forall_const] at hg8
 have q:=aI qe hs9;refine oFq ?_;refine oFq ?_;refine oPr ?_;refine oXq ?_;refine oFq ?_;refine oFq ?_;refine oFq ?_;refine oFq ?_;refine oFq ?_;refine oFq ?_;refine oFq ?_;refine oFq ?_;refine oPr ?_;refine oXq ?_;refine oFq ?_;refine oFq ?_;refine oFq ?_;refine oFq ?_;refine oPr ?_;refine oXq ?_;refine hK6 _ (jC (lf ?_));obtain rfl:=sI H;exact rt []
def fjj (n:Nat):Option (List Int) :=
 some [64,90,127,123,91,108,80,125,77,93,92,78,107,96,75,97,240,241,242,243,244,245,246,247,248,249,122,94,76,126,110,111,124,193,194,195,196,197,198,199,200,201,209,210,211,212,213,214,215,216,217,226,227,228,229,230,231,232,233,186,224,187,176,109,121,129,130,131,132,133,134,135,136,137,145,146,147,148,149,150,151,152,153,162,163,164,165,166,167,168,169,192,79,208,161]
def fkm (n:Nat) (c:Int):Option (Int×Bool) :=
 bif (if (decide (c < 32))=true then true else (decide (c > 126))) then
  some (0,false)
 else
  (fjj n).bind fun r1 =>
  gd ((0≤(jb .u8 (c - 32))∧(jb .u8 (c - 32)) < (r1.length:Int))∧(Int.toNat (jb .u8 (c - 32))) < r1.length) <|
  some ((gt r1 (Int.toNat (jb .u8 (c - 32)))),true)
def aye (n:Nat) (p0:List aj5) (p0_i:Nat):Option Int :=
 some 0
theorem cye (n:Nat) (p0:List aj5) (p0_i:Nat) (r:Int) (H:aye n p0 p0_i=some r):aw8 jd 88 [.ref (.elt 0 11 kD p0_i 0)] [.row 41 (List.map aj4 p0)] [.c (.int .i64) (.int r)] [.row 41 (List.map aj4 p0)]:=by
 have hΓ:=@g0 (aj1 jd);refine aw9 (Tryz.f88.body.getD .skip) h00 Tryz.func88 rfl Tryz.call88 (jp rfl) (jp rfl) ?_;unfold aye at H;simp only [Tryz.f88,jz];refine rA ?_;refine rA ?_;refine jC (lf ?_);obtain rfl:=sI H;exact rtM [some 0]
def bw3 (n:Nat) (v:aj6) (name:List UInt8):Option (aj6×Int) :=
 (awb n v).bind fun r1 =>
 bif (r1 != 0) then
  some ((⟨[],0,0,0,[]⟩:aj6),r1)
 else
  (ajt n v name).bind fun r2 =>
  bif (!r2.2) then
   some ((⟨[],0,0,0,[]⟩:aj6),3)
  else
   (ajn n v).bind fun r3 =>
   gd ((0≤r2.1∧r2.1 < (r3.Sets.length:Int))) <|
   (aye n r3.Sets (Int.toNat r2.1)).bind fun r4 =>
   bif (r4 != 0) then
    some ((⟨[],0,0,0,[]⟩:aj6),r4)
   else
    some (r3,0)
theorem dks (n:Nat) (v:aj6) (name:List UInt8) (r:aj6×Int) (H:bw3 n v name=some r):aw8 jd 87 [.dat (true,[.str,.int .i64,.int .i64,.int .i64,.slice 41]) [.str v.Serial,.int v.Cyls,.int v.Heads,.int v.Size,.slice (List.map aj4 v.Sets)],.dat (false,[.str]) [.str name],.ref (.fnv 88 [])] [] [.agg [.c .str (.str r.1.Serial),.c (.int .i64) (.int r.1.Cyls),.c (.int .i64) (.int r.1.Heads),.c (.int .i64) (.int r.1.Size),.own 0 kD 0 r.1.Sets.length],.c (.int .i64) (.int r.2)] [.row 41 (List.map aj4 r.1.Sets)]:=by
 have hΓ:=g1 (akc n) (g1 (awa n) (g1 (azl n) (@g0 (aj1 jd))));have qe:=aI @az6.eq_1 (aI @aqr.eq_1 @awj.eq_1);refine aw9 (Tryz.f87.body.getD .skip) h00 Tryz.func87 rfl Tryz.call87 (jp rfl) (jp rfl) ?_;unfold bw3 at H;simp only [Tryz.f87,jz];refine rA ?_;refine js fun K2 hK2=>?_;obtain ⟨r1,hr1,H⟩:=bind_some H;have q:=aI qe hr1;refine rAq ?_;refine rA ?_;refine cnd H (fun h5 H=>?_) (fun h5 H=>?_)
 ·refine rA ?_;refine jC (lf ?_);obtain rfl:=sI H;exact rtM [none]
 refine jy (hK2 _ ?_);obtain ⟨r2,hr2,H⟩:=bind_some H;have q:=aI qe hr2;refine rAq ?_;refine js fun K8 hK8=>?_;refine rA ?_;refine cnd H (fun h10 H=>?_) (fun h10 H=>?_)
 ·refine rA ?_;refine jC (lf ?_);obtain rfl:=sI H;exact rtM [none]
 refine jy (hK8 _ ?_);obtain ⟨r3,hr3,H⟩:=bind_some H;have q:=aI qe hr3;refine rAq ?_;refine js fun K13 hK13=>?_;refine sX fun K14 hK14=>?_;obtain ⟨hg15,H⟩:=aj8 H;obtain ⟨r4,hr4,H⟩:=bind_some H;have q:=hr4
 iterate 5 refine oX ?_
 refine oMq (cye n _ _ r4 hr4) [464] [] ?_;refine oXq ?_;refine hK14 _ ?_;refine rA ?_;refine cnd H (fun h17 H=>?_) (fun h17 H=>?_)
 ·refine rA ?_;refine jC (lf ?_);obtain rfl:=sI H;exact rtM [none]
 refine jy (hK13 _ ?_);refine rA ?_;refine jC (lf ?_);obtain rfl:=sI H;exact rtM [some 464]
def aqp (n:Nat) (d:aj5) (p1:List UInt8):Option Bool :=
 some (d.Name == p1)
theorem bkb (n:Nat) (d:aj5) (p1:List UInt8) (r:Bool) (H:aqp n d p1=some r):aw8 jd 90 [.dat (true,kD) [.str d.Name,.int d.Dcb.Org,.int d.Dcb.Format,.bool d.Dcb.Blocked,.bool d.Dcb.Asa,.int d.Dcb.Lrecl,.int d.Dcb.Blksize,.int d.Dcb.KeyLen,.int d.Dcb.KeyPos,.slice (List.map aj2 d.Extents),.int d.Used],.ref (.box 0 0)] [.box [.c .str (.str p1)]] [.c .bool (.bool r)] [.box [.c .str (.str p1)]]:=by
 have hΓ:=@g0 (aj1 jd);refine aw9 (Tryz.f90.body.getD .skip) h00 Tryz.func90 rfl Tryz.call90 (jp rfl) (jp rfl) ?_;unfold aqp at H;simp only [Tryz.f90,jz];refine rA ?_;refine rA ?_;refine jC (lf ?_);obtain rfl:=sI H;exact rtM [some 0]
abbrev ay1 (s:List aj5) (f:List UInt8):S:=stB [] [(0,.row 41 (List.map aj4 s)),(1,.box [.c .str (.str f)])]
def az5 (n:Nat) (s:List aj5) (f:List UInt8):Option Int :=
 some (-1)
abbrev ay5 (s:List aj5) (f:List UInt8) (v7:Int) (v8:Int):S:=stB [(0,.own 0 kD 0 s.length),(1,.fnv 90 [.box 1 0]),(7,.c (.int .i64) (.int v7)),(8,.c (.int .i64) (.int v8))] [(0,.row 41 (List.map aj4 s)),(1,.box [.c .str (.str f)])]
def aju (n:Nat) (s:List aj5) (f:List UInt8) (v7:Int) (v8:Int):Option ((Int) ⊕ (((Int) ⊕ (Unit)))) :=
 bif (decide (v8 < v7)) then
  gd ((0≤v8∧v8 < (s.length:Int))∧(Int.toNat v8) < s.length) <|
  (aqp n (gt s (Int.toNat v8)) f).bind fun r1 =>
  bif r1 then
   some (.inr (.inl v8))
  else
   some (.inl (jb .i64 (v8+1)))
 else
  some (.inr (.inr ()))
def awk (n:Nat) (s:List aj5) (f:List UInt8):Option Int :=
 (ajo (fun (x:Int)=>aju n s f ((s.length:Nat):Int) x) n 0).bind fun y4 =>
 match y4 with
 | .inl vv =>
  some vv
 | .inr vv =>
  az5 n s f
theorem by1 (n:Nat) (s:List aj5) (f:List UInt8) (r:Int) (H:awk n s f=some r):aw8 jd 141 [.ref (.own 0 kD 0 s.length),.ref (.fnv 90 [.box 1 0])] [.row 41 (List.map aj4 s),.box [.c .str (.str f)]] [.c (.int .i64) (.int r)] [.row 41 (List.map aj4 s),.box [.c .str (.str f)]]:=by
 have hΓ:=@g0 (aj1 jd);refine aw9 (Tryz.f141.body.getD .skip) h00 Tryz.func141 rfl Tryz.call141 (jp rfl) (jp rfl) ?_;unfold awk at H;simp only [Tryz.f141,jz];refine rA ?_;refine Jp (fun (x:Unit)=>ay1 s f) (fun x=>az5 n s f=some r) ?_ ?_
 ·refine rA ?_;refine jN ?_;obtain ⟨y4,hy4,Ho4⟩:=bind_some H;refine Jl _ (fun x=>ay5 s f ((s.length:Nat):Int) x) hy4 (wb [some 0,some 1]) ?_;rintro v8 z4 H
  try dsimp only at H
  unfold aju at H;refine Sm.st (ay5.eq_1 ..) ?_;refine rA ?_;refine js fun K6 hK6=>?_;refine cnd H (fun h7 H=>?_) (fun h7 H=>?_)
  ·refine jy (hK6 _ (js fun K8 hK8=>jN ?_));refine rA ?_;refine sX fun K10 hK10=>?_;obtain ⟨⟨hg11,hg12⟩,H⟩:=aj8 H;obtain ⟨r1,hr1,H⟩:=bind_some H;have q:=hr1
   iterate 5 refine oX ?_
   refine oMq (bkb n _ _ r1 hr1) [1] [] ?_;refine hK10 _ ?_;refine cnd H (fun h13 H=>?_) (fun h13 H=>?_)
   ·refine rA ?_;refine jC (lf ?_);refine lx H fun hyy=>?_;subst hyy;have H:=Ho4
    try dsimp only at H
    refine lf ?_;obtain rfl:=sI H;exact rtM [some 0,some 1]
   refine jy (hK8 _ ?_);refine eA ?_;refine lf ?_;exact nx H (wb [some 0,some 1])
  refine Js (lf ?_);refine lx H fun hyy=>?_;subst hyy;have H:=Ho4
  try dsimp only at H
  refine lf ?_;exact ⟨(),H,wb [some 0,some 1]⟩
 rintro ⟨⟩ H
 try dsimp only at H
 unfold az5 at H;refine Sm.st (ay1.eq_1 ..) ?_;refine rA ?_;refine jC (lf ?_);obtain rfl:=sI H;exact rtM [some 0,some 1]
abbrev akx (b0:List aj5) (del:List UInt8) (i:Int):S:=stB [(0,.own 0 kD 0 b0.length),(5,.c (.int .i64) (.int i))] [(0,.row 41 (List.map aj4 b0)),(1,.box [.c .str (.str del)])]
def aw0 (n:Nat) (b0:List aj5) (del:List UInt8) (i:Int):Option (Nat×(List aj5)) :=
 gd ((0≤i∧i≤(b0.length:Int)∧(b0.length:Int)≤(b0.length:Int))∧((Int.toNat i)+(Int.toNat ((b0.length:Int) - i)))≤b0.length) <|
 gd ((0≤i∧i≤(b0.length:Int))) <|
 some ((Int.toNat (i - 0)),(bk8 b0 (Int.toNat i) (awi (Int.toNat ((b0.length:Int) - i)) (⟨[],(⟨0,0,false,false,0,0,0,0⟩:TDcb),[],0⟩:aj5))))
abbrev ay3 (b0_2:List aj5) (del:List UInt8) (i_2:Int) (j:Int):S:=stB [(0,.own 0 kD 0 b0_2.length),(1,.fnv 90 [.box 1 0]),(5,.c (.int .i64) (.int i_2)),(6,.c (.int .i64) (.int j))] [(0,.row 41 (List.map aj4 b0_2)),(1,.box [.c .str (.str del)])]
def ajv (n:Nat) (b0_2:List aj5) (del:List UInt8) (i_2:Int) (j:Int):Option (((List aj5)×Int×Int) ⊕ (((List aj5)×Int))) :=
 some (.inl (b0_2,i_2,(jb .i64 (j+1))))
abbrev akz (del:List UInt8) (b0_1:List aj5) (i_1:Int) (j:Int):S:=stB [(0,.own 0 kD 0 b0_1.length),(1,.fnv 90 [.box 1 0]),(5,.c (.int .i64) (.int i_1)),(6,.c (.int .i64) (.int j))] [(0,.row 41 (List.map aj4 b0_1)),(1,.box [.c .str (.str del)])]
def ajk (n:Nat) (del:List UInt8) (b0_1:List aj5) (i_1:Int) (j:Int):Option (((List aj5)×Int×Int) ⊕ (((List aj5)×Int))) :=
 bif (decide (j < ((b0_1.length:Nat):Int))) then
  gd ((0≤j∧j < (b0_1.length:Int))∧(Int.toNat j) < b0_1.length) <|
  (aqp n (gt b0_1 (Int.toNat j)) del).bind fun r2 =>
  bif (!r2) then
   gd ((0≤i_1∧i_1 < (b0_1.length:Int))∧(Int.toNat i_1) < b0_1.length) <|
   ajv n (List.set b0_1 (Int.toNat i_1) (gt b0_1 (Int.toNat j))) del (jb .i64 (i_1+1)) j
  else
   ajv n b0_1 del i_1 j
 else
  some (.inr (b0_1,i_1))
def aqv (n:Nat) (s:List aj5) (del:List UInt8):Option (Nat×(List aj5)) :=
 (awk n s del).bind fun r1 =>
 bif (r1 == (-1)) then
  some (s.length,s)
 else
  (ajo (fun (x:(List aj5)×Int×Int)=>ajk n del x.1 x.2.1 x.2.2) n (s,r1,(jb .i64 (r1+1)))).bind fun y13 =>
  aw0 n y13.1 del y13.2
theorem by7 (n:Nat) (s:List aj5) (del:List UInt8) (r:Nat×(List aj5)) (H:aqv n s del=some r):aw8 jd 89 [.ref (.own 0 kD 0 s.length),.ref (.fnv 90 [.box 1 0])] [.row 41 (List.map aj4 s),.box [.c .str (.str del)]] [.own 0 kD 0 r.1] [.row 41 (List.map aj4 r.2),.box [.c .str (.str del)]]:=by
 have hΓ:=@g0 (aj1 jd);refine aw9 (Tryz.f89.body.getD .skip) h00 Tryz.func89 rfl Tryz.call89 (jp rfl) (jp rfl) ?_;unfold aqv at H;simp only [Tryz.f89,jz];refine rA ?_;refine sX fun K2 hK2=>?_;obtain ⟨r1,hr1,H⟩:=bind_some H;have q:=hr1
 iterate 2 refine oX ?_
 refine oMq (by1 n _ _ r1 hr1) [0,1] [] ?_;refine oXq ?_;refine hK2 _ (js fun K3 hK3=>?_);refine rA ?_;refine cnd H (fun h5 H=>?_) (fun h5 H=>?_)
 ·refine rA ?_;refine jC (lf ?_);obtain rfl:=sI H;exact rtM [some 0,some 1]
 refine jy (hK3 _ ?_);refine Jp (fun (x:(List aj5)×Int)=>akx x.1 del x.2) (fun x=>aw0 n x.1 del x.2=some r) ?_ ?_
 ·refine rA ?_;refine jN ?_;obtain ⟨y13,hy13,Ho13⟩:=bind_some H;refine Jl _ (fun x=>akz del x.1 x.2.1 x.2.2) hy13 (wb [some 0,some 1]) ?_;rintro ⟨b0_1,i_1,j⟩ z13 H
  try dsimp only at H
  unfold ajk at H;refine Sm.st (akz.eq_1 ..) ?_;refine js fun K14 hK14=>?_;refine rA ?_;refine cnd H (fun h16 H=>?_) (fun h16 H=>?_)
  ·refine jy (hK14 _ ?_);refine Jp (fun (x:(List aj5)×Int)=>ay3 x.1 del x.2 j) (fun x=>ajv n x.1 del x.2 j=some z13) ?_ ?_
   ·refine jN ?_;obtain ⟨⟨hg23,hg24⟩,H⟩:=aj8 H;refine rA ?_;refine sX fun K18 hK18=>?_;obtain ⟨r2,hr2,H⟩:=bind_some H;have q:=hr2
    iterate 2 refine oX ?_
    refine oMq (bkb n _ _ r2 hr2) [1] [] ?_;refine oXq ?_;refine hK18 _ ?_;refine cnd H (fun h19 H=>?_) (fun h19 H=>?_)
    ·obtain ⟨⟨hg21,hg22⟩,H⟩:=aj8 H;refine rA ?_;refine eA ?_;refine lf ?_;exact ⟨((List.set b0_1 (Int.toNat i_1) (gt b0_1 (Int.toNat j))),(jb .i64 (i_1+1))),H,wb [some 0,some 1]⟩
    refine jy (lf ?_);exact ⟨(b0_1,i_1),H,wb [some 0,some 1]⟩
   rintro ⟨b0_2,i_2⟩ H
   try dsimp only at H
   unfold ajv at H;refine Sm.st (ay3.eq_1 ..) ?_;refine eA ?_;refine lf ?_;exact nx H (wb [some 0,some 1])
  refine Js (lf ?_);refine lx H fun hyy=>?_;subst hyy;have H:=Ho13
  try dsimp only at H
  refine lf ?_;exact ⟨(b0_1,i_1),H,wb [some 0,some 1]⟩
 rintro ⟨b0,i⟩ H
 try dsimp only at H
 unfold aw0 at H;refine Sm.st (akx.eq_1 ..) ?_;refine sX fun K7 hK7=>?_;obtain ⟨⟨hg8,hg9⟩,H⟩:=aj8 H
 iterate 3 refine oX ?_
 refine oY ?_;refine hK7 _ ?_;obtain ⟨hg11,H⟩:=aj8 H;refine rA ?_;refine jC (lf ?_);obtain rfl:=sI H;exact rtM [some 0,some 1]
def bwo (n:Nat) (v:aj6) (name:List UInt8):Option (aj6×Int) :=
 (bw3 n v name).bind fun r1 =>
 bif (r1.2 != 0) then
  some ((⟨[],0,0,0,[]⟩:aj6),r1.2)
 else
  (aqv n r1.1.Sets name).bind fun r2 =>
  some ((⟨r1.1.Serial,r1.1.Cyls,r1.1.Heads,r1.1.Size,(List.take r2.1 r2.2)⟩:aj6),0)
def cyx (n:Nat):Go.AE.Fn:=mkFn (A:=aj6×(List UInt8)) (R:=aj6×Int) 43 [(true,[.str,.int .i64,.int .i64,.int .i64,.slice 41]),(false,[.str])] true (fun xs=>((⟨(cg (xs.getD 0 []) 0).toStr,(cg (xs.getD 0 []) 1).toInt,(cg (xs.getD 0 []) 2).toInt,(cg (xs.getD 0 []) 3).toInt,((cg (xs.getD 0 []) 4).toSl.map akb)⟩:aj6),(cg (xs.getD 1 []) 0).toStr)) (fun a=>[[.str a.1.Serial,.int a.1.Cyls,.int a.1.Heads,.int a.1.Size,.slice (List.map aj4 a.1.Sets)],[.str a.2]]) (fun a=>bwo n a.1 a.2) (fun r=>[.agg (cV r.1),.c (.int .i64) (.int r.2)]) (fun r=>[])
theorem ewe (n:Nat):aj1 jd (cyx n):=by
 have hΓ:=@g0 (aj1 jd);refine ajb (Tryz.f43.body.getD .skip) h00 Tryz.func43 rfl Tryz.call43 (by decide) (by intro h;cases h) ?_;rintro ⟨v,name⟩ r H
 try dsimp only at H
 unfold bwo at H;simp only [Tryz.f43,jz];refine rA ?_;refine sX fun K2 hK2=>?_;obtain ⟨r1,hr1,H⟩:=bind_some H;have q:=hr1
 iterate 2 refine oX ?_
 refine oMq (dks n _ _ r1 hr1) [] [176] ?_
 iterate 6 refine oXq ?_
 refine hK2 _ (js fun K3 hK3=>?_);refine rA ?_;refine cnd H (fun h5 H=>?_) (fun h5 H=>?_)
 ·refine rA ?_;refine jC (lf ?_);obtain rfl:=sI H;exact rt []
 refine jy (hK3 _ ?_);refine sX fun K7 hK7=>?_;obtain ⟨r2,hr2,H⟩:=bind_some H;have q:=hr2
 iterate 2 refine oX ?_
 refine oY ?_;refine oMq (by7 n _ _ r2 hr2) [176,48] [] ?_
 iterate 2 refine oXq ?_
 refine hK7 _ ?_;refine rA ?_;refine jC (lf ?_);obtain rfl:=sI H;exact rt []
end Go.Proofs.YtijnkhcfondehaaGreatDoor
