/- Text. -/
import Derived.Test.YtijnkhcfondehaaGreatDoorT
import Derived.Test.YtijnkhcfondehaaGreatDoorL204
import Derived.Test.YtijnkhcfondehaaGreatDoorN2
import Derived.Test.YtijnkhcfondehaaGreatDoorJ
set_option maxHeartbeats 8000000
set_option linter.unusedVariables false
set_option linter.unusedSimpArgs false
set_option maxRecDepth 100000
open _root_.Bool renaming not_false→j5,not_true→jR,false_eq_true→jm
open Go.IntKind renaming wrap→ja,bits→jj
open _root_.Nat renaming le_of_ble_eq_true→jZ
open _root_.Option renaming getD→jr
open Go.AE.Sm renaming ret→jv,seqK→jn,skip→jp,cut→jU,block→js,loopB→jO,exit→jT
open Go.Proofs.Tryz renaming prog→jd
namespace Go.Proofs.YtijnkhcfondehaaGreatDoor
open Go.AE
def aq1 (n:Nat) (n_:Int) (lo:Int) (hi:Int):Option Bool :=
 some (if (decide (lo≤n_))=true then (decide (n_≤hi)) else false)
def dql (n:Nat):Go.AE.Fn:=mkFn (A:=Int×Int×Int) (R:=Bool) 67 [(false,[.int .i64]),(false,[.int .i64]),(false,[.int .i64])] false (fun xs=>((cg (xs.getD 0 []) 0).toInt,(cg (xs.getD 1 []) 0).toInt,(cg (xs.getD 2 []) 0).toInt)) (fun a=>[[.int a.1],[.int a.2.1],[.int a.2.2]]) (fun a=>aq1 n a.1 a.2.1 a.2.2) (fun r=>[.c .bool (.bool r)]) (fun r=>[])
theorem ejl (n:Nat):aj1 jd (dql n):=by
 have hΓ:=@g0 (aj1 jd);refine cF (Tryz.f67.body.getD .skip) Tryz.func67 rfl Tryz.call67 ?_;rintro ⟨n_,lo,hi⟩ r H
 try dsimp only at H
 unfold aq1 at H;simp only [Tryz.f67,jr];refine rA ?_;refine rA ?_;refine jv (lf ?_);obtain rfl:=sI H;exact rt []
abbrev dyu:S:=stB [] []
def cz8 (n:Nat):Option Bool :=
 some true
abbrev dya (v9:List (List UInt8)) (v10:Int) (v11:Int):S:=stB [(9,.own 9001 [.str] 0 v9.length),(10,.c (.int .i64) (.int v10)),(11,.c (.int .i64) (.int v11))] [(9001,.row 9 (List.map dzj v9))]
def bwt (n:Nat) (v9:List (List UInt8)) (v10:Int) (v11:Int):Option ((Int) ⊕ (((Bool) ⊕ (Unit)))) :=
 bif (decide (v11 < v10)) then
  gd ((0≤v11∧v11 < (v9.length:Int))∧(Int.toNat v11) < v9.length) <|
  gd (((!(if (decide (((gt v9 (Int.toNat v11)).length:Int) < 1))=true then true else (decide (((gt v9 (Int.toNat v11)).length:Int) > 8))))=true→0 < ((gt v9 (Int.toNat v11)).length:Int))∧(((!(if (decide (((gt v9 (Int.toNat v11)).length:Int) < 1))=true then true else (decide (((gt v9 (Int.toNat v11)).length:Int) > 8)))) && (decide (((((gt v9 (Int.toNat v11)).getD 0 0).toNat:Nat):Int) ≥ 48)))=true→0 < ((gt v9 (Int.toNat v11)).length:Int))) <|
  bif (if (if (decide (((gt v9 (Int.toNat v11)).length:Int) < 1))=true then true else (decide (((gt v9 (Int.toNat v11)).length:Int) > 8)))=true then true else (if (decide (((((gt v9 (Int.toNat v11)).getD 0 0).toNat:Nat):Int) ≥ 48))=true then (decide (((((gt v9 (Int.toNat v11)).getD 0 0).toNat:Nat):Int)≤57)) else false)) then
   some (.inr (.inl false))
  else
   (aqp n (gt v9 (Int.toNat v11)) [65,66,67,68,69,70,71,72,73,74,75,76,77,78,79,80,81,82,83,84,85,86,87,88,89,90,48,49,50,51,52,53,54,55,56,57,64,35,36]).bind fun r2 =>
   bif (r2 != []) then
    some (.inr (.inl false))
   else
    some (.inl (ja .i64 (v11+1)))
 else
  some (.inr (.inr ()))
def cjn (n:Nat) (s:List UInt8):Option Bool :=
 bif (decide ((s.length:Int) > 44)) then
  some false
 else
  (strings_Split n s [46]).bind fun r1 =>
  (ajg (fun (x:Int)=>bwt n r1 ((r1.length:Nat):Int) x) n 0).bind fun y8 =>
  match y8 with
  | .inl vv =>
   some vv
  | .inr vv =>
   cz8 n
def dk9 (n:Nat):Go.AE.Fn:=mkFn (A:=(List UInt8)) (R:=Bool) 17 [(false,[.str])] false (fun xs=>(cg (xs.getD 0 []) 0).toStr) (fun a=>[[.str a]]) (fun a=>cjn n a) (fun r=>[.c .bool (.bool r)]) (fun r=>[])
theorem ekv (n:Nat):aj1 jd (dk9 n):=by
 have hΓ:=g1 (ez3 n) (g1 (dqt n) (@g0 (aj1 jd)));have qe:=aI @bwh.eq_1 @ayb.eq_1;refine cF (Tryz.f17.body.getD .skip) Tryz.func17 rfl Tryz.call17 ?_;rintro s r H
 try dsimp only at H
 unfold cjn at H;simp only [Tryz.f17,jr];refine rA ?_;refine jn fun K2 hK2=>?_;refine rA ?_;refine cnd H (fun h4 H=>?_) (fun h4 H=>?_)
 ·refine rA ?_;refine jv (lf ?_);obtain rfl:=sI H;exact rt []
 refine jp (hK2 _ ?_);refine jU (fun (x:Unit)=>dyu) (fun x=>cz8 n=some r) ?_ ?_
 ·obtain ⟨r1,hr1,H⟩:=bind_some H;have q:=aI qe hr1;refine rAq ?_;refine js ?_;obtain ⟨y8,hy8,Ho8⟩:=bind_some H;refine jO _ (fun x=>dya r1 ((r1.length:Nat):Int) x) hy8 (wb [some 144]) ?_;rintro v11 z8 H
  try dsimp only at H
  unfold bwt at H;refine Sm.st (dya.eq_1 ..) ?_;refine rA ?_;refine jn fun K10 hK10=>?_;refine cnd H (fun h11 H=>?_) (fun h11 H=>?_)
  ·refine jp (hK10 _ (jn fun K12 hK12=>js ?_));obtain ⟨⟨hg23,hg24⟩,H⟩:=aj3 H;refine rA ?_;refine jn fun K14 hK14=>?_;obtain ⟨⟨hg21,hg22⟩,H⟩:=aj3 H;refine rA ?_;refine cnd H (fun h16 H=>?_) (fun h16 H=>?_)
   ·refine rA ?_;refine jv (lf ?_);refine lx H fun hyy=>?_;subst hyy;have H:=Ho8
    try dsimp only at H
    refine lf ?_;obtain rfl:=sI H;exact rt []
   refine jp (hK14 _ ?_);obtain ⟨r2,hr2,H⟩:=bind_some H;have q:=aI qe hr2;refine rAq ?_;refine cnd H (fun h19 H=>?_) (fun h19 H=>?_)
   ·refine rA ?_;refine jv (lf ?_);refine lx H fun hyy=>?_;subst hyy;have H:=Ho8
    try dsimp only at H
    refine lf ?_;obtain rfl:=sI H;exact rt []
   refine jp (hK12 _ ?_);refine eA ?_;refine lf ?_;exact nx H (wb [some 9001])
  refine jT (lf ?_);refine lx H fun hyy=>?_;subst hyy;have H:=Ho8
  try dsimp only at H
  refine lf ?_;exact ⟨(),H,wb []⟩
 rintro ⟨⟩ H
 try dsimp only at H
 unfold cz8 at H;refine Sm.st (dyu.eq_1 ..) ?_;refine rA ?_;refine jv (lf ?_);obtain rfl:=sI H;exact rt []
def aqd (n:Nat) (d:TDcb):Option Bool :=
 (aq1 n d.Org 1 3).bind fun r1 =>
 gd ((r1=true→(aq1 n d.Format 1 3).isSome=true)∧((if r1=true then ((aq1 n d.Format 1 3).getD default) else false)=true→(aq1 n d.Lrecl 0 1024).isSome=true)∧((if (if r1=true then ((aq1 n d.Format 1 3).getD default) else false)=true then ((aq1 n d.Lrecl 0 1024).getD default) else false)=true→(aq1 n d.Blksize 0 1024).isSome=true)∧((if (if (if r1=true then ((aq1 n d.Format 1 3).getD default) else false)=true then ((aq1 n d.Lrecl 0 1024).getD default) else false)=true then ((aq1 n d.Blksize 0 1024).getD default) else false)=true→(aq1 n d.KeyPos 0 1024).isSome=true)∧((if (if (if (if r1=true then ((aq1 n d.Format 1 3).getD default) else false)=true then ((aq1 n d.Lrecl 0 1024).getD default) else false)=true then ((aq1 n d.Blksize 0 1024).getD default) else false)=true then ((aq1 n d.KeyPos 0 1024).getD default) else false)=true→(aq1 n d.KeyLen 0 64).isSome=true)) <|
 some (if (if (if (if (if r1=true then ((aq1 n d.Format 1 3).getD default) else false)=true then ((aq1 n d.Lrecl 0 1024).getD default) else false)=true then ((aq1 n d.Blksize 0 1024).getD default) else false)=true then ((aq1 n d.KeyPos 0 1024).getD default) else false)=true then ((aq1 n d.KeyLen 0 64).getD default) else false)
def bqc (n:Nat):Go.AE.Fn:=mkFn (A:=TDcb) (R:=Bool) 84 [(true,[.int .i64,.int .i64,.bool,.bool,.int .i64,.int .i64,.int .i64,.int .i64])] false (fun xs=>(⟨(cg (xs.getD 0 []) 0).toInt,(cg (xs.getD 0 []) 1).toInt,(cg (xs.getD 0 []) 2).toBool,(cg (xs.getD 0 []) 3).toBool,(cg (xs.getD 0 []) 4).toInt,(cg (xs.getD 0 []) 5).toInt,(cg (xs.getD 0 []) 6).toInt,(cg (xs.getD 0 []) 7).toInt⟩:TDcb)) (fun a=>[[.int a.Org,.int a.Format,.bool a.Blocked,.bool a.Asa,.int a.Lrecl,.int a.Blksize,.int a.KeyLen,.int a.KeyPos]]) (fun a=>aqd n a) (fun r=>[.c .bool (.bool r)]) (fun r=>[])
theorem bks (n:Nat):aj1 jd (bqc n):=by
 have hΓ:=g1 (ejl n) (@g0 (aj1 jd));refine cF (Tryz.f84.body.getD .skip) Tryz.func84 rfl Tryz.call84 ?_;rintro d r H
 try dsimp only at H
 unfold aqd at H;simp only [Tryz.f84,jr];refine rA ?_;obtain ⟨r1,hr1,H⟩:=bind_some H;obtain ⟨⟨hg3,hg4,hg5,hg6,hg7⟩,H⟩:=aj3 H;have q:=aI @dql.eq_1 hr1;refine rAq ?_;refine jv (lf ?_);obtain rfl:=sI H;exact rt []
def bjo (n:Nat) (x_:aj0):Option Bool :=
 some (if (if (if (decide (x_.At ≥ 0))=true then (decide (x_.Len ≥ 1)) else false)=true then (decide (x_.At < 512)) else false)=true then (decide (x_.Len≤(ja .i64 (512 - x_.At)))) else false)
def cjr (n:Nat):Go.AE.Fn:=mkFn (A:=aj0) (R:=Bool) 125 [(true,[.int .i64,.int .i64])] false (fun xs=>(⟨(cg (xs.getD 0 []) 0).toInt,(cg (xs.getD 0 []) 1).toInt⟩:aj0)) (fun a=>[[.int a.At,.int a.Len]]) (fun a=>bjo n a) (fun r=>[.c .bool (.bool r)]) (fun r=>[])
theorem dw1 (n:Nat):aj1 jd (cjr n):=by
 have hΓ:=@g0 (aj1 jd);refine cF (Tryz.f125.body.getD .skip) Tryz.func125 rfl Tryz.call125 ?_;rintro x_ r H
 try dsimp only at H
 unfold bjo at H;simp only [Tryz.f125,jr];refine rA ?_;refine rA ?_;refine jv (lf ?_);obtain rfl:=sI H;exact rt []
def awd (n:Nat) (s:List aj0):Option (List aj0) :=
 uniB s fun nb1 =>
 bif nb1 then
  some []
 else
  gd (s.length≤2147483648) <|
  some s
def aqw (n:Nat):Go.AE.Fn:=mkFn (A:=(List aj0)) (R:=(List aj0)) 118 [(false,[.slice 80])] false (fun xs=>((cg (xs.getD 0 []) 0).toSl.map ajl)) (fun a=>[[.slice (List.map aj2 a)]]) (fun a=>awd n a) (fun r=>[.own 0 [.int .i64,.int .i64] 0 r.length]) (fun r=>[.row 80 (List.map aj2 r)])
theorem akl (n:Nat):aj1 jd (aqw n):=by
 have hΓ:=@g0 (aj1 jd);refine aj5 (Tryz.f118.body.getD .skip) h00 Tryz.func118 rfl Tryz.call118 (by decide) (fun _ r=>⟨rfl,m1 ⟨80,_,_,rfl,ty80,rfl⟩ m0⟩) ?_;rintro s r H
 try dsimp only at H
 unfold awd at H;simp only [Tryz.f118,jr];refine rA ?_;refine jn fun K2 hK2=>?_;refine sX fun K3 hK3=>?_;refine oX ?_;refine opsN fun K hK=>?_;simp only [z,seval];(repeat (first | refine gcI ?_ | refine fun (_:_≤_)=>?_));intro nb1 hnb1;refine hK _ ?_;clear hK K
 replace H:=hqn H nb1 (fun hb=>by simpa using hnb1 hb)
 refine hK3 _ ?_;refine cnd H (fun h4 H=>?_) (fun h4 H=>?_)
 ·refine rA ?_;refine jv (lf ?_);obtain rfl:=sI H;exact rto [none]
 refine jp (hK2 _ ?_);obtain ⟨hg7,H⟩:=aj3 H;refine rA ?_;refine jv (lf ?_);obtain rfl:=sI H;exact rto [some 112]
def bwe (n:Nat) (x_:Int):Option Bool :=
 some (x_ != x_)
def bza (n:Nat) (x_:Int) (y:Int):Option Int :=
 (bwe n x_).bind fun r1 =>
 (bwe n y).bind fun r2 =>
 bif r1 then
  bif r2 then
   some 0
  else
   some (-1)
 else
  bif r2 then
   some 1
  else
   bif (decide (x_ < y)) then
    some (-1)
   else
    bif (decide (x_ > y)) then
     some 1
    else
     some 0
def azi (n:Nat) (a:aj0) (b:aj0):Option Int :=
 (bza n a.At b.At).bind fun r1 =>
 some r1
def az4 (n:Nat) (s:List aj0):Option (List aj0):=gqd (fun x y=>azi n x y) s
theorem bkv (n:Nat) (s:List aj0) (r:List aj0) (H:az4 n s=some r):akx jd 164 [.ref (.own 0 [.int .i64,.int .i64] 0 s.length),.ref (.fnv 165 [])] [.row 80 (List.map aj2 s)] [] [.row 80 (List.map aj2 r)] :=
 fwl izs ty80 Tryz.isAgg80 Tryz.sizeOf80 (by decide) (by decide) (by intro args w;exact Tryz.call165 args w) aj2 (fun _=>rfl) (fun x y=>azi n x y) (fun x y c h=>iz6 _ _ _ _ _ (by
  simp only [azi,bza,bwe,Option.bind_some,bne_self_eq_false,cond_false,gt_iff_lt] at h
  by_cases h1:x.At < y.At <;> by_cases h2:y.At < x.At <;> simp [h1,h2] at h ⊢ <;> first | exact h.symm | omega)) s r H
def ayl (n:Nat) (l:List aj0):Option (List aj0) :=
 (awd n l).bind fun r1 =>
 (az4 n r1).bind fun r2 =>
 some (List.take r1.length r2)
def byg (n:Nat):Go.AE.Fn:=mkFn (A:=(List aj0)) (R:=(List aj0)) 126 [(false,[.slice 80])] true (fun xs=>((cg (xs.getD 0 []) 0).toSl.map ajl)) (fun a=>[[.slice (List.map aj2 a)]]) (fun a=>ayl n a) (fun r=>[.c (.slice 80) (.slice (List.map aj2 r))]) (fun r=>[])
theorem ckz (n:Nat):aj1 jd (byg n):=by
 have hΓ:=g1 (akl n) (@g0 (aj1 jd));refine aj5 (Tryz.f126.body.getD .skip) h00 Tryz.func126 rfl Tryz.call126 (by decide) (by intro h;cases h) ?_;rintro l r H
 try dsimp only at H
 unfold ayl at H;simp only [Tryz.f126,jr];refine rA ?_;obtain ⟨r1,hr1,H⟩:=bind_some H;have q:=aI @aqw.eq_1 hr1;refine rAq ?_;refine sX fun K3 hK3=>?_;obtain ⟨r2,hr2,H⟩:=bind_some H;have q:=hr2;refine oX ?_;refine oMq (bkv n _ r2 hr2) [80] [] ?_;refine hK3 _ ?_;refine rA ?_;refine jv (lf ?_);obtain rfl:=sI H;exact rt []
abbrev cz6:S:=stB [] []
def bq2 (n:Nat):Option Bool :=
 some true
abbrev cz7 (s:List aj0) (i:Int):S:=stB [(5,.c (.slice 80) (.slice (List.map aj2 s))),(6,.c (.int .i64) (.int i))] []
def azp (n:Nat) (s:List aj0) (i:Int):Option ((Int) ⊕ (((Bool) ⊕ (Unit)))) :=
 bif (decide (i < (s.length:Int))) then
  gd ((0≤i∧i < (s.length:Int))∧(0≤(ja .i64 (i - 1))∧(ja .i64 (i - 1)) < (s.length:Int))∧(0≤(ja .i64 (i - 1))∧(ja .i64 (i - 1)) < (s.length:Int))) <|
  bif (decide (((gt s (Int.toNat i)).At) < (ja .i64 (((gt s (Int.toNat (ja .i64 (i - 1)))).At)+((gt s (Int.toNat (ja .i64 (i - 1)))).Len))))) then
   some (.inr (.inl false))
  else
   some (.inl (ja .i64 (i+1)))
 else
  some (.inr (.inr ()))
abbrev cz2 (l:List aj0):S:=stB [(0,.c (.slice 80) (.slice (List.map aj2 l)))] []
def bjx (n:Nat) (l:List aj0):Option Bool :=
 (ayl n l).bind fun r1 =>
 (ajg (fun (x:Int)=>azp n r1 x) n 1).bind fun y9 =>
 match y9 with
 | .inl vv =>
  some vv
 | .inr vv =>
  bq2 n
abbrev ck1 (l:List aj0) (v11:Int) (v12:Int):S:=stB [(0,.c (.slice 80) (.slice (List.map aj2 l))),(10,.c (.slice 80) (.slice (List.map aj2 l))),(11,.c (.int .i64) (.int v11)),(12,.c (.int .i64) (.int v12))] []
def ay5 (n:Nat) (l:List aj0) (v11:Int) (v12:Int):Option ((Int) ⊕ (((Bool) ⊕ (Unit)))) :=
 bif (decide (v12 < v11)) then
  gd ((0≤v12∧v12 < (l.length:Int))) <|
  (bjo n (gt l (Int.toNat v12))).bind fun r2 =>
  bif (!r2) then
   some (.inr (.inl false))
  else
   some (.inl (ja .i64 (v12+1)))
 else
  some (.inr (.inr ()))
def aq9 (n:Nat) (l:List aj0):Option Bool :=
 bif (decide ((l.length:Int) > 512)) then
  some false
 else
  (ajg (fun (x:Int)=>ay5 n l (l.length:Int) x) n 0).bind fun y21 =>
  match y21 with
  | .inl vv =>
   some vv
  | .inr vv =>
   bjx n l
def ak5 (n:Nat):Go.AE.Fn:=mkFn (A:=(List aj0)) (R:=Bool) 69 [(false,[.slice 80])] false (fun xs=>((cg (xs.getD 0 []) 0).toSl.map ajl)) (fun a=>[[.slice (List.map aj2 a)]]) (fun a=>aq9 n a) (fun r=>[.c .bool (.bool r)]) (fun r=>[])
theorem ayi (n:Nat):aj1 jd (ak5 n):=by
 have hΓ:=g1 (dw1 n) (g1 (ckz n) (@g0 (aj1 jd)));have qe:=aI @cjr.eq_1 @byg.eq_1;refine cF (Tryz.f69.body.getD .skip) Tryz.func69 rfl Tryz.call69 ?_;rintro l r H
 try dsimp only at H
 unfold aq9 at H;simp only [Tryz.f69,jr];refine rA ?_;refine jn fun K2 hK2=>?_;refine rA ?_;refine cnd H (fun h4 H=>?_) (fun h4 H=>?_)
 ·refine rA ?_;refine jv (lf ?_);obtain rfl:=sI H;exact rt []
 refine jp (hK2 _ ?_);refine jU (fun (x:Unit)=>cz2 l) (fun x=>bjx n l=some r) ?_ ?_
 ·refine rA ?_;refine js ?_;obtain ⟨y21,hy21,Ho21⟩:=bind_some H;refine jO _ (fun x=>ck1 l (l.length:Int) x) hy21 (wb []) ?_;rintro v12 z21 H
  try dsimp only at H
  unfold ay5 at H;refine Sm.st (ck1.eq_1 ..) ?_;refine rA ?_;refine jn fun K23 hK23=>?_;refine cnd H (fun h24 H=>?_) (fun h24 H=>?_)
  ·refine jp (hK23 _ (jn fun K25 hK25=>js ?_));obtain ⟨hg30,H⟩:=aj3 H;refine rA ?_;obtain ⟨r2,hr2,H⟩:=bind_some H;have q:=aI qe hr2;refine rAq ?_;refine cnd H (fun h28 H=>?_) (fun h28 H=>?_)
   ·refine rA ?_;refine jv (lf ?_);refine lx H fun hyy=>?_;subst hyy;have H:=Ho21
    try dsimp only at H
    refine lf ?_;obtain rfl:=sI H;exact rt []
   refine jp (hK25 _ ?_);refine eA ?_;refine lf ?_;exact nx H (wb [])
  refine jT (lf ?_);refine lx H fun hyy=>?_;subst hyy;have H:=Ho21
  try dsimp only at H
  refine lf ?_;exact ⟨(),H,wb []⟩
 rintro ⟨⟩ H
 try dsimp only at H
 unfold bjx at H;refine Sm.st (cz2.eq_1 ..) ?_;obtain ⟨r1,hr1,H⟩:=bind_some H;have q:=aI qe hr1;refine rAq ?_;refine jU (fun (x:Unit)=>cz6) (fun x=>bq2 n=some r) ?_ ?_
 ·refine rA ?_;refine js ?_;obtain ⟨y9,hy9,Ho9⟩:=bind_some H;refine jO _ (fun x=>cz7 r1 x) hy9 (wb []) ?_;rintro i z9 H
  try dsimp only at H
  unfold azp at H;refine Sm.st (cz7.eq_1 ..) ?_;refine jn fun K10 hK10=>?_;refine rA ?_;refine cnd H (fun h12 H=>?_) (fun h12 H=>?_)
  ·refine jp (hK10 _ (jn fun K13 hK13=>js ?_));obtain ⟨⟨hg17,hg18,hg19⟩,H⟩:=aj3 H;refine rD ?_;refine cnd H (fun h15 H=>?_) (fun h15 H=>?_)
   ·refine rA ?_;refine jv (lf ?_);refine lx H fun hyy=>?_;subst hyy;have H:=Ho9
    try dsimp only at H
    refine lf ?_;obtain rfl:=sI H;exact rt []
   refine jp (hK13 _ ?_);refine eA ?_;refine lf ?_;exact nx H (wb [])
  refine jT (lf ?_);refine lx H fun hyy=>?_;subst hyy;have H:=Ho9
  try dsimp only at H
  refine lf ?_;exact ⟨(),H,wb []⟩
 rintro ⟨⟩ H
 try dsimp only at H
 unfold bq2 at H;refine Sm.st (cz6.eq_1 ..) ?_;refine rA ?_;refine jv (lf ?_);obtain rfl:=sI H;exact rt []
abbrev czr (n_:Int):S:=stB [(3,.c (.int .i64) (.int n_))] []
def bqj (n:Nat) (n_:Int):Option Int :=
 some n_
abbrev ck8 (l:List aj0) (v10:Int) (n__1:Int) (v11:Int):S:=stB [(3,.c (.int .i64) (.int n__1)),(9,.c (.slice 80) (.slice (List.map aj2 l))),(10,.c (.int .i64) (.int v10)),(11,.c (.int .i64) (.int v11))] []
def azo (n:Nat) (l:List aj0) (v10:Int) (n__1:Int) (v11:Int):Option ((Int×Int) ⊕ ((Int))) :=
 bif (decide (v11 < v10)) then
  gd ((0≤v11∧v11 < (l.length:Int))) <|
  some (.inl ((ja .i64 (n__1+((gt l (Int.toNat v11)).Len))),(ja .i64 (v11+1))))
 else
  some (.inr n__1)
def bjm (n:Nat) (l:List aj0):Option Int :=
 (aq9 n l).bind fun r1 =>
 bif (!r1) then
  some 0
 else
  (ajg (fun (x:Int×Int)=>azo n l (l.length:Int) x.1 x.2) n (0,0)).bind fun y9 =>
  bqj n y9
def cqa (n:Nat):Go.AE.Fn:=mkFn (A:=(List aj0)) (R:=Int) 99 [(false,[.slice 80])] false (fun xs=>((cg (xs.getD 0 []) 0).toSl.map ajl)) (fun a=>[[.slice (List.map aj2 a)]]) (fun a=>bjm n a) (fun r=>[.c (.int .i64) (.int r)]) (fun r=>[])
theorem dws (n:Nat):aj1 jd (cqa n):=by
 have hΓ:=g1 (ayi n) (@g0 (aj1 jd));refine cF (Tryz.f99.body.getD .skip) Tryz.func99 rfl Tryz.call99 ?_;rintro l r H
 try dsimp only at H
 unfold bjm at H;simp only [Tryz.f99,jr];refine rA ?_;refine jn fun K2 hK2=>?_;obtain ⟨r1,hr1,H⟩:=bind_some H;have q:=aI @ak5.eq_1 hr1;refine rAq ?_;refine cnd H (fun h4 H=>?_) (fun h4 H=>?_)
 ·refine rA ?_;refine jv (lf ?_);obtain rfl:=sI H;exact rt []
 refine jp (hK2 _ ?_);refine rA ?_;refine jU (fun (x:Int)=>czr x) (fun x=>bqj n x=some r) ?_ ?_
 ·refine rA ?_;refine js ?_;obtain ⟨y9,hy9,Ho9⟩:=bind_some H;refine jO _ (fun x=>ck8 l (l.length:Int) x.1 x.2) hy9 (wb []) ?_;rintro ⟨n__1,v11⟩ z9 H
  try dsimp only at H
  unfold azo at H;refine Sm.st (ck8.eq_1 ..) ?_;refine rA ?_;refine jn fun K11 hK11=>?_;refine cnd H (fun h12 H=>?_) (fun h12 H=>?_)
  ·refine jp (hK11 _ (jn fun K13 hK13=>js ?_));obtain ⟨hg15,H⟩:=aj3 H;refine rA ?_;refine eA ?_;refine hK13 _ ?_;refine eA ?_;refine lf ?_;exact nx H (wb [])
  refine jT (lf ?_);refine lx H fun hyy=>?_;subst hyy;have H:=Ho9
  try dsimp only at H
  refine lf ?_;exact ⟨_,H,wb []⟩
 rintro n_ H
 try dsimp only at H
 unfold bqj at H;refine Sm.st (czr.eq_1 ..) ?_;refine rA ?_;refine jv (lf ?_);obtain rfl:=sI H;exact rt []
abbrev by6 (d:aj8):S:=stB [(3,.box 9000 0)] [(9000,.box (cD d))]
def aki (n:Nat) (d:aj8):Option Bool :=
 (bjm n d.Extents).bind fun r2 =>
 (aq1 n d.Used 0 r2).bind fun r3 =>
 some r3
abbrev by4 (v:aja) (d:aj8) (v32:Int) (v33:Int):S:=stB [(2,.box 9003 0),(3,.box 9004 0),(31,.c (.slice 80) (.slice (List.map aj2 d.Extents))),(32,.c (.int .i64) (.int v32)),(33,.c (.int .i64) (.int v33))] [(9003,.box (cV v)),(9004,.box (cD d))]
def az2 (n:Nat) (v:aja) (d:aj8) (v32:Int) (v33:Int):Option ((Int) ⊕ (((Bool) ⊕ (Unit)))) :=
 bif (decide (v33 < v32)) then
  gd ((0≤v33∧v33 < (d.Extents.length:Int))) <|
  bif (decide ((ja .i64 (((gt d.Extents (Int.toNat v33)).At)+((gt d.Extents (Int.toNat v33)).Len))) > (ja .i64 (v.Cyls * v.Heads)))) then
   some (.inr (.inl false))
  else
   some (.inl (ja .i64 (v33+1)))
 else
  some (.inr (.inr ()))
def ay3 (n:Nat) (v:aja) (d:aj8):Option Bool :=
 (cjn n d.Name).bind fun r1 =>
 gd (((!(!r1))=true→(aqd n d.Dcb).isSome=true)∧((!(if (!r1)=true then true else (!((aqd n d.Dcb).getD default))))=true→(aq1 n (d.Extents.length:Int) 1 8).isSome=true)∧((!(if (if (!r1)=true then true else (!((aqd n d.Dcb).getD default)))=true then true else (!((aq1 n (d.Extents.length:Int) 1 8).getD default))))=true→(aq9 n d.Extents).isSome=true)) <|
 bif (if (if (if (!r1)=true then true else (!((aqd n d.Dcb).getD default)))=true then true else (!((aq1 n (d.Extents.length:Int) 1 8).getD default)))=true then true else (!((aq9 n d.Extents).getD default))) then
  some false
 else
  (ajg (fun (x:Int)=>az2 n v d (d.Extents.length:Int) x) n 0).bind fun y8 =>
  match y8 with
  | .inl vv =>
   some vv
  | .inr vv =>
   aki n d
def cw0 (n:Nat):Go.AE.Fn:=mkFn (A:=aja×aj8) (R:=Bool) 68 [(true,[.str,.int .i64,.int .i64,.int .i64,.slice 41]),(true,kD)] false (fun xs=>((⟨(cg (xs.getD 0 []) 0).toStr,(cg (xs.getD 0 []) 1).toInt,(cg (xs.getD 0 []) 2).toInt,(cg (xs.getD 0 []) 3).toInt,((cg (xs.getD 0 []) 4).toSl.map awo)⟩:aja),(⟨(cg (xs.getD 1 []) 0).toStr,(⟨(cg (xs.getD 1 []) 1).toInt,(cg (xs.getD 1 []) 2).toInt,(cg (xs.getD 1 []) 3).toBool,(cg (xs.getD 1 []) 4).toBool,(cg (xs.getD 1 []) 5).toInt,(cg (xs.getD 1 []) 6).toInt,(cg (xs.getD 1 []) 7).toInt,(cg (xs.getD 1 []) 8).toInt⟩:TDcb),((cg (xs.getD 1 []) 9).toSl.map ajl),(cg (xs.getD 1 []) 10).toInt⟩:aj8))) (fun a=>[[.str a.1.Serial,.int a.1.Cyls,.int a.1.Heads,.int a.1.Size,.slice (List.map aj6 a.1.Sets)],[.str a.2.Name,.int a.2.Dcb.Org,.int a.2.Dcb.Format,.bool a.2.Dcb.Blocked,.bool a.2.Dcb.Asa,.int a.2.Dcb.Lrecl,.int a.2.Dcb.Blksize,.int a.2.Dcb.KeyLen,.int a.2.Dcb.KeyPos,.slice (List.map aj2 a.2.Extents),.int a.2.Used]]) (fun a=>ay3 n a.1 a.2) (fun r=>[.c .bool (.bool r)]) (fun r=>[])
theorem ej8 (n:Nat):aj1 jd (cw0 n):=by
 have hΓ:=g1 (ekv n) (g1 (bks n) (g1 (ejl n) (g1 (ayi n) (g1 (dws n) (@g0 (aj1 jd))))));have qe:=aI @dk9.eq_1 (aI @bqc.eq_1 (aI @dql.eq_1 (aI @ak5.eq_1 @cqa.eq_1)));refine cF (Tryz.f68.body.getD .skip) Tryz.func68 rfl Tryz.call68 ?_;rintro ⟨v,d⟩ r H
 try dsimp only at H
 unfold ay3 at H;simp only [Tryz.f68,jr];refine rA ?_;refine jn fun K2 hK2=>?_;obtain ⟨r1,hr1,H⟩:=bind_some H;obtain ⟨⟨hg18,hg19,hg20⟩,H⟩:=aj3 H;have q:=aI qe hr1;refine rAq ?_;refine cnd H (fun h4 H=>?_) (fun h4 H=>?_)
 ·refine rA ?_;refine jv (lf ?_);obtain rfl:=sI H;exact rt []
 refine jp (hK2 _ ?_);refine jU (fun (x:Unit)=>by6 d) (fun x=>aki n d=some r) ?_ ?_
 ·refine rA ?_;refine js ?_;obtain ⟨y8,hy8,Ho8⟩:=bind_some H;refine jO _ (fun x=>by4 v d (d.Extents.length:Int) x) hy8 (wb [some 32,some 48]) ?_;rintro v33 z8 H
  try dsimp only at H
  unfold az2 at H;refine Sm.st (by4.eq_1 ..) ?_;refine rA ?_;refine jn fun K10 hK10=>?_;refine cnd H (fun h11 H=>?_) (fun h11 H=>?_)
  ·refine jp (hK10 _ (jn fun K12 hK12=>js ?_));obtain ⟨hg17,H⟩:=aj3 H;refine rA ?_;refine rA ?_;refine cnd H (fun h15 H=>?_) (fun h15 H=>?_)
   ·refine rA ?_;refine jv (lf ?_);refine lx H fun hyy=>?_;subst hyy;have H:=Ho8
    try dsimp only at H
    refine lf ?_;obtain rfl:=sI H;exact rt []
   refine jp (hK12 _ ?_);refine eA ?_;refine lf ?_;exact nx H (wb [some 9003,some 9004])
  refine jT (lf ?_);refine lx H fun hyy=>?_;subst hyy;have H:=Ho8
  try dsimp only at H
  refine lf ?_;exact ⟨(),H,wb [some 9004]⟩
 rintro ⟨⟩ H
 try dsimp only at H
 unfold aki at H;refine Sm.st (by6.eq_1 ..) ?_;obtain ⟨r2,hr2,H⟩:=bind_some H;obtain ⟨r3,hr3,H⟩:=bind_some H;have q:=aI qe (aI hr2 hr3);refine rDq ?_;refine jv (lf ?_);obtain rfl:=sI H;exact rt []
abbrev dw5 (used:List aj0):S:=stB [(3,.own 9000 [.int .i64,.int .i64] 0 used.length)] [(9000,.row 80 (List.map aj2 used))]
def bzp (n:Nat) (used:List aj0):Option Int :=
 (aq9 n used).bind fun r3 =>
 bif (!r3) then
  some 5
 else
  some 0
abbrev dzi (v:aja) (v54:Int) (used_1:List aj0) (v55:Int):S:=stB [(1,.box 9003 0),(3,.own 9004 [.int .i64,.int .i64] 0 used_1.length),(53,.c (.slice 41) (.slice (List.map aj6 v.Sets))),(54,.c (.int .i64) (.int v54)),(55,.c (.int .i64) (.int v55))] [(9003,.box (cV v)),(9004,.row 80 (List.map aj2 used_1))]
def ak4 (n:Nat) (v:aja) (v54:Int) (used_1:List aj0) (v55:Int):Option (((List aj0)×Int) ⊕ (((Int) ⊕ ((List aj0))))) :=
 bif (decide (v55 < v54)) then
  gd ((0≤v55∧v55 < (v.Sets.length:Int))) <|
  (ay3 n v (gt v.Sets (Int.toNat v55))).bind fun r4 =>
  gd ((((!(!r4)) && (decide (v55 > 0)))=true→(0≤(ja .i64 (v55 - 1))∧(ja .i64 (v55 - 1)) < (v.Sets.length:Int)))) <|
  bif (if (!r4)=true then true else (if (decide (v55 > 0))=true then (!Op.bytesLess ((gt v.Sets (Int.toNat (ja .i64 (v55 - 1)))).Name) ((gt v.Sets (Int.toNat v55)).Name)) else false)) then
   some (.inr (.inl 5))
  else
   gd ((used_1.length+((gt v.Sets (Int.toNat v55)).Extents).length)≤2147483648) <|
   some (.inl ((used_1 ++ (gt v.Sets (Int.toNat v55)).Extents),(ja .i64 (v55+1))))
 else
  some (.inr (.inr used_1))
def awf (n:Nat) (v:aja):Option Int :=
 (aq1 n (v.Serial.length:Int) 1 6).bind fun r1 =>
 gd (((!(!r1))=true→(aqp n v.Serial [65,66,67,68,69,70,71,72,73,74,75,76,77,78,79,80,81,82,83,84,85,86,87,88,89,90,48,49,50,51,52,53,54,55,56,57]).isSome=true)) <|
 bif (if (!r1)=true then true else (((aqp n v.Serial [65,66,67,68,69,70,71,72,73,74,75,76,77,78,79,80,81,82,83,84,85,86,87,88,89,90,48,49,50,51,52,53,54,55,56,57]).getD default) != [])) then
  some 5
 else
  (aq1 n v.Cyls 1 64).bind fun r2 =>
  gd (((!(!r2))=true→(aq1 n v.Heads 1 8).isSome=true)∧((!(if (!r2)=true then true else (!((aq1 n v.Heads 1 8).getD default))))=true→(aq1 n v.Size 1 (ja .i64 ((ja .i64 (v.Cyls * v.Heads)) - 1))).isSome=true)) <|
  bif (if (if (!r2)=true then true else (!((aq1 n v.Heads 1 8).getD default)))=true then true else (!((aq1 n v.Size 1 (ja .i64 ((ja .i64 (v.Cyls * v.Heads)) - 1))).getD default))) then
   some 5
  else
   bif (decide ((v.Sets.length:Int) > (if (ja .i64 (14 * v.Size)) < 64 then (ja .i64 (14 * v.Size)) else 64))) then
    some 5
   else
    (ajg (fun (x:(List aj0)×Int)=>ak4 n v (v.Sets.length:Int) x.1 x.2) n ([(⟨0,(ja .i64 (v.Size+1))⟩:aj0)],0)).bind fun y21 =>
    match y21 with
    | .inl vv =>
     some vv
    | .inr vv =>
     bzp n vv
def akr (n:Nat):Go.AE.Fn:=mkFn (A:=aja) (R:=Int) 30 [(true,[.str,.int .i64,.int .i64,.int .i64,.slice 41])] false (fun xs=>(⟨(cg (xs.getD 0 []) 0).toStr,(cg (xs.getD 0 []) 1).toInt,(cg (xs.getD 0 []) 2).toInt,(cg (xs.getD 0 []) 3).toInt,((cg (xs.getD 0 []) 4).toSl.map awo)⟩:aja)) (fun a=>[[.str a.Serial,.int a.Cyls,.int a.Heads,.int a.Size,.slice (List.map aj6 a.Sets)]]) (fun a=>awf n a) (fun r=>[.c (.int .i64) (.int r)]) (fun r=>[])
theorem bw1 (n:Nat):aj1 jd (akr n):=by
 have hΓ:=g1 (ejl n) (g1 (dqt n) (g1 (ej8 n) (g1 (ayi n) (@g0 (aj1 jd)))));have qe:=aI @dql.eq_1 (aI @ayb.eq_1 (aI @cw0.eq_1 @ak5.eq_1));refine cF (Tryz.f30.body.getD .skip) Tryz.func30 rfl Tryz.call30 ?_;rintro v r H
 try dsimp only at H
 unfold awf at H;simp only [Tryz.f30,jr];refine rA ?_;refine jn fun K2 hK2=>?_;obtain ⟨r1,hr1,H⟩:=bind_some H;obtain ⟨hg36,H⟩:=aj3 H;have q:=aI qe hr1;refine rAq ?_;refine cnd H (fun h4 H=>?_) (fun h4 H=>?_)
 ·refine rA ?_;refine jv (lf ?_);obtain rfl:=sI H;exact rt []
 refine jp (hK2 _ (jn fun K6 hK6=>?_));obtain ⟨r2,hr2,H⟩:=bind_some H;obtain ⟨⟨hg34,hg35⟩,H⟩:=aj3 H;have q:=aI qe hr2;refine rAq ?_;refine cnd H (fun h8 H=>?_) (fun h8 H=>?_)
 ·refine rA ?_;refine jv (lf ?_);obtain rfl:=sI H;exact rt []
 refine jp (hK6 _ (jn fun K10 hK10=>?_));refine rA ?_;refine cnd H (fun h12 H=>?_) (fun h12 H=>?_)
 ·refine rA ?_;refine jv (lf ?_);obtain rfl:=sI H;exact rt []
 refine jp (hK10 _ ?_);refine rA ?_;refine jU (fun (x:(List aj0))=>dw5 x) (fun x=>bzp n x=some r) ?_ ?_
 ·refine rA ?_;refine js ?_;obtain ⟨y21,hy21,Ho21⟩:=bind_some H;refine jO _ (fun x=>dzi v (v.Sets.length:Int) x.1 x.2) hy21 (wb [some 16,some 816]) ?_;rintro ⟨used_1,v55⟩ z21 H
  try dsimp only at H
  unfold ak4 at H;refine Sm.st (dzi.eq_1 ..) ?_;refine rA ?_;refine jn fun K23 hK23=>?_;refine cnd H (fun h24 H=>?_) (fun h24 H=>?_)
  ·refine jp (hK23 _ (jn fun K25 hK25=>js ?_));obtain ⟨hg33,H⟩:=aj3 H;refine rA ?_;refine jn fun K27 hK27=>?_;obtain ⟨r4,hr4,H⟩:=bind_some H;obtain ⟨hg32,H⟩:=aj3 H;have q:=aI qe hr4;refine rDq ?_;refine cnd H (fun h29 H=>?_) (fun h29 H=>?_)
   ·refine rA ?_;refine jv (lf ?_);refine lx H fun hyy=>?_;subst hyy;have H:=Ho21
    try dsimp only at H
    refine lf ?_;obtain rfl:=sI H;exact rt []
   refine jp (hK27 _ ?_);obtain ⟨hg31,H⟩:=aj3 H;refine eA ?_;refine hK25 _ ?_;refine eA ?_;refine lf ?_;exact nx H (wb [some 9003,some 1328])
  refine jT (lf ?_);refine lx H fun hyy=>?_;subst hyy;have H:=Ho21
  try dsimp only at H
  refine lf ?_;exact ⟨_,H,wb [some 9004]⟩
 rintro used H
 try dsimp only at H
 unfold bzp at H;refine Sm.st (dw5.eq_1 ..) ?_;refine jn fun K15 hK15=>?_;obtain ⟨r3,hr3,H⟩:=bind_some H;have q:=aI qe hr3;refine rAq ?_;refine cnd H (fun h17 H=>?_) (fun h17 H=>?_)
 ·refine rA ?_;refine jv (lf ?_);obtain rfl:=sI H;exact rt []
 refine jp (hK15 _ ?_);refine rA ?_;refine jv (lf ?_);obtain rfl:=sI H;exact rt []
def ey5 (n:Nat) (serial:List UInt8) (cyls:Int) (heads:Int) (size:Int):Option (aja×Int) :=
 (awf n (⟨serial,cyls,heads,size,[]⟩:aja)).bind fun r1 =>
 bif (r1 != 0) then
  some ((⟨[],0,0,0,[]⟩:aja),1)
 else
  some ((⟨serial,cyls,heads,size,[]⟩:aja),0)
def fqu (n:Nat):Go.AE.Fn:=mkFn (A:=(List UInt8)×Int×Int×Int) (R:=aja×Int) 15 [(false,[.str]),(false,[.int .i64]),(false,[.int .i64]),(false,[.int .i64])] false (fun xs=>((cg (xs.getD 0 []) 0).toStr,(cg (xs.getD 1 []) 0).toInt,(cg (xs.getD 2 []) 0).toInt,(cg (xs.getD 3 []) 0).toInt)) (fun a=>[[.str a.1],[.int a.2.1],[.int a.2.2.1],[.int a.2.2.2]]) (fun a=>ey5 n a.1 a.2.1 a.2.2.1 a.2.2.2) (fun r=>[.agg [.c .str (.str r.1.Serial),.c (.int .i64) (.int r.1.Cyls),.c (.int .i64) (.int r.1.Heads),.c (.int .i64) (.int r.1.Size),.nilsl],.c (.int .i64) (.int r.2)]) (fun r=>[])
theorem hq7 (n:Nat):aj1 jd (fqu n):=by
 have hΓ:=g1 (bw1 n) (@g0 (aj1 jd));refine cF (Tryz.f15.body.getD .skip) Tryz.func15 rfl Tryz.call15 ?_;rintro ⟨serial,cyls,heads,size⟩ r H
 try dsimp only at H
 unfold ey5 at H;simp only [Tryz.f15,jr];refine rA ?_;refine rA ?_;refine jn fun K3 hK3=>?_;obtain ⟨r1,hr1,H⟩:=bind_some H;have q:=aI @akr.eq_1 hr1;refine rAq ?_;refine cnd H (fun h5 H=>?_) (fun h5 H=>?_)
 ·refine rA ?_;refine jv (lf ?_);obtain rfl:=sI H;exact rt []
 refine jp (hK3 _ ?_);refine rA ?_;refine jv (lf ?_);obtain rfl:=sI H;exact rt []
def cq9 (n:Nat):Option TDcb :=
 some (⟨1,1,false,false,80,80,0,0⟩:TDcb)
def dy0 (n:Nat):Go.AE.Fn:=mkFn (A:=Unit) (R:=TDcb) 42 [] false (fun xs=>()) (fun a=>[]) (fun a=>cq9 n) (fun r=>[.agg [.c (.int .i64) (.int r.Org),.c (.int .i64) (.int r.Format),.c .bool (.bool r.Blocked),.c .bool (.bool r.Asa),.c (.int .i64) (.int r.Lrecl),.c (.int .i64) (.int r.Blksize),.c (.int .i64) (.int r.KeyLen),.c (.int .i64) (.int r.KeyPos)]]) (fun r=>[])
theorem fqp (n:Nat):aj1 jd (dy0 n):=by
 have hΓ:=@g0 (aj1 jd);refine cF (Tryz.f42.body.getD .skip) Tryz.func42 rfl Tryz.call42 ?_;rintro ⟨⟩ r H
 try dsimp only at H
 unfold cq9 at H;simp only [Tryz.f42,jr];refine rA ?_;refine rA ?_;refine jv (lf ?_);obtain rfl:=sI H;exact rt []
def az3 (n:Nat) (d:aj8) (s:List UInt8):Option Int :=
 (strings_Compare n d.Name s).bind fun r1 =>
 some r1
def bja (n:Nat):Go.AE.Fn:=mkFn (A:=aj8×(List UInt8)) (R:=Int) 117 [(true,kD),(false,[.str])] false (fun xs=>((⟨(cg (xs.getD 0 []) 0).toStr,(⟨(cg (xs.getD 0 []) 1).toInt,(cg (xs.getD 0 []) 2).toInt,(cg (xs.getD 0 []) 3).toBool,(cg (xs.getD 0 []) 4).toBool,(cg (xs.getD 0 []) 5).toInt,(cg (xs.getD 0 []) 6).toInt,(cg (xs.getD 0 []) 7).toInt,(cg (xs.getD 0 []) 8).toInt⟩:TDcb),((cg (xs.getD 0 []) 9).toSl.map ajl),(cg (xs.getD 0 []) 10).toInt⟩:aj8),(cg (xs.getD 1 []) 0).toStr)) (fun a=>[[.str a.1.Name,.int a.1.Dcb.Org,.int a.1.Dcb.Format,.bool a.1.Dcb.Blocked,.bool a.1.Dcb.Asa,.int a.1.Dcb.Lrecl,.int a.1.Dcb.Blksize,.int a.1.Dcb.KeyLen,.int a.1.Dcb.KeyPos,.slice (List.map aj2 a.1.Extents),.int a.1.Used],[.str a.2]]) (fun a=>az3 n a.1 a.2) (fun r=>[.c (.int .i64) (.int r)]) (fun r=>[])
theorem djz (n:Nat):aj1 jd (bja n):=by
 have hΓ:=g1 (ej7 n) (@g0 (aj1 jd));refine cF (Tryz.f117.body.getD .skip) Tryz.func117 rfl Tryz.call117 ?_;rintro ⟨d,s⟩ r H
 try dsimp only at H
 unfold az3 at H;simp only [Tryz.f117,jr];refine rA ?_;obtain ⟨r1,hr1,H⟩:=bind_some H;have q:=aI @akb.eq_1 hr1;refine rAq ?_;refine jv (lf ?_);obtain rfl:=sI H;exact rt []
abbrev awj (x_:List aj8) (target:List UInt8) (n_:Int) (i:Int):S:=stB [(0,.c (.slice 41) (.slice (List.map aj6 x_))),(1,.c .str (.str target)),(2,.fnv 117 []),(8,.c (.int .i64) (.int n_)),(9,.c (.int .i64) (.int i))] []
def aqj (n:Nat) (x_:List aj8) (target:List UInt8) (n_:Int) (i:Int):Option (Int×Bool) :=
 gd (((decide (i < n_))=true→(0≤i∧i < (x_.length:Int)))∧((decide (i < n_))=true→(az3 n (gt x_ (Int.toNat i)) target).isSome=true)) <|
 some (i,(if (decide (i < n_))=true then (((az3 n (gt x_ (Int.toNat i)) target).getD default) == 0) else false))
abbrev awm (x_:List aj8) (target:List UInt8) (n__1:Int) (i_1:Int) (j:Int):S:=stB [(0,.c (.slice 41) (.slice (List.map aj6 x_))),(1,.c .str (.str target)),(2,.fnv 117 []),(8,.c (.int .i64) (.int n__1)),(9,.c (.int .i64) (.int i_1)),(10,.c (.int .i64) (.int j))] []
def awl (n:Nat) (x_:List aj8) (target:List UInt8) (n__1:Int) (i_1:Int) (j:Int):Option ((Int×Int) ⊕ ((Int))) :=
 bif (decide (i_1 < j)) then
  gd ((0≤(ja .i64 ((Int.fdiv (ja .u64 ((ja .i64 (i_1+j)))) (2 ^ min 1 (jj .u64)))))∧(ja .i64 ((Int.fdiv (ja .u64 ((ja .i64 (i_1+j)))) (2 ^ min 1 (jj .u64))))) < (x_.length:Int))) <|
  (az3 n (gt x_ (Int.toNat (ja .i64 ((Int.fdiv (ja .u64 ((ja .i64 (i_1+j)))) (2 ^ min 1 (jj .u64))))))) target).bind fun r1 =>
  bif (decide (r1 < 0)) then
   some (.inl ((ja .i64 ((ja .i64 ((Int.fdiv (ja .u64 ((ja .i64 (i_1+j)))) (2 ^ min 1 (jj .u64)))))+1)),j))
  else
   some (.inl (i_1,(ja .i64 ((Int.fdiv (ja .u64 ((ja .i64 (i_1+j)))) (2 ^ min 1 (jj .u64)))))))
 else
  some (.inr i_1)
def aqs (n:Nat) (x_:List aj8) (target:List UInt8):Option (Int×Bool) :=
 (ajg (fun (x:Int×Int)=>awl n x_ target (x_.length:Int) x.1 x.2) n (0,(x_.length:Int))).bind fun y7 =>
 aqj n x_ target (x_.length:Int) y7
theorem bqs (n:Nat) (x_:List aj8) (target:List UInt8) (r:Int×Bool) (H:aqs n x_ target=some r):akx jd 116 [.dat (false,[.slice 41]) [.slice (List.map aj6 x_)],.dat (false,[.str]) [.str target],.ref (.fnv 117 [])] [] [.c (.int .i64) (.int r.1),.c .bool (.bool r.2)] []:=by
 have hΓ:=g1 (djz n) (@g0 (aj1 jd));refine bkq (Tryz.f116.body.getD .skip) h00 Tryz.func116 rfl Tryz.call116 (jZ rfl) (jZ rfl) ?_;unfold aqs at H;simp only [Tryz.f116,jr];refine rA ?_;refine rA ?_;refine rA ?_;refine jU (fun (x:Int×Int)=>awj x_ target x.1 x.2) (fun x=>aqj n x_ target x.1 x.2=some r) ?_ ?_
 ·refine js ?_;obtain ⟨y7,hy7,Ho7⟩:=bind_some H;refine jO _ (fun x=>awm x_ target (x_.length:Int) x.1 x.2) hy7 (wb []) ?_;rintro ⟨i_1,j⟩ z7 H
  try dsimp only at H
  unfold awl at H;refine Sm.st (awm.eq_1 ..) ?_;refine jn fun K8 hK8=>?_;refine rA ?_;refine cnd H (fun h10 H=>?_) (fun h10 H=>?_)
  ·refine jp (hK8 _ (js ?_));refine sX fun K11 hK11=>?_
   iterate 4 refine oX ?_
   refine oE awz ?_
   iterate 2 refine oX ?_
   refine hK11 _ ?_;obtain ⟨hg14,H⟩:=aj3 H;obtain ⟨r1,hr1,H⟩:=bind_some H;have q:=aI @bja.eq_1 hr1;refine rAq ?_;refine cnd H (fun h13 H=>?_) (fun h13 H=>?_)
   ·refine eA ?_;refine lf ?_;exact nx H (wb [])
   refine eA ?_;refine lf ?_;exact nx H (wb [])
  refine jT (lf ?_);refine lx H fun hyy=>?_;subst hyy;have H:=Ho7
  try dsimp only at H
  refine lf ?_;exact ⟨((x_.length:Int),i_1),H,wb []⟩
 rintro ⟨n_,i⟩ H
 try dsimp only at H
 unfold aqj at H;refine Sm.st (awj.eq_1 ..) ?_;obtain ⟨⟨hg5,hg6⟩,H⟩:=aj3 H;have q:=@bja.eq_1;refine rAq ?_;refine jv (lf ?_);obtain rfl:=sI H;exact rtM []
def bz6 (n:Nat) (v:aja) (name:List UInt8):Option (Int×Bool) :=
 (aqs n v.Sets name).bind fun r1 =>
 some (r1.1,r1.2)
def cj9 (n:Nat):Go.AE.Fn:=mkFn (A:=aja×(List UInt8)) (R:=Int×Bool) 56 [(true,[.str,.int .i64,.int .i64,.int .i64,.slice 41]),(false,[.str])] false (fun xs=>((⟨(cg (xs.getD 0 []) 0).toStr,(cg (xs.getD 0 []) 1).toInt,(cg (xs.getD 0 []) 2).toInt,(cg (xs.getD 0 []) 3).toInt,((cg (xs.getD 0 []) 4).toSl.map awo)⟩:aja),(cg (xs.getD 1 []) 0).toStr)) (fun a=>[[.str a.1.Serial,.int a.1.Cyls,.int a.1.Heads,.int a.1.Size,.slice (List.map aj6 a.1.Sets)],[.str a.2]]) (fun a=>bz6 n a.1 a.2) (fun r=>[.c (.int .i64) (.int r.1),.c .bool (.bool r.2)]) (fun r=>[])
theorem dzz (n:Nat):aj1 jd (cj9 n):=by
 have hΓ:=@g0 (aj1 jd);refine cF (Tryz.f56.body.getD .skip) Tryz.func56 rfl Tryz.call56 ?_;rintro ⟨v,name⟩ r H
 try dsimp only at H
 unfold bz6 at H;simp only [Tryz.f56,jr];refine rA ?_;refine sX fun K2 hK2=>?_;obtain ⟨r1,hr1,H⟩:=bind_some H;have q:=hr1
 iterate 3 refine oX ?_
 refine oMq (bqs n _ _ r1 hr1) [] [] ?_
 iterate 4 refine oXq ?_
 refine hK2 _ (jv (lf ?_));obtain rfl:=sI H;exact rt []
abbrev cy7 (out_1:List aj0):S:=stB [(5,.own 9001 [.int .i64,.int .i64] 0 out_1.length)] [(9001,.row 80 (List.map aj2 out_1))]
def bw9 (n:Nat) (out_1:List aj0):Option (List aj0) :=
 some out_1
abbrev cyl (n_:Int) (out:List aj0) (at_:Int):S:=stB [(1,.c (.int .i64) (.int n_)),(5,.own 9000 [.int .i64,.int .i64] 0 out.length),(6,.c (.int .i64) (.int at_))] [(9000,.row 80 (List.map aj2 out))]
def byh (n:Nat) (n_:Int) (out:List aj0) (at_:Int):Option (List aj0) :=
 bif (decide (n_ > at_)) then
  gd ((out.length+1)≤2147483648) <|
  bw9 n (out ++ [(⟨at_,(ja .i64 (n_ - at_))⟩:aj0)])
 else
  bw9 n out
abbrev cya (n_:Int) (out_3:List aj0) (at__2:Int) (v22:List aj0) (v23:Int) (v24:Int):S:=stB [(1,.c (.int .i64) (.int n_)),(5,.own 9004 [.int .i64,.int .i64] 0 out_3.length),(6,.c (.int .i64) (.int at__2)),(22,.c (.slice 80) (.slice (List.map aj2 v22))),(23,.c (.int .i64) (.int v23)),(24,.c (.int .i64) (.int v24))] [(9004,.row 80 (List.map aj2 out_3))]
def byq (n:Nat) (n_:Int) (out_3:List aj0) (at__2:Int) (v22:List aj0) (v23:Int) (v24:Int):Option (((List aj0)×Int×Int) ⊕ (((List aj0)×Int))) :=
 some (.inl (out_3,at__2,(ja .i64 (v24+1))))
abbrev dj0 (n_:Int) (out_4:List aj0) (x_:Int) (x__1:Int) (v22:List aj0) (v23:Int) (v24:Int):S:=stB [(1,.c (.int .i64) (.int n_)),(5,.own 9005 [.int .i64,.int .i64] 0 out_4.length),(8,.box 9006 0),(22,.c (.slice 80) (.slice (List.map aj2 v22))),(23,.c (.int .i64) (.int v23)),(24,.c (.int .i64) (.int v24))] [(9005,.row 80 (List.map aj2 out_4)),(9006,.box [.c (.int .i64) (.int x_),.c (.int .i64) (.int x__1)])]
def bwk (n:Nat) (n_:Int) (out_4:List aj0) (x_:Int) (x__1:Int) (v22:List aj0) (v23:Int) (v24:Int):Option (((List aj0)×Int×Int) ⊕ (((List aj0)×Int))) :=
 byq n n_ out_4 (ja .i64 (x_+x__1)) v22 v23 v24
abbrev cy4 (n_:Int) (v22:List aj0) (v23:Int) (out_2:List aj0) (at__1:Int) (v24:Int):S:=stB [(1,.c (.int .i64) (.int n_)),(5,.own 9003 [.int .i64,.int .i64] 0 out_2.length),(6,.c (.int .i64) (.int at__1)),(22,.c (.slice 80) (.slice (List.map aj2 v22))),(23,.c (.int .i64) (.int v23)),(24,.c (.int .i64) (.int v24))] [(9003,.row 80 (List.map aj2 out_2))]
def djl (n:Nat) (n_:Int) (v22:List aj0) (v23:Int) (out_2:List aj0) (at__1:Int) (v24:Int):Option (((List aj0)×Int×Int) ⊕ (((List aj0)×Int))) :=
 bif (decide (v24 < v23)) then
  gd ((0≤v24∧v24 < (v22.length:Int))) <|
  bif (decide ((if n_ < ((gt v22 (Int.toNat v24)).At) then n_ else ((gt v22 (Int.toNat v24)).At)) > at__1)) then
   gd ((out_2.length+1)≤2147483648) <|
   bwk n n_ (out_2 ++ [(⟨at__1,(ja .i64 ((if n_ < ((gt v22 (Int.toNat v24)).At) then n_ else ((gt v22 (Int.toNat v24)).At)) - at__1))⟩:aj0)]) ((gt v22 (Int.toNat v24)).At) ((gt v22 (Int.toNat v24)).Len) v22 v23 v24
  else
   bwk n n_ out_2 ((gt v22 (Int.toNat v24)).At) ((gt v22 (Int.toNat v24)).Len) v22 v23 v24
 else
  some (.inr (out_2,at__1))
def dq7 (n:Nat) (used:List aj0) (n_:Int):Option (List aj0) :=
 (aq9 n used).bind fun r1 =>
 bif (if (if (!r1)=true then true else (decide (n_ < 0)))=true then true else (decide (n_ > 512))) then
  some []
 else
  (ayl n used).bind fun r2 =>
  (ajg (fun (x:(List aj0)×Int×Int)=>djl n n_ r2 (r2.length:Int) x.1 x.2.1 x.2.2) n ([],0,0)).bind fun y13 =>
  byh n n_ y13.1 y13.2
def dkl (n:Nat):Go.AE.Fn:=mkFn (A:=(List aj0)×Int) (R:=(List aj0)) 76 [(false,[.slice 80]),(false,[.int .i64])] false (fun xs=>(((cg (xs.getD 0 []) 0).toSl.map ajl),(cg (xs.getD 1 []) 0).toInt)) (fun a=>[[.slice (List.map aj2 a.1)],[.int a.2]]) (fun a=>dq7 n a.1 a.2) (fun r=>[.own 0 [.int .i64,.int .i64] 0 r.length]) (fun r=>[.row 80 (List.map aj2 r)])
theorem fqf (n:Nat):aj1 jd (dkl n):=by
 have hΓ:=g1 (ayi n) (g1 (ckz n) (@g0 (aj1 jd)));have qe:=aI @ak5.eq_1 @byg.eq_1;refine aj5 (Tryz.f76.body.getD .skip) h00 Tryz.func76 rfl Tryz.call76 (by decide) (fun _ r=>⟨rfl,m1 ⟨80,_,_,rfl,ty80,rfl⟩ m0⟩) ?_;rintro ⟨used,n_⟩ r H
 try dsimp only at H
 unfold dq7 at H;simp only [Tryz.f76,jr];refine rA ?_;refine jn fun K2 hK2=>?_;obtain ⟨r1,hr1,H⟩:=bind_some H;have q:=aI qe hr1;refine rAq ?_;refine cnd H (fun h4 H=>?_) (fun h4 H=>?_)
 ·refine rA ?_;refine jv (lf ?_);obtain rfl:=sI H;exact rto [none]
 refine jp (hK2 _ ?_);refine rA ?_;refine rA ?_;refine jU (fun (x:(List aj0)×Int)=>cyl n_ x.1 x.2) (fun x=>byh n n_ x.1 x.2=some r) ?_ ?_
 ·obtain ⟨r2,hr2,H⟩:=bind_some H;have q:=aI qe hr2;refine rAq ?_;refine js ?_;obtain ⟨y13,hy13,Ho13⟩:=bind_some H;refine jO _ (fun x=>cy4 n_ r2 (r2.length:Int) x.1 x.2.1 x.2.2) hy13 (wb [none]) ?_;rintro ⟨out_2,at__1,v24⟩ z13 H
  try dsimp only at H
  unfold djl at H;refine Sm.st (cy4.eq_1 ..) ?_;refine rA ?_;refine jn fun K15 hK15=>?_;refine cnd H (fun h16 H=>?_) (fun h16 H=>?_)
  ·refine jp (hK15 _ ?_);refine jU (fun (x:(List aj0)×Int)=>cya n_ x.1 x.2 r2 (r2.length:Int) v24) (fun x=>byq n n_ x.1 x.2 r2 (r2.length:Int) v24=some z13) ?_ ?_
   ·refine js ?_;obtain ⟨hg22,H⟩:=aj3 H;refine rA ?_;refine jU (fun (x:(List aj0))=>dj0 n_ x ((gt r2 (Int.toNat v24)).At) ((gt r2 (Int.toNat v24)).Len) r2 (r2.length:Int) v24) (fun x=>bwk n n_ x ((gt r2 (Int.toNat v24)).At) ((gt r2 (Int.toNat v24)).Len) r2 (r2.length:Int) v24=some z13) ?_ ?_
    ·refine rA ?_;refine rA ?_;refine cnd H (fun h20 H=>?_) (fun h20 H=>?_)
     ·obtain ⟨hg21,H⟩:=aj3 H;refine eA ?_;refine lf ?_;exact ⟨_,H,wb [some 672,some 128]⟩
     refine jp (lf ?_);exact ⟨_,H,wb [some 9003,some 128]⟩
    rintro out_4 H
    try dsimp only at H
    unfold bwk at H;refine Sm.st (dj0.eq_1 ..) ?_;refine eA ?_;refine lf ?_;exact ⟨(out_4,(ja .i64 ((gt r2 (Int.toNat v24)).At+(gt r2 (Int.toNat v24)).Len))),H,wb [some 9005]⟩
   rintro ⟨out_3,at__2⟩ H
   try dsimp only at H
   unfold byq at H;refine Sm.st (cya.eq_1 ..) ?_;refine eA ?_;refine lf ?_;exact nx H (wb [some 9004])
  refine jT (lf ?_);refine lx H fun hyy=>?_;subst hyy;have H:=Ho13
  try dsimp only at H
  refine lf ?_;exact ⟨(out_2,at__1),H,wb [some 9003]⟩
 rintro ⟨out,at_⟩ H
 try dsimp only at H
 unfold byh at H;refine Sm.st (cyl.eq_1 ..) ?_;refine jU (fun (x:(List aj0))=>cy7 x) (fun x=>bw9 n x=some r) ?_ ?_
 ·refine rA ?_;refine cnd H (fun h10 H=>?_) (fun h10 H=>?_)
  ·obtain ⟨hg11,H⟩:=aj3 H;refine eA ?_;refine lf ?_;exact ⟨_,H,wb [some 944]⟩
  refine jp (lf ?_);exact ⟨_,H,wb [some 9000]⟩
 rintro out_1 H
 try dsimp only at H
 unfold bw9 at H;refine Sm.st (cy7.eq_1 ..) ?_;refine rA ?_;refine jv (lf ?_);obtain rfl:=sI H;exact rto [some 9001]
abbrev dkz (v:aja) (used:List aj0):S:=stB [(1,.box 9000 0),(3,.own 9001 [.int .i64,.int .i64] 0 used.length)] [(9000,.box (cV v)),(9001,.row 80 (List.map aj2 used))]
def ckc (n:Nat) (v:aja) (used:List aj0):Option (List aj0) :=
 (dq7 n used (ja .i64 (v.Cyls * v.Heads))).bind fun r2 =>
 some r2
abbrev dkp (v:aja) (v16:Int) (used_1:List aj0) (v17:Int):S:=stB [(1,.box 9004 0),(3,.own 9005 [.int .i64,.int .i64] 0 used_1.length),(15,.c (.slice 41) (.slice (List.map aj6 v.Sets))),(16,.c (.int .i64) (.int v16)),(17,.c (.int .i64) (.int v17))] [(9004,.box (cV v)),(9005,.row 80 (List.map aj2 used_1))]
def dku (n:Nat) (v:aja) (v16:Int) (used_1:List aj0) (v17:Int):Option (((List aj0)×Int) ⊕ (((List aj0)))) :=
 bif (decide (v17 < v16)) then
  gd ((0≤v17∧v17 < (v.Sets.length:Int))) <|
  gd ((used_1.length+((gt v.Sets (Int.toNat v17)).Extents).length)≤2147483648) <|
  some (.inl ((used_1 ++ (gt v.Sets (Int.toNat v17)).Extents),(ja .i64 (v17+1))))
 else
  some (.inr used_1)
def czs (n:Nat) (v:aja):Option (List aj0) :=
 (awf n v).bind fun r1 =>
 bif (r1 != 0) then
  some []
 else
  (ajg (fun (x:(List aj0)×Int)=>dku n v (v.Sets.length:Int) x.1 x.2) n ([(⟨0,(ja .i64 (v.Size+1))⟩:aj0)],0)).bind fun y9 =>
  ckc n v y9
def ckw (n:Nat):Go.AE.Fn:=mkFn (A:=aja) (R:=(List aj0)) 34 [(true,[.str,.int .i64,.int .i64,.int .i64,.slice 41])] false (fun xs=>(⟨(cg (xs.getD 0 []) 0).toStr,(cg (xs.getD 0 []) 1).toInt,(cg (xs.getD 0 []) 2).toInt,(cg (xs.getD 0 []) 3).toInt,((cg (xs.getD 0 []) 4).toSl.map awo)⟩:aja)) (fun a=>[[.str a.Serial,.int a.Cyls,.int a.Heads,.int a.Size,.slice (List.map aj6 a.Sets)]]) (fun a=>czs n a) (fun r=>[.own 0 [.int .i64,.int .i64] 0 r.length]) (fun r=>[.row 80 (List.map aj2 r)])
theorem dk4 (n:Nat):aj1 jd (ckw n):=by
 have hΓ:=g1 (bw1 n) (g1 (fqf n) (@g0 (aj1 jd)));have qe:=aI @akr.eq_1 @dkl.eq_1;refine aj5 (Tryz.f34.body.getD .skip) h00 Tryz.func34 rfl Tryz.call34 (by decide) (fun _ r=>⟨rfl,m1 ⟨80,_,_,rfl,ty80,rfl⟩ m0⟩) ?_;rintro v r H
 try dsimp only at H
 unfold czs at H;simp only [Tryz.f34,jr];refine rA ?_;refine jn fun K2 hK2=>?_;obtain ⟨r1,hr1,H⟩:=bind_some H;have q:=aI qe hr1;refine rAq ?_;refine cnd H (fun h4 H=>?_) (fun h4 H=>?_)
 ·refine rA ?_;refine jv (lf ?_);obtain rfl:=sI H;exact rto [none]
 refine jp (hK2 _ ?_);refine rA ?_;refine jU (fun (x:(List aj0))=>dkz v x) (fun x=>ckc n v x=some r) ?_ ?_
 ·refine rA ?_;refine js ?_;obtain ⟨y9,hy9,Ho9⟩:=bind_some H;refine jO _ (fun x=>dkp v (v.Sets.length:Int) x.1 x.2) hy9 (wb [some 16,some 208]) ?_;rintro ⟨used_1,v17⟩ z9 H
  try dsimp only at H
  unfold dku at H;refine Sm.st (dkp.eq_1 ..) ?_;refine rA ?_;refine jn fun K11 hK11=>?_;refine cnd H (fun h12 H=>?_) (fun h12 H=>?_)
  ·refine jp (hK11 _ (jn fun K13 hK13=>js ?_));obtain ⟨hg16,H⟩:=aj3 H;refine rA ?_;obtain ⟨hg15,H⟩:=aj3 H;refine eA ?_;refine hK13 _ ?_;refine eA ?_;refine lf ?_;exact nx H (wb [some 9004,some 384])
  refine jT (lf ?_);refine lx H fun hyy=>?_;subst hyy;have H:=Ho9
  try dsimp only at H
  refine lf ?_;exact ⟨_,H,wb [some 9004,some 9005]⟩
 rintro used H
 try dsimp only at H
 unfold ckc at H;refine Sm.st (dkz.eq_1 ..) ?_;obtain ⟨r2,hr2,H⟩:=bind_some H;have q:=aI qe hr2;refine rAq ?_;refine jv (lf ?_);obtain rfl:=sI H;exact rto [some 512]
abbrev cke:S:=stB [] []
def bk9 (n:Nat):Option Bool :=
 some true
abbrev cww (n_:Int) (l:List aj0) (v9:Int) (end_:Int) (v10:Int):S:=stB [(1,.c (.int .i64) (.int n_)),(5,.c (.int .i64) (.int end_)),(8,.c (.slice 80) (.slice (List.map aj2 l))),(9,.c (.int .i64) (.int v9)),(10,.c (.int .i64) (.int v10))] []
def azt (n:Nat) (n_:Int) (l:List aj0) (v9:Int) (end_:Int) (v10:Int):Option ((Int×Int) ⊕ (((Bool) ⊕ (Unit)))) :=
 bif (decide (v10 < v9)) then
  gd ((0≤v10∧v10 < (l.length:Int))) <|
  (bjo n (gt l (Int.toNat v10))).bind fun r1 =>
  bif (if (if (!r1)=true then true else (decide (((gt l (Int.toNat v10)).At)≤end_)))=true then true else (decide ((ja .i64 (((gt l (Int.toNat v10)).At)+((gt l (Int.toNat v10)).Len))) > n_))) then
   some (.inr (.inl false))
  else
   some (.inl ((ja .i64 (((gt l (Int.toNat v10)).At)+((gt l (Int.toNat v10)).Len))),(ja .i64 (v10+1))))
 else
  some (.inr (.inr ()))
def bww (n:Nat) (l:List aj0) (n_:Int):Option Bool :=
 (ajg (fun (x:Int×Int)=>azt n n_ l (l.length:Int) x.1 x.2) n ((-1),0)).bind fun y5 =>
 match y5 with
 | .inl vv =>
  some vv
 | .inr vv =>
  bk9 n
def dqe (n:Nat):Go.AE.Fn:=mkFn (A:=(List aj0)×Int) (R:=Bool) 137 [(false,[.slice 80]),(false,[.int .i64])] false (fun xs=>(((cg (xs.getD 0 []) 0).toSl.map ajl),(cg (xs.getD 1 []) 0).toInt)) (fun a=>[[.slice (List.map aj2 a.1)],[.int a.2]]) (fun a=>bww n a.1 a.2) (fun r=>[.c .bool (.bool r)]) (fun r=>[])
theorem fj3 (n:Nat):aj1 jd (dqe n):=by
 have hΓ:=g1 (dw1 n) (@g0 (aj1 jd));refine cF (Tryz.f137.body.getD .skip) Tryz.func137 rfl Tryz.call137 ?_;rintro ⟨l,n_⟩ r H
 try dsimp only at H
 unfold bww at H;simp only [Tryz.f137,jr];refine rA ?_;refine rA ?_;refine jU (fun (x:Unit)=>cke) (fun x=>bk9 n=some r) ?_ ?_
 ·refine rA ?_;refine js ?_;obtain ⟨y5,hy5,Ho5⟩:=bind_some H;refine jO _ (fun x=>cww n_ l (l.length:Int) x.1 x.2) hy5 (wb []) ?_;rintro ⟨end_,v10⟩ z5 H
  try dsimp only at H
  unfold azt at H;refine Sm.st (cww.eq_1 ..) ?_;refine rA ?_;refine jn fun K7 hK7=>?_;refine cnd H (fun h8 H=>?_) (fun h8 H=>?_)
  ·refine jp (hK7 _ (jn fun K9 hK9=>js ?_));obtain ⟨hg15,H⟩:=aj3 H;refine rA ?_;refine jn fun K11 hK11=>?_;obtain ⟨r1,hr1,H⟩:=bind_some H;have q:=aI @cjr.eq_1 hr1;refine rAq ?_;refine cnd H (fun h13 H=>?_) (fun h13 H=>?_)
   ·refine rA ?_;refine jv (lf ?_);refine lx H fun hyy=>?_;subst hyy;have H:=Ho5
    try dsimp only at H
    refine lf ?_;obtain rfl:=sI H;exact rt []
   refine jp (hK11 _ ?_);refine eA ?_;refine hK9 _ ?_;refine eA ?_;refine lf ?_;exact nx H (wb [])
  refine jT (lf ?_);refine lx H fun hyy=>?_;subst hyy;have H:=Ho5
  try dsimp only at H
  refine lf ?_;exact ⟨(),H,wb []⟩
 rintro ⟨⟩ H
 try dsimp only at H
 unfold bk9 at H;refine Sm.st (cke.eq_1 ..) ?_;refine rA ?_;refine jv (lf ?_);obtain rfl:=sI H;exact rt []
def awy (n:Nat) (s:List aj0) (s_l:Nat) (i:Int) (j:Int):Option (Nat×(List aj0)) :=
 gd ((0≤i∧i≤j∧j≤((s_l:Nat):Int)∧((s_l:Nat):Int)≤(s_l:Int))) <|
 bif (i == j) then
  some (s_l,s)
 else
  gd ((0≤i∧i≤(s.length:Int))∧(0≤j∧j≤(s_l:Int)∧(s_l:Int)≤(s.length:Int))∧((Int.toNat (i - 0))+(List.take (Int.toNat ((s_l:Int) - j)) (List.drop (Int.toNat j) s)).length)≤s.length) <|
  gd ((0≤((((Int.toNat (i - 0))+(List.take (Int.toNat ((s_l:Int) - j)) (List.drop (Int.toNat j) s)).length):Nat):Int)∧((((Int.toNat (i - 0))+(List.take (Int.toNat ((s_l:Int) - j)) (List.drop (Int.toNat j) s)).length):Nat):Int)≤((s_l:Nat):Int)∧((s_l:Nat):Int)≤(s.length:Int))∧(((Int.toNat (i - 0))+(List.take (Int.toNat ((s_l:Int) - j)) (List.drop (Int.toNat j) s)).length)+(Int.toNat (((s_l:Nat):Int) - ((((Int.toNat (i - 0))+(List.take (Int.toNat ((s_l:Int) - j)) (List.drop (Int.toNat j) s)).length):Nat):Int))))≤s.length) <|
  some (((Int.toNat (i - 0))+(List.take (Int.toNat ((s_l:Int) - j)) (List.drop (Int.toNat j) s)).length),(cw9 (cw9 s (Int.toNat (i - 0)) (List.take (Int.toNat ((s_l:Int) - j)) (List.drop (Int.toNat j) s))) ((Int.toNat (i - 0))+(List.take (Int.toNat ((s_l:Int) - j)) (List.drop (Int.toNat j) s)).length) (aw0 (Int.toNat (((s_l:Nat):Int) - ((((Int.toNat (i - 0))+(List.take (Int.toNat ((s_l:Int) - j)) (List.drop (Int.toNat j) s)).length):Nat):Int))) (⟨0,0⟩:aj0))))
theorem bqu (n:Nat) (s:List aj0) (s_l:Nat) (i:Int) (j:Int) (r:Nat×(List aj0)) (H:awy n s s_l i j=some r):akx jd 138 [.ref (.own 0 [.int .i64,.int .i64] 0 s_l),.dat (false,[.int .i64]) [.int i],.dat (false,[.int .i64]) [.int j]] [.row 80 (List.map aj2 s)] [.own 0 [.int .i64,.int .i64] 0 r.1] [.row 80 (List.map aj2 r.2)]:=by
 have hΓ:=@g0 (aj1 jd);refine bkq (Tryz.f138.body.getD .skip) h00 Tryz.func138 rfl Tryz.call138 (jZ rfl) (jZ rfl) ?_;unfold awy at H;simp only [Tryz.f138,jr];refine rA ?_;refine sX fun K2 hK2=>?_;obtain ⟨hg3,H⟩:=aj3 H
 iterate 5 refine oX ?_
 refine oY ?_;refine hK2 _ (jn fun K4 hK4=>?_);refine rA ?_;refine cnd H (fun h6 H=>?_) (fun h6 H=>?_)
 ·refine rA ?_;refine jv (lf ?_);obtain rfl:=sI H;exact rtM [some 0]
 refine jp (hK4 _ ?_);refine rA ?_;obtain ⟨⟨hg14,hg15,hg16⟩,H⟩:=aj3 H;refine rD ?_;refine sX fun K10 hK10=>?_;obtain ⟨⟨hg11,hg12⟩,H⟩:=aj3 H
 iterate 5 refine oX ?_
 refine oY ?_;refine hK10 _ ?_;refine rA ?_;refine jv (lf ?_);obtain rfl:=sI H;exact rtM [some 0]
abbrev djj:S:=stB [] []
def bys (n:Nat):Option ((List aj0)×(List aj0)×Int) :=
 some ([],[],200)
abbrev cyj (want_1:Int) (most:Int) (got:List aj0) (rest:List aj0) (rest_2:Nat) (longest:Int):S:=stB [(1,.c (.int .i64) (.int want_1)),(2,.c (.int .i64) (.int most)),(6,.own 9005 [.int .i64,.int .i64] 0 got.length),(7,.own 9006 [.int .i64,.int .i64] 0 rest_2),(9,.c (.int .i64) (.int longest))] [(9005,.row 80 (List.map aj2 got)),(9006,.row 80 (List.map aj2 rest))]
def byu (n:Nat) (want_1:Int) (most:Int) (got:List aj0) (rest:List aj0) (rest_2:Nat) (longest:Int):Option ((Int×(List aj0)×(List aj0)×Nat) ⊕ ((((List aj0)×(List aj0)×Int) ⊕ (Unit)))) :=
 gd ((0≤longest∧longest < (rest_2:Int))∧(Int.toNat longest) < rest.length∧(got.length+1)≤2147483648) <|
 gd ((0≤longest∧longest < (rest_2:Int))∧(Int.toNat longest) < rest.length) <|
 (awy n rest rest_2 longest (ja .i64 (longest+1))).bind fun r3 =>
 some (.inl ((ja .i64 (want_1 - ((gt rest (Int.toNat longest)).Len))),(got ++ [(gt rest (Int.toNat longest))]),r3.2,r3.1))
abbrev cys (want_1:Int) (most:Int) (got:List aj0) (rest:List aj0) (rest_4:Nat) (longest_2:Int) (v35:Int) (v36:Int):S:=stB [(1,.c (.int .i64) (.int want_1)),(2,.c (.int .i64) (.int most)),(6,.own 9013 [.int .i64,.int .i64] 0 got.length),(7,.own 9014 [.int .i64,.int .i64] 0 rest_4),(9,.c (.int .i64) (.int longest_2)),(34,.own 9014 [.int .i64,.int .i64] 0 rest_4),(35,.c (.int .i64) (.int v35)),(36,.c (.int .i64) (.int v36))] [(9013,.row 80 (List.map aj2 got)),(9014,.row 80 (List.map aj2 rest))]
def bwg (n:Nat) (want_1:Int) (most:Int) (got:List aj0) (rest:List aj0) (rest_4:Nat) (longest_2:Int) (v35:Int) (v36:Int):Option ((Nat×Int×Int) ⊕ ((((List aj0)×(List aj0)×Int) ⊕ (Nat×Int)))) :=
 some (.inl (rest_4,longest_2,(ja .i64 (v36+1))))
abbrev dji (want_1:Int) (most:Int) (got:List aj0) (rest:List aj0) (v35:Int) (rest_3:Nat) (longest_1:Int) (v36:Int):S:=stB [(1,.c (.int .i64) (.int want_1)),(2,.c (.int .i64) (.int most)),(6,.own 9011 [.int .i64,.int .i64] 0 got.length),(7,.own 9012 [.int .i64,.int .i64] 0 rest_3),(9,.c (.int .i64) (.int longest_1)),(34,.own 9012 [.int .i64,.int .i64] 0 rest_3),(35,.c (.int .i64) (.int v35)),(36,.c (.int .i64) (.int v36))] [(9011,.row 80 (List.map aj2 got)),(9012,.row 80 (List.map aj2 rest))]
def cy1 (n:Nat) (want_1:Int) (most:Int) (got:List aj0) (rest:List aj0) (v35:Int) (rest_3:Nat) (longest_1:Int) (v36:Int):Option ((Nat×Int×Int) ⊕ ((((List aj0)×(List aj0)×Int) ⊕ (Nat×Int)))) :=
 bif (decide (v36 < v35)) then
  gd ((0≤v36∧v36 < (rest_3:Int))∧(Int.toNat v36) < rest.length) <|
  bif (decide (((gt rest (Int.toNat v36)).Len) > want_1)) then
   gd ((got.length+1)≤2147483648) <|
   gd ((0≤v36∧v36 < (rest_3:Int))∧(Int.toNat v36) < rest.length) <|
   some (.inr (.inl ((got ++ [(⟨(gt rest (Int.toNat v36)).At,want_1⟩:aj0)]),(List.take rest_3 (List.set rest (Int.toNat v36) (⟨(ja .i64 (((gt rest (Int.toNat v36)).At)+want_1)),(ja .i64 (((gt rest (Int.toNat v36)).Len) - want_1))⟩:aj0))),0)))
  else
   bif (((gt rest (Int.toNat v36)).Len) == want_1) then
    gd ((got.length+1)≤2147483648) <|
    (awy n rest rest_3 v36 (ja .i64 (v36+1))).bind fun r4 =>
    some (.inr (.inl ((got ++ [(gt rest (Int.toNat v36))]),(List.take r4.1 r4.2),0)))
   else
    gd ((0≤longest_1∧longest_1 < (rest_3:Int))∧(Int.toNat longest_1) < rest.length) <|
    bif (decide (((gt rest (Int.toNat v36)).Len) > ((gt rest (Int.toNat longest_1)).Len))) then
     bwg n want_1 most got rest rest_3 v36 v35 v36
    else
     bwg n want_1 most got rest rest_3 longest_1 v35 v36
 else
  some (.inr (.inr (rest_3,longest_1)))
abbrev cyh (most:Int) (want_1:Int) (got:List aj0) (rest:List aj0) (rest_1:Nat):S:=stB [(1,.c (.int .i64) (.int want_1)),(2,.c (.int .i64) (.int most)),(6,.own 9003 [.int .i64,.int .i64] 0 got.length),(7,.own 9004 [.int .i64,.int .i64] 0 rest_1)] [(9003,.row 80 (List.map aj2 got)),(9004,.row 80 (List.map aj2 rest))]
def djb (n:Nat) (most:Int) (want_1:Int) (got:List aj0) (rest:List aj0) (rest_1:Nat):Option ((Int×(List aj0)×(List aj0)×Nat) ⊕ ((((List aj0)×(List aj0)×Int) ⊕ (Unit)))) :=
 bif (if (decide (((got.length:Nat):Int) < most))=true then (decide (((rest_1:Nat):Int) > 0)) else false) then
  (ajg (fun (x:Nat×Int×Int)=>cy1 n want_1 most got rest ((rest_1:Nat):Int) x.1 x.2.1 x.2.2) n (rest_1,0,0)).bind fun y23 =>
  match y23 with
  | .inl vv =>
   some (.inr (.inl (vv.1,vv.2.1,vv.2.2)))
  | .inr vv =>
   byu n want_1 most got rest vv.1 vv.2
 else
  some (.inr (.inr ()))
def djn (n:Nat) (free:List aj0) (want:Int) (most:Int):Option ((List aj0)×(List aj0)×Int) :=
 (bww n free 512).bind fun r1 =>
 bif (if (if (!r1)=true then true else (decide (want < 1)))=true then true else (decide (most < 1))) then
  some ([],[],1)
 else
  (awd n free).bind fun r2 =>
  (ajg (fun (x:Int×(List aj0)×(List aj0)×Nat)=>djb n most x.1 x.2.1 x.2.2.1 x.2.2.2) n (want,[],r2,r2.length)).bind fun y9 =>
  match y9 with
  | .inl vv =>
   some (vv.1,vv.2.1,vv.2.2)
  | .inr vv =>
   bys n
def dyf (n:Nat):Go.AE.Fn:=mkFn (A:=(List aj0)×Int×Int) (R:=(List aj0)×(List aj0)×Int) 85 [(false,[.slice 80]),(false,[.int .i64]),(false,[.int .i64])] true (fun xs=>(((cg (xs.getD 0 []) 0).toSl.map ajl),(cg (xs.getD 1 []) 0).toInt,(cg (xs.getD 2 []) 0).toInt)) (fun a=>[[.slice (List.map aj2 a.1)],[.int a.2.1],[.int a.2.2]]) (fun a=>djn n a.1 a.2.1 a.2.2) (fun r=>[.own 0 [.int .i64,.int .i64] 0 r.1.length,.c (.slice 80) (.slice (List.map aj2 r.2.1)),.c (.int .i64) (.int r.2.2)]) (fun r=>[.row 80 (List.map aj2 r.1)])
theorem fjz (n:Nat):aj1 jd (dyf n):=by
 have hΓ:=g1 (fj3 n) (g1 (akl n) (@g0 (aj1 jd)));have qe:=aI @dqe.eq_1 @aqw.eq_1;refine aj5 (Tryz.f85.body.getD .skip) h00 Tryz.func85 rfl Tryz.call85 (by decide) (by intro h;cases h) ?_;rintro ⟨free,want,most⟩ r H
 try dsimp only at H
 unfold djn at H;simp only [Tryz.f85,jr];refine rA ?_;refine Sm.scope ?_;refine jn fun K2 hK2=>?_;obtain ⟨r1,hr1,H⟩:=bind_some H;have q:=aI qe hr1;refine rAq ?_;refine cnd H (fun h4 H=>?_) (fun h4 H=>?_)
 ·refine rA ?_;refine jv (lf ?_);obtain rfl:=sI H;exact rto [none]
 refine jp (hK2 _ ?_);obtain ⟨r2,hr2,H⟩:=bind_some H;have q:=aI qe hr2;refine rAq ?_;refine jn fun K7 hK7=>?_;refine Sm.of (Γ:=[]) h00 mixed (by simp) rfl ?_;refine hK7 _ ?_;refine jU (fun (x:Unit)=>djj) (fun x=>bys n=some r) ?_ ?_
 ·refine js ?_;obtain ⟨y9,hy9,Ho9⟩:=bind_some H;refine jO _ (fun x=>cyh most x.1 x.2.1 x.2.2.1 x.2.2.2) hy9 (wb [none,some 384]) ?_;rintro ⟨want_1,got,rest,rest_1⟩ z9 H
  try dsimp only at H
  unfold djb at H;refine Sm.st (cyh.eq_1 ..) ?_;refine jn fun K10 hK10=>?_;refine rA ?_;refine cnd H (fun h12 H=>?_) (fun h12 H=>?_)
  ·refine jp (hK10 _ (js ?_));refine rA ?_;refine jU (fun (x:Nat×Int)=>cyj want_1 most got rest x.1 x.2) (fun x=>byu n want_1 most got rest x.1 x.2=some z9) ?_ ?_
   ·refine rA ?_;refine js ?_;obtain ⟨y23,hy23,Ho23⟩:=bind_some H;refine jO _ (fun x=>dji want_1 most got rest ((rest_1:Nat):Int) x.1 x.2.1 x.2.2) hy23 (wb [some 9003,some 9004]) ?_;rintro ⟨rest_3,longest_1,v36⟩ z23 H
    try dsimp only at H
    unfold cy1 at H;refine Sm.st (dji.eq_1 ..) ?_;refine rA ?_;refine jn fun K25 hK25=>?_;refine cnd H (fun h26 H=>?_) (fun h26 H=>?_)
    ·refine jp (hK25 _ ?_);refine jU (fun (x:Int)=>cys want_1 most got rest rest_3 x ((rest_1:Nat):Int) v36) (fun x=>bwg n want_1 most got rest rest_3 x ((rest_1:Nat):Int) v36=some z23) ?_ ?_
     ·refine js ?_;obtain ⟨⟨hg47,hg48⟩,H⟩:=aj3 H;refine rA ?_;refine jn fun K28 hK28=>?_;refine rA ?_;refine cnd H (fun h30 H=>?_) (fun h30 H=>?_)
      ·obtain ⟨hg36,H⟩:=aj3 H;refine rA ?_;obtain ⟨⟨hg34,hg35⟩,H⟩:=aj3 H;refine rA ?_;refine rA ?_;refine jv (lf ?_);refine lx H fun hyy=>?_;subst hyy;have H:=Ho23
       try dsimp only at H
       refine lf ?_;refine lx H fun hyy=>?_;subst hyy;have H:=Ho9
       try dsimp only at H
       refine lf ?_;obtain rfl:=sI H;exact rto [some 816]
      refine jp (hK28 _ (jn fun K37 hK37=>?_));refine rA ?_;refine cnd H (fun h39 H=>?_) (fun h39 H=>?_)
      ·obtain ⟨hg42,H⟩:=aj3 H;refine rA ?_;refine sX fun K41 hK41=>?_;obtain ⟨r4,hr4,H⟩:=bind_some H;have q:=hr4
       iterate 5 refine oX ?_
       refine oMq (bqu n _ _ _ _ r4 hr4) [9012] [] ?_
       iterate 3 refine oXq ?_
       refine hK41 _ (jv (lf ?_));refine lx H fun hyy=>?_;subst hyy;have H:=Ho23
       try dsimp only at H
       refine lf ?_;refine lx H fun hyy=>?_;subst hyy;have H:=Ho9
       try dsimp only at H
       refine lf ?_;obtain rfl:=sI H;exact rto [some 1168]
      refine jp (hK37 _ ?_);obtain ⟨⟨hg45,hg46⟩,H⟩:=aj3 H;refine rD ?_;refine cnd H (fun h44 H=>?_) (fun h44 H=>?_)
      ·refine eA ?_;refine lf ?_;exact ⟨_,H,wb [some 9011,some 9012]⟩
      refine jp (lf ?_);exact ⟨_,H,wb [some 9011,some 9012]⟩
     rintro longest_2 H
     try dsimp only at H
     unfold bwg at H;refine Sm.st (cys.eq_1 ..) ?_;refine eA ?_;refine lf ?_;exact nx H (wb [some 9013,some 9014])
    refine jT (lf ?_);refine lx H fun hyy=>?_;subst hyy;have H:=Ho23
    try dsimp only at H
    refine lf ?_;exact ⟨(rest_3,longest_1),H,wb [some 9011,some 9012]⟩
   rintro ⟨rest_2,longest⟩ H
   try dsimp only at H
   unfold byu at H;refine Sm.st (cyj.eq_1 ..) ?_;obtain ⟨⟨hg19,hg20,hg21⟩,H⟩:=aj3 H;refine rA ?_;obtain ⟨⟨hg17,hg18⟩,H⟩:=aj3 H;refine rA ?_;refine sX fun K16 hK16=>?_;obtain ⟨r3,hr3,H⟩:=bind_some H;have q:=hr3
   iterate 4 refine oX ?_
   refine oMq (bqu n _ _ _ _ r3 hr3) [9006] [] ?_;refine oXq ?_;refine hK16 _ (jT (lf ?_));exact nx H (wb [some 1536,some 9006])
  refine jT (lf ?_);refine lx H fun hyy=>?_;subst hyy;have H:=Ho9
  try dsimp only at H
  refine lf ?_;exact ⟨(),H,wb []⟩
 rintro ⟨⟩ H
 try dsimp only at H
 unfold bys at H;refine Sm.st (djj.eq_1 ..) ?_;refine rA ?_;refine jv (lf ?_);obtain rfl:=sI H;exact rto [none]
abbrev bze (v:aja) (l:List aj8):S:=stB [(1,.box 9000 0),(2,.box 9001 0),(3,.own 9002 kD 0 l.length)] [(9000,.box (cV v)),(9001,.box [.c .str (.str []),.c (.int .i64) (.int 0),.c (.int .i64) (.int 0),.c (.int .i64) (.int 0),.nilsl]),(9002,.row 41 (List.map aj6 l))]
def aw7 (n:Nat) (v:aja) (l:List aj8):Option aja :=
 some (⟨v.Serial,v.Cyls,v.Heads,v.Size,l⟩:aja)
abbrev aza (v:aja) (v16:Int) (l_1:List aj8) (v17:Int):S:=stB [(1,.box 9006 0),(2,.box 9007 0),(3,.own 9008 kD 0 l_1.length),(15,.c (.slice 41) (.slice (List.map aj6 v.Sets))),(16,.c (.int .i64) (.int v16)),(17,.c (.int .i64) (.int v17))] [(9006,.box (cV v)),(9007,.box [.c .str (.str []),.c (.int .i64) (.int 0),.c (.int .i64) (.int 0),.c (.int .i64) (.int 0),.nilsl]),(9008,.row 41 (List.map aj6 l_1))]
def ayo (n:Nat) (v:aja) (v16:Int) (l_1:List aj8) (v17:Int):Option (((List aj8)×Int) ⊕ (((List aj8)))) :=
 bif (decide (v17 < v16)) then
  gd ((0≤v17∧v17 < (v.Sets.length:Int))) <|
  (awd n ((gt v.Sets (Int.toNat v17)).Extents)).bind fun r1 =>
  gd ((0≤v17∧v17 < (l_1.length:Int))∧(Int.toNat v17) < l_1.length) <|
  some (.inl ((List.set l_1 (Int.toNat v17) (⟨(gt v.Sets (Int.toNat v17)).Name,((gt v.Sets (Int.toNat v17)).Dcb),r1,(gt v.Sets (Int.toNat v17)).Used⟩:aj8)),(ja .i64 (v17+1))))
 else
  some (.inr l_1)
def azv (n:Nat) (v:aja):Option aja :=
 gd ((0≤(v.Sets.length:Int)∧(v.Sets.length:Int)≤(ja .i64 ((v.Sets.length:Int)+1))∧(ja .i64 ((v.Sets.length:Int)+1))≤2147483648)) <|
 (ajg (fun (x:(List aj8)×Int)=>ayo n v (v.Sets.length:Int) x.1 x.2) n ((aw0 (Int.toNat (v.Sets.length:Int)) (⟨[],(⟨0,0,false,false,0,0,0,0⟩:TDcb),[],0⟩:aj8)),0)).bind fun y7 =>
 aw7 n v y7
def bkw (n:Nat):Go.AE.Fn:=mkFn (A:=aja) (R:=aja) 57 [(true,[.str,.int .i64,.int .i64,.int .i64,.slice 41])] true (fun xs=>(⟨(cg (xs.getD 0 []) 0).toStr,(cg (xs.getD 0 []) 1).toInt,(cg (xs.getD 0 []) 2).toInt,(cg (xs.getD 0 []) 3).toInt,((cg (xs.getD 0 []) 4).toSl.map awo)⟩:aja)) (fun a=>[[.str a.Serial,.int a.Cyls,.int a.Heads,.int a.Size,.slice (List.map aj6 a.Sets)]]) (fun a=>azv n a) (fun r=>[.agg [.c .str (.str r.Serial),.c (.int .i64) (.int r.Cyls),.c (.int .i64) (.int r.Heads),.c (.int .i64) (.int r.Size),.own 0 kD 0 r.Sets.length]]) (fun r=>[.row 41 (List.map aj6 r.Sets)])
theorem dwo (n:Nat):aj1 jd (bkw n):=by
 have hΓ:=g1 (akl n) (@g0 (aj1 jd));refine aj5 (Tryz.f57.body.getD .skip) h00 Tryz.func57 rfl Tryz.call57 (by decide) (by intro h;cases h) ?_;rintro v r H
 try dsimp only at H
 unfold azv at H;simp only [Tryz.f57,jr];refine rA ?_;refine sX fun K2 hK2=>?_;obtain ⟨hg3,H⟩:=aj3 H
 iterate 7 refine oX ?_
 refine oY ?_;refine oX ?_;refine hK2 _ ?_;refine jU (fun (x:(List aj8))=>bze v x) (fun x=>aw7 n v x=some r) ?_ ?_
 ·refine rA ?_;refine js ?_;obtain ⟨y7,hy7,Ho7⟩:=bind_some H;refine jO _ (fun x=>aza v (v.Sets.length:Int) x.1 x.2) hy7 (wb [some 16,some 32,some 208]) ?_;rintro ⟨l_1,v17⟩ z7 H
  try dsimp only at H
  unfold ayo at H;refine Sm.st (aza.eq_1 ..) ?_;refine rA ?_;refine jn fun K9 hK9=>?_;refine cnd H (fun h10 H=>?_) (fun h10 H=>?_)
  ·refine jp (hK9 _ (jn fun K11 hK11=>js ?_));obtain ⟨hg16,H⟩:=aj3 H;refine rA ?_;obtain ⟨r1,hr1,H⟩:=bind_some H;have q:=aI @aqw.eq_1 hr1;refine rAq ?_;obtain ⟨⟨hg14,hg15⟩,H⟩:=aj3 H;refine eA ?_;refine hK11 _ ?_;refine eA ?_;refine lf ?_;exact nx H (wb [some 9006,some 9007,some 9008])
  refine jT (lf ?_);refine lx H fun hyy=>?_;subst hyy;have H:=Ho7
  try dsimp only at H
  refine lf ?_;exact ⟨_,H,wb [some 9006,some 9007,some 9008]⟩
 rintro l H
 try dsimp only at H
 unfold aw7 at H;refine Sm.st (bze.eq_1 ..) ?_;refine rA ?_;refine rA ?_;refine jv (lf ?_);obtain rfl:=sI H;exact rto [some 9002]
def cq0 (n:Nat) (v:aja) (d:aj8) (tracks:Int):Option (aja×Int) :=
 (awf n v).bind fun r1 =>
 bif (r1 != 0) then
  some ((⟨[],0,0,0,[]⟩:aja),r1)
 else
  (cjn n d.Name).bind fun r2 =>
  gd (((!(!r2))=true→(aqd n d.Dcb).isSome=true)) <|
  bif (if (if (!r2)=true then true else (!((aqd n d.Dcb).getD default)))=true then true else (decide (tracks < 1))) then
   some ((⟨[],0,0,0,[]⟩:aja),1)
  else
   (bz6 n v d.Name).bind fun r3 =>
   bif r3.2 then
    some ((⟨[],0,0,0,[]⟩:aja),4)
   else
    bif ((v.Sets.length:Int) == (if (ja .i64 (14 * v.Size)) < 64 then (ja .i64 (14 * v.Size)) else 64)) then
     some ((⟨[],0,0,0,[]⟩:aja),7)
    else
     (czs n v).bind fun r4 =>
     (djn n r4 tracks 8).bind fun r5 =>
     bif (r5.2.2 != 0) then
      some ((⟨[],0,0,0,[]⟩:aja),r5.2.2)
     else
      (azv n v).bind fun r6 =>
      (bkp n r6.Sets r3.1 [(⟨d.Name,d.Dcb,r5.1,0⟩:aj8)]).bind fun r7 =>
      some ((⟨r6.Serial,r6.Cyls,r6.Heads,r6.Size,r7⟩:aja),0)
def dy3 (n:Nat):Go.AE.Fn:=mkFn (A:=aja×aj8×Int) (R:=aja×Int) 41 [(true,[.str,.int .i64,.int .i64,.int .i64,.slice 41]),(true,kD),(false,[.int .i64])] true (fun xs=>((⟨(cg (xs.getD 0 []) 0).toStr,(cg (xs.getD 0 []) 1).toInt,(cg (xs.getD 0 []) 2).toInt,(cg (xs.getD 0 []) 3).toInt,((cg (xs.getD 0 []) 4).toSl.map awo)⟩:aja),(⟨(cg (xs.getD 1 []) 0).toStr,(⟨(cg (xs.getD 1 []) 1).toInt,(cg (xs.getD 1 []) 2).toInt,(cg (xs.getD 1 []) 3).toBool,(cg (xs.getD 1 []) 4).toBool,(cg (xs.getD 1 []) 5).toInt,(cg (xs.getD 1 []) 6).toInt,(cg (xs.getD 1 []) 7).toInt,(cg (xs.getD 1 []) 8).toInt⟩:TDcb),((cg (xs.getD 1 []) 9).toSl.map ajl),(cg (xs.getD 1 []) 10).toInt⟩:aj8),(cg (xs.getD 2 []) 0).toInt)) (fun a=>[[.str a.1.Serial,.int a.1.Cyls,.int a.1.Heads,.int a.1.Size,.slice (List.map aj6 a.1.Sets)],[.str a.2.1.Name,.int a.2.1.Dcb.Org,.int a.2.1.Dcb.Format,.bool a.2.1.Dcb.Blocked,.bool a.2.1.Dcb.Asa,.int a.2.1.Dcb.Lrecl,.int a.2.1.Dcb.Blksize,.int a.2.1.Dcb.KeyLen,.int a.2.1.Dcb.KeyPos,.slice (List.map aj2 a.2.1.Extents),.int a.2.1.Used],[.int a.2.2]]) (fun a=>cq0 n a.1 a.2.1 a.2.2) (fun r=>[.agg [.c .str (.str r.1.Serial),.c (.int .i64) (.int r.1.Cyls),.c (.int .i64) (.int r.1.Heads),.c (.int .i64) (.int r.1.Size),.own 0 kD 0 r.1.Sets.length],.c (.int .i64) (.int r.2)]) (fun r=>[.row 41 (List.map aj6 r.1.Sets)])
theorem fjw (n:Nat):aj1 jd (dy3 n):=by
 have hΓ:=g1 (bw1 n) (g1 (ekv n) (g1 (bks n) (g1 (dzz n) (g1 (dk4 n) (g1 (fjz n) (g1 (dwo n) (@g0 (aj1 jd))))))));have qe:=aI @akr.eq_1 (aI @dk9.eq_1 (aI @bqc.eq_1 (aI @cj9.eq_1 (aI @ckw.eq_1 (aI @dyf.eq_1 @bkw.eq_1)))));refine aj5 (Tryz.f41.body.getD .skip) h00 Tryz.func41 rfl Tryz.call41 (by decide) (by intro h;cases h) ?_;rintro ⟨v,d,tracks⟩ r H
 try dsimp only at H
 unfold cq0 at H;simp only [Tryz.f41,jr];refine rA ?_;refine jn fun K2 hK2=>?_;obtain ⟨r1,hr1,H⟩:=bind_some H;have q:=aI qe hr1;refine rAq ?_;refine rA ?_;refine cnd H (fun h5 H=>?_) (fun h5 H=>?_)
 ·refine rA ?_;refine jv (lf ?_);obtain rfl:=sI H;exact rto [none]
 refine jp (hK2 _ (jn fun K7 hK7=>?_));obtain ⟨r2,hr2,H⟩:=bind_some H;obtain ⟨hg28,H⟩:=aj3 H;have q:=aI qe hr2;refine rAq ?_;refine cnd H (fun h9 H=>?_) (fun h9 H=>?_)
 ·refine rA ?_;refine jv (lf ?_);obtain rfl:=sI H;exact rto [none]
 refine jp (hK7 _ ?_);obtain ⟨r3,hr3,H⟩:=bind_some H;have q:=aI qe hr3;refine rAq ?_;refine jn fun K12 hK12=>?_;refine rA ?_;refine cnd H (fun h14 H=>?_) (fun h14 H=>?_)
 ·refine rA ?_;refine jv (lf ?_);obtain rfl:=sI H;exact rto [none]
 refine jp (hK12 _ (jn fun K16 hK16=>?_));refine rA ?_;refine cnd H (fun h18 H=>?_) (fun h18 H=>?_)
 ·refine rA ?_;refine jv (lf ?_);obtain rfl:=sI H;exact rto [none]
 refine jp (hK16 _ ?_);obtain ⟨r4,hr4,H⟩:=bind_some H;obtain ⟨r5,hr5,H⟩:=bind_some H;have q:=aI qe (aI hr4 hr5);refine rAq ?_;refine jn fun K21 hK21=>?_;refine rA ?_;refine cnd H (fun h23 H=>?_) (fun h23 H=>?_)
 ·refine rA ?_;refine jv (lf ?_);obtain rfl:=sI H;exact rto [none]
 refine jp (hK21 _ ?_);obtain ⟨r6,hr6,H⟩:=bind_some H;have q:=aI qe hr6;refine rAq ?_;refine sX fun K26 hK26=>?_;obtain ⟨r7,hr7,H⟩:=bind_some H;have q:=hr7
 iterate 10 refine oX ?_
 refine oMq (ej5 n _ _ _ r7 hr7) [1072,1232] [1248] ?_
 iterate 2 refine oXq ?_
 refine hK26 _ ?_;refine rA ?_;refine jv (lf ?_);obtain rfl:=sI H;exact rto [some 1248]
abbrev cqw:S:=stB [] []
def bzb (n:Nat):Option Bool :=
 some true
abbrev cw2 (a:List aj0) (b:List aj0) (k:Int):S:=stB [(0,.c (.slice 80) (.slice (List.map aj2 a))),(1,.c (.slice 80) (.slice (List.map aj2 b))),(5,.c (.int .i64) (.int k))] []
def cqn (n:Nat) (a:List aj0) (b:List aj0) (k:Int):Option ((Int) ⊕ (((Bool) ⊕ (Unit)))) :=
 bif (decide (k < (a.length:Int))) then
  gd ((0≤k∧k < (a.length:Int))∧(0≤k∧k < (b.length:Int))) <|
  bif (!((((gt a (Int.toNat k)).At) == ((gt b (Int.toNat k)).At)) && (((gt a (Int.toNat k)).Len) == ((gt b (Int.toNat k)).Len)))) then
   some (.inr (.inl false))
  else
   some (.inl (ja .i64 (k+1)))
 else
  some (.inr (.inr ()))
def bq6 (n:Nat) (a:List aj0) (b:List aj0):Option Bool :=
 bif ((a.length:Int) != (b.length:Int)) then
  some false
 else
  (ajg (fun (x:Int)=>cqn n a b x) n 0).bind fun y8 =>
  match y8 with
  | .inl vv =>
   some vv
  | .inr vv =>
   bzb n
def djg (n:Nat):Go.AE.Fn:=mkFn (A:=(List aj0)×(List aj0)) (R:=Bool) 49 [(false,[.slice 80]),(false,[.slice 80])] false (fun xs=>(((cg (xs.getD 0 []) 0).toSl.map ajl),((cg (xs.getD 1 []) 0).toSl.map ajl))) (fun a=>[[.slice (List.map aj2 a.1)],[.slice (List.map aj2 a.2)]]) (fun a=>bq6 n a.1 a.2) (fun r=>[.c .bool (.bool r)]) (fun r=>[])
theorem ez1 (n:Nat):aj1 jd (djg n):=by
 have hΓ:=@g0 (aj1 jd);refine cF (Tryz.f49.body.getD .skip) Tryz.func49 rfl Tryz.call49 ?_;rintro ⟨a,b⟩ r H
 try dsimp only at H
 unfold bq6 at H;simp only [Tryz.f49,jr];refine rA ?_;refine jn fun K2 hK2=>?_;refine rA ?_;refine cnd H (fun h4 H=>?_) (fun h4 H=>?_)
 ·refine rA ?_;refine jv (lf ?_);obtain rfl:=sI H;exact rt []
 refine jp (hK2 _ ?_);refine jU (fun (x:Unit)=>cqw) (fun x=>bzb n=some r) ?_ ?_
 ·refine rA ?_;refine js ?_;obtain ⟨y8,hy8,Ho8⟩:=bind_some H;refine jO _ (fun x=>cw2 a b x) hy8 (wb []) ?_;rintro k z8 H
  try dsimp only at H
  unfold cqn at H;refine Sm.st (cw2.eq_1 ..) ?_;refine jn fun K9 hK9=>?_;refine rA ?_;refine cnd H (fun h11 H=>?_) (fun h11 H=>?_)
  ·refine jp (hK9 _ (jn fun K12 hK12=>js ?_));obtain ⟨⟨hg16,hg17⟩,H⟩:=aj3 H;refine rD ?_;refine cnd H (fun h14 H=>?_) (fun h14 H=>?_)
   ·refine rA ?_;refine jv (lf ?_);refine lx H fun hyy=>?_;subst hyy;have H:=Ho8
    try dsimp only at H
    refine lf ?_;obtain rfl:=sI H;exact rt []
   refine jp (hK12 _ ?_);refine eA ?_;refine lf ?_;exact nx H (wb [])
  refine jT (lf ?_);refine lx H fun hyy=>?_;subst hyy;have H:=Ho8
  try dsimp only at H
  refine lf ?_;exact ⟨(),H,wb []⟩
 rintro ⟨⟩ H
 try dsimp only at H
 unfold bzb at H;refine Sm.st (cqw.eq_1 ..) ?_;refine rA ?_;refine jv (lf ?_);obtain rfl:=sI H;exact rt []
def bkr (n:Nat):Option Bool :=
 (ey5 n [86,49] 4 2 1).bind fun r1 =>
 (cq9 n).bind fun r2 =>
 (cq0 n (⟨r1.1.Serial,r1.1.Cyls,r1.1.Heads,r1.1.Size,[]⟩:aja) (⟨[65],r2,[],0⟩:aj8) 3).bind fun r3 =>
 (cq9 n).bind fun r4 =>
 (cq0 n r3.1 (⟨[66],r4,[],0⟩:aj8) 2).bind fun r5 =>
 (czs n r5.1).bind fun r6 =>
 gd (((if (if (if (r1.2 == 0)=true then (r3.2 == 0) else false)=true then (r5.2 == 0) else false)=true then (((r5.1.Sets.length:Nat):Int) == 2) else false)=true→0 < (r5.1.Sets.length:Int))∧((if (if (if (r1.2 == 0)=true then (r3.2 == 0) else false)=true then (r5.2 == 0) else false)=true then (((r5.1.Sets.length:Nat):Int) == 2) else false)=true→0 < r5.1.Sets.length)) <|
 bif (if (if (if (r1.2 == 0)=true then (r3.2 == 0) else false)=true then (r5.2 == 0) else false)=true then (((r5.1.Sets.length:Nat):Int) == 2) else false) then
  gd ((if (if (if (r1.2 == 0)=true then (r3.2 == 0) else false)=true then (r5.2 == 0) else false)=true then (((r5.1.Sets.length:Nat):Int) == 2) else false)=true∧(if (if (if (r1.2 == 0)=true then (r3.2 == 0) else false)=true then (r5.2 == 0) else false)=true then (((r5.1.Sets.length:Nat):Int) == 2) else false)=true) <|
  (bq6 n ((gt r5.1.Sets 0).Extents) [(⟨2,3⟩:aj0)]).bind fun r7 =>
  gd ((r7=true→1 < (r5.1.Sets.length:Int))∧(r7=true→1 < r5.1.Sets.length)) <|
  bif r7 then
   gd (r7=true∧r7=true) <|
   (bq6 n ((gt r5.1.Sets 1).Extents) [(⟨5,2⟩:aj0)]).bind fun r8 =>
   bif r8 then
    gd (r8=true∧r8=true) <|
    (bq6 n r6 [(⟨7,1⟩:aj0)]).bind fun r9 =>
    some r9
   else
    some false
  else
   some false
 else
  some false
def czf (n:Nat):Go.AE.Fn:=mkFn (A:=Unit) (R:=Bool) 14 [] false (fun xs=>()) (fun a=>[]) (fun a=>bkr n) (fun r=>[.c .bool (.bool r)]) (fun r=>[])
theorem dyj (n:Nat):aj1 jd (czf n):=by
 have hΓ:=g1 (hq7 n) (g1 (fqp n) (g1 (fjw n) (g1 (dk4 n) (g1 (ez1 n) (@g0 (aj1 jd))))));have qe:=aI @fqu.eq_1 (aI @dy0.eq_1 (aI @dy3.eq_1 (aI @ckw.eq_1 @djg.eq_1)));refine cF (Tryz.f14.body.getD .skip) Tryz.func14 rfl Tryz.call14 ?_;rintro ⟨⟩ r H
 try dsimp only at H
 unfold bkr at H;simp only [Tryz.f14,jr];refine rA ?_;obtain ⟨r1,hr1,H⟩:=bind_some H;have q:=aI qe hr1;refine rAq ?_;obtain ⟨r2,hr2,H⟩:=bind_some H;obtain ⟨r3,hr3,H⟩:=bind_some H;refine sQ [0,1,2,3,4,5,6,7,8] [(none,[16],[]),(none,[],[207,206,205,204,203,202,201,200,199,198,197,196,195,194,193,192]),(none,[],[]),(none,[],[239,238,237,236,235,234,233,232,231,230,229,228,227,226,225,224]),(none,[],[]),(none,[],[]),(none,[],[]),(none,[16,224],[16]),(none,[],[])] fun K3 hK3=>?_;have q:=aI qe (aI hr2 hr3)
 iterate 9 refine oQq ?_
 refine byo ?_;refine hK3 _ ?_;obtain ⟨r4,hr4,H⟩:=bind_some H;obtain ⟨r5,hr5,H⟩:=bind_some H;refine sQ [0,1,2,3,4,5,6,7,8] [(none,[16],[]),(none,[],[319,318,317,316,315,314,313,312,311,310,309,308,307,306,305,304]),(none,[],[]),(none,[224],[351,350,349,348,347,346,345,344,343,342,341,340,339,338,337,336,224]),(none,[],[]),(none,[],[]),(none,[],[]),(none,[16,336],[16]),(none,[],[])] fun K4 hK4=>?_;have q:=aI qe (aI hr4 hr5)
 iterate 9 refine oQq ?_
 refine byo ?_;refine hK4 _ ?_;obtain ⟨r6,hr6,H⟩:=bind_some H;have q:=aI qe hr6;refine rAq ?_;refine sX fun K6 hK6=>?_;obtain ⟨⟨hg7,hg8⟩,H⟩:=aj3 H;have q:=qe
 iterate 23 refine oXq ?_
 refine ak7 H (fun hs9 H=>?_) (fun hs9 H=>?_)
 ·try simp only [hs9,j5,jR,jm,true_implies,false_implies,forall_const] at hg7
  try simp only [hs9,j5,jR,jm,true_implies,false_implies,forall_const] at hg8
  obtain ⟨⟨hg10,hg11⟩,H⟩:=aj3 H;obtain ⟨r7,hr7,H⟩:=bind_some H;obtain ⟨⟨hg12,hg13⟩,H⟩:=aj3 H;have q:=aI qe (aI hs9 hr7);refine oTG ?_;refine oTG ?_;refine oPl ?_
  iterate 7 refine oXq ?_
  refine ak7 H (fun hs14 H=>?_) (fun hs14 H=>?_)
  ·try simp only [z,seval,hs9,hr7] at hs14
   try simp only [hs14,j5,jR,jm,true_implies,false_implies,forall_const] at hg12
   try simp only [hs14,j5,jR,jm,true_implies,false_implies,forall_const] at hg13
   obtain ⟨⟨hg15,hg16⟩,H⟩:=aj3 H;obtain ⟨r8,hr8,H⟩:=bind_some H;have q:=aI qe (aI hs9 (aI hr7 (aI hs14 hr8)));refine oTG ?_;refine oTG ?_;refine oPl ?_
   iterate 3 refine oXq ?_
   refine ak7 H (fun hs17 H=>?_) (fun hs17 H=>?_)
   ·try simp only [z,seval,hs9,hr7,hs14,hr8] at hs17
    obtain ⟨⟨hg18,hg19⟩,H⟩:=aj3 H;obtain ⟨r9,hr9,H⟩:=bind_some H;have q:=aI qe (aI hs9 (aI hr7 (aI hs14 (aI hr8 (aI hs17 hr9)))));refine oTG ?_;refine oTG ?_;refine oPl ?_;refine oXq ?_;refine hK6 _ (jv (lf ?_));obtain rfl:=sI H;exact rt []
   try simp only [z,seval,hs9,hr7,hs14,hr8] at hs17
   have q:=aI qe (aI hs9 (aI hr7 (aI hs14 (aI hr8 hs17))));refine oFq ?_;refine oFq ?_;refine oPr ?_;refine oXq ?_;refine hK6 _ (jv (lf ?_));obtain rfl:=sI H;exact rt []
  try simp only [z,seval,hs9,hr7] at hs14
  try simp only [hs14,j5,jR,jm,true_implies,false_implies,forall_const] at hg12
  try simp only [hs14,j5,jR,jm,true_implies,false_implies,forall_const] at hg13
  have q:=aI qe (aI hs9 (aI hr7 hs14));refine oFq ?_;refine oFq ?_;refine oPr ?_;refine oXq ?_;refine oFq ?_;refine oFq ?_;refine oFq ?_;refine oFq ?_;refine oPr ?_;refine oXq ?_;refine hK6 _ (jv (lf ?_));obtain rfl:=sI H;exact rt []
 try simp only [hs9,j5,jR,jm,true_implies,false_implies,forall_const] at hg7
 try simp only [hs9,j5,jR,jm,true_implies,false_implies,forall_const] at hg8
 have q:=aI qe hs9;refine oFq ?_;refine oFq ?_;refine oPr ?_;refine oXq ?_;refine oFq ?_;refine oFq ?_;refine oFq ?_;refine oFq ?_;refine oFq ?_;refine oFq ?_;refine oFq ?_;refine oFq ?_;refine oPr ?_;refine oXq ?_;refine oFq ?_;refine oFq ?_;refine oFq ?_;refine oFq ?_;refine oPr ?_;refine oXq ?_;refine hK6 _ (jv (lf ?_));obtain rfl:=sI H;exact rt []
abbrev cyw (v:aja):S:=stB [(1,.box 9000 0)] [(9000,.box (cV v))]
def byi (n:Nat) (v:aja):Option Bool :=
 some (if (decide ((v.Sets.length:Int)≤70))=true then (decide ((v.Serial.length:Int)≤100)) else false)
abbrev cyz (v:aja) (k:Int):S:=stB [(1,.box 9002 0),(3,.c (.int .i64) (.int k))] [(9002,.box (cV v))]
def cym (n:Nat) (v:aja) (k:Int):Option ((Int) ⊕ (((Bool) ⊕ (Unit)))) :=
 bif (decide (k < (v.Sets.length:Int))) then
  gd ((0≤k∧k < (v.Sets.length:Int))∧((!(decide ((((gt v.Sets (Int.toNat k)).Name).length:Int) > 100)))=true→(0≤k∧k < (v.Sets.length:Int)))) <|
  bif (if (decide ((((gt v.Sets (Int.toNat k)).Name).length:Int) > 100))=true then true else (decide ((((gt v.Sets (Int.toNat k)).Extents).length:Int) > 20))) then
   some (.inr (.inl false))
  else
   some (.inl (ja .i64 (k+1)))
 else
  some (.inr (.inr ()))
def dq8 (n:Nat) (v:aja):Option Bool :=
 (ajg (fun (x:Int)=>cym n v x) n 0).bind fun y4 =>
 match y4 with
 | .inl vv =>
  some vv
 | .inr vv =>
  byi n v
def dyh (n:Nat):Go.AE.Fn:=mkFn (A:=aja) (R:=Bool) 21 [(true,[.str,.int .i64,.int .i64,.int .i64,.slice 41])] false (fun xs=>(⟨(cg (xs.getD 0 []) 0).toStr,(cg (xs.getD 0 []) 1).toInt,(cg (xs.getD 0 []) 2).toInt,(cg (xs.getD 0 []) 3).toInt,((cg (xs.getD 0 []) 4).toSl.map awo)⟩:aja)) (fun a=>[[.str a.Serial,.int a.Cyls,.int a.Heads,.int a.Size,.slice (List.map aj6 a.Sets)]]) (fun a=>dq8 n a) (fun r=>[.c .bool (.bool r)]) (fun r=>[])
theorem fw4 (n:Nat):aj1 jd (dyh n):=by
 have hΓ:=@g0 (aj1 jd);refine cF (Tryz.f21.body.getD .skip) Tryz.func21 rfl Tryz.call21 ?_;rintro v r H
 try dsimp only at H
 unfold dq8 at H;simp only [Tryz.f21,jr];refine rA ?_;refine jU (fun (x:Unit)=>cyw v) (fun x=>byi n v=some r) ?_ ?_
 ·refine rA ?_;refine js ?_;obtain ⟨y4,hy4,Ho4⟩:=bind_some H;refine jO _ (fun x=>cyz v x) hy4 (wb [some 16]) ?_;rintro k z4 H
  try dsimp only at H
  unfold cym at H;refine Sm.st (cyz.eq_1 ..) ?_;refine jn fun K5 hK5=>?_;refine rA ?_;refine cnd H (fun h7 H=>?_) (fun h7 H=>?_)
  ·refine jp (hK5 _ (jn fun K8 hK8=>js ?_));obtain ⟨⟨hg12,hg13⟩,H⟩:=aj3 H;refine rA ?_;refine cnd H (fun h10 H=>?_) (fun h10 H=>?_)
   ·refine rA ?_;refine jv (lf ?_);refine lx H fun hyy=>?_;subst hyy;have H:=Ho4
    try dsimp only at H
    refine lf ?_;obtain rfl:=sI H;exact rt []
   refine jp (hK8 _ ?_);refine eA ?_;refine lf ?_;exact nx H (wb [some 9002])
  refine jT (lf ?_);refine lx H fun hyy=>?_;subst hyy;have H:=Ho4
  try dsimp only at H
  refine lf ?_;exact ⟨(),H,wb [some 9002]⟩
 rintro ⟨⟩ H
 try dsimp only at H
 unfold byi at H;refine Sm.st (cyw.eq_1 ..) ?_;refine rA ?_;refine jv (lf ?_);obtain rfl:=sI H;exact rt []
abbrev dko (v:aja) (w:List aj8):S:=stB [(2,.box 9000 0),(3,.box 9001 0)] [(9000,.box [.c .str (.str []),.c (.int .i64) (.int 0),.c (.int .i64) (.int 0),.c (.int .i64) (.int 0),.nilsl]),(9001,.box [.c .str (.str v.Serial),.c (.int .i64) (.int v.Cyls),.c (.int .i64) (.int v.Heads),.c (.int .i64) (.int v.Size),.own 9002 kD 0 w.length]),(9002,.row 41 (List.map aj6 w))]
def by8 (n:Nat) (v:aja) (w:List aj8):Option aja :=
 some (⟨v.Serial,v.Cyls,v.Heads,v.Size,w⟩:aja)
abbrev dyx (v:aja) (w_1:List aj8) (k:Int):S:=stB [(1,.box 9010 0),(2,.box 9011 0),(3,.box 9012 0),(4,.c (.int .i64) (.int k))] [(9010,.box (cV v)),(9011,.box [.c .str (.str []),.c (.int .i64) (.int 0),.c (.int .i64) (.int 0),.c (.int .i64) (.int 0),.nilsl]),(9012,.box [.c .str (.str v.Serial),.c (.int .i64) (.int v.Cyls),.c (.int .i64) (.int v.Heads),.c (.int .i64) (.int v.Size),.own 9013 kD 0 w_1.length]),(9013,.row 41 (List.map aj6 w_1))]
def bji (n:Nat) (v:aja) (w_1:List aj8) (k:Int):Option (((List aj8)×Int) ⊕ (((List aj8)))) :=
 bif (decide (k < (v.Sets.length:Int))) then
  gd ((0≤k∧k < (v.Sets.length:Int))) <|
  gd (((gt v.Sets (Int.toNat k)).Extents).length≤2147483648) <|
  gd ((w_1.length+1)≤2147483648) <|
  some (.inl ((w_1 ++ [(gt v.Sets (Int.toNat k))]),(ja .i64 (k+1))))
 else
  some (.inr w_1)
def bkn (n:Nat) (v:aja):Option aja :=
 (ajg (fun (x:(List aj8)×Int)=>bji n v x.1 x.2) n ([],0)).bind fun y5 =>
 by8 n v y5
def dzv (n:Nat):Go.AE.Fn:=mkFn (A:=aja) (R:=aja) 20 [(true,[.str,.int .i64,.int .i64,.int .i64,.slice 41])] true (fun xs=>(⟨(cg (xs.getD 0 []) 0).toStr,(cg (xs.getD 0 []) 1).toInt,(cg (xs.getD 0 []) 2).toInt,(cg (xs.getD 0 []) 3).toInt,((cg (xs.getD 0 []) 4).toSl.map awo)⟩:aja)) (fun a=>[[.str a.Serial,.int a.Cyls,.int a.Heads,.int a.Size,.slice (List.map aj6 a.Sets)]]) (fun a=>bkn n a) (fun r=>[.agg [.c .str (.str r.Serial),.c (.int .i64) (.int r.Cyls),.c (.int .i64) (.int r.Heads),.c (.int .i64) (.int r.Size),.own 0 kD 0 r.Sets.length]]) (fun r=>[.row 41 (List.map aj6 r.Sets)])
theorem ekf (n:Nat):aj1 jd (dzv n):=by
 have hΓ:=@g0 (aj1 jd);refine aj5 (Tryz.f20.body.getD .skip) h00 Tryz.func20 rfl Tryz.call20 (by decide) (by intro h;cases h) ?_;rintro v r H
 try dsimp only at H
 unfold bkn at H;simp only [Tryz.f20,jr];refine rA ?_;refine rA ?_;refine jU (fun (x:(List aj8))=>dko v x) (fun x=>by8 n v x=some r) ?_ ?_
 ·refine rA ?_;refine js ?_;obtain ⟨y5,hy5,Ho5⟩:=bind_some H;refine jO _ (fun x=>dyx v x.1 x.2) hy5 (wb [some 16,some 32,some 48,none]) ?_;rintro ⟨w_1,k⟩ z5 H
  try dsimp only at H
  unfold bji at H;refine Sm.st (dyx.eq_1 ..) ?_;refine jn fun K6 hK6=>?_;refine rA ?_;refine cnd H (fun h8 H=>?_) (fun h8 H=>?_)
  ·refine jp (hK6 _ (jn fun K9 hK9=>js ?_));obtain ⟨hg14,H⟩:=aj3 H;refine rA ?_;obtain ⟨hg13,H⟩:=aj3 H;refine rA ?_;obtain ⟨hg12,H⟩:=aj3 H;refine eA ?_;refine hK9 _ ?_;refine eA ?_;refine lf ?_;exact nx H (wb [some 9010,some 9011,some 9012,some 576])
  refine jT (lf ?_);refine lx H fun hyy=>?_;subst hyy;have H:=Ho5
  try dsimp only at H
  refine lf ?_;exact ⟨_,H,wb [some 9011,some 9012,some 9013]⟩
 rintro w H
 try dsimp only at H
 unfold by8 at H;refine Sm.st (dko.eq_1 ..) ?_;refine rA ?_;refine jv (lf ?_);obtain rfl:=sI H;exact rto [some 9002]
def bz2 (n:Nat) (c:Int):Option Bool :=
 some (if (decide (c ≥ 65))=true then (decide (c≤90)) else false)
def cqf (n:Nat):Go.AE.Fn:=mkFn (A:=Int) (R:=Bool) 114 [(false,[.int .u8])] false (fun xs=>(cg (xs.getD 0 []) 0).toInt) (fun a=>[[.int a]]) (fun a=>bz2 n a) (fun r=>[.c .bool (.bool r)]) (fun r=>[])
theorem dqr (n:Nat):aj1 jd (cqf n):=by
 have hΓ:=@g0 (aj1 jd);refine cF (Tryz.f114.body.getD .skip) Tryz.func114 rfl Tryz.call114 ?_;rintro c r H
 try dsimp only at H
 unfold bz2 at H;simp only [Tryz.f114,jr];refine rA ?_;refine rA ?_;refine jv (lf ?_);obtain rfl:=sI H;exact rt []
def bjf (n:Nat) (c:Int):Option Bool :=
 some (if (decide (c ≥ 48))=true then (decide (c≤57)) else false)
def cwy (n:Nat):Go.AE.Fn:=mkFn (A:=Int) (R:=Bool) 115 [(false,[.int .u8])] false (fun xs=>(cg (xs.getD 0 []) 0).toInt) (fun a=>[[.int a]]) (fun a=>bjf n a) (fun r=>[.c .bool (.bool r)]) (fun r=>[])
theorem dkw (n:Nat):aj1 jd (cwy n):=by
 have hΓ:=@g0 (aj1 jd);refine cF (Tryz.f115.body.getD .skip) Tryz.func115 rfl Tryz.call115 ?_;rintro c r H
 try dsimp only at H
 unfold bjf at H;simp only [Tryz.f115,jr];refine rA ?_;refine rA ?_;refine jv (lf ?_);obtain rfl:=sI H;exact rt []
def ajo (n:Nat) (n_:Int) (lo:Int) (hi:Int):Option Bool :=
 some (if (decide (n_ ≥ lo))=true then (decide (n_≤hi)) else false)
def cwo (n:Nat):Go.AE.Fn:=mkFn (A:=Int×Int×Int) (R:=Bool) 71 [(false,[.int .i64]),(false,[.int .i64]),(false,[.int .i64])] false (fun xs=>((cg (xs.getD 0 []) 0).toInt,(cg (xs.getD 1 []) 0).toInt,(cg (xs.getD 2 []) 0).toInt)) (fun a=>[[.int a.1],[.int a.2.1],[.int a.2.2]]) (fun a=>ajo n a.1 a.2.1 a.2.2) (fun r=>[.c .bool (.bool r)]) (fun r=>[])
theorem dw2 (n:Nat):aj1 jd (cwo n):=by
 have hΓ:=@g0 (aj1 jd);refine cF (Tryz.f71.body.getD .skip) Tryz.func71 rfl Tryz.call71 ?_;rintro ⟨n_,lo,hi⟩ r H
 try dsimp only at H
 unfold ajo at H;simp only [Tryz.f71,jr];refine rA ?_;refine rA ?_;refine jv (lf ?_);obtain rfl:=sI H;exact rt []
abbrev cz5 (s:List UInt8):S:=stB [(0,.c .str (.str s))] []
def bqe (n:Nat) (s:List UInt8):Option Bool :=
 (ajo n (s.length:Int) 1 6).bind fun r1 =>
 some r1
abbrev czu (s:List UInt8) (i:Int):S:=stB [(0,.c .str (.str s)),(3,.c (.int .i64) (.int i))] []
def ay1 (n:Nat) (s:List UInt8) (i:Int):Option ((Int) ⊕ (((Bool) ⊕ (Unit)))) :=
 bif (decide (i < (s.length:Int))) then
  gd ((0≤i∧i < (s.length:Int))) <|
  (bz2 n (((s.getD (Int.toNat i) 0).toNat:Nat):Int)).bind fun r2 =>
  gd (((!r2)=true→(0≤i∧i < (s.length:Int)))∧((!r2)=true→(bjf n (((s.getD (Int.toNat i) 0).toNat:Nat):Int)).isSome=true)) <|
  bif (if (!r2)=true then (!((bjf n (((s.getD (Int.toNat i) 0).toNat:Nat):Int)).getD default)) else false) then
   some (.inr (.inl false))
  else
   some (.inl (ja .i64 (i+1)))
 else
  some (.inr (.inr ()))
def bz0 (n:Nat) (s:List UInt8):Option Bool :=
 (ajg (fun (x:Int)=>ay1 n s x) n 0).bind fun y4 =>
 match y4 with
 | .inl vv =>
  some vv
 | .inr vv =>
  bqe n s
def dwj (n:Nat):Go.AE.Fn:=mkFn (A:=(List UInt8)) (R:=Bool) 70 [(false,[.str])] false (fun xs=>(cg (xs.getD 0 []) 0).toStr) (fun a=>[[.str a]]) (fun a=>bz0 n a) (fun r=>[.c .bool (.bool r)]) (fun r=>[])
theorem fj1 (n:Nat):aj1 jd (dwj n):=by
 have hΓ:=g1 (dqr n) (g1 (dkw n) (g1 (dw2 n) (@g0 (aj1 jd))));have qe:=aI @cqf.eq_1 (aI @cwy.eq_1 @cwo.eq_1);refine cF (Tryz.f70.body.getD .skip) Tryz.func70 rfl Tryz.call70 ?_;rintro s r H
 try dsimp only at H
 unfold bz0 at H;simp only [Tryz.f70,jr];refine rA ?_;refine jU (fun (x:Unit)=>cz5 s) (fun x=>bqe n s=some r) ?_ ?_
 ·refine rA ?_;refine js ?_;obtain ⟨y4,hy4,Ho4⟩:=bind_some H;refine jO _ (fun x=>czu s x) hy4 (wb []) ?_;rintro i z4 H
  try dsimp only at H
  unfold ay1 at H;refine Sm.st (czu.eq_1 ..) ?_;refine jn fun K5 hK5=>?_;refine rA ?_;refine cnd H (fun h7 H=>?_) (fun h7 H=>?_)
  ·refine jp (hK5 _ (jn fun K8 hK8=>js ?_));obtain ⟨hg12,H⟩:=aj3 H;obtain ⟨r2,hr2,H⟩:=bind_some H;obtain ⟨⟨hg13,hg14⟩,H⟩:=aj3 H;have q:=aI qe hr2;refine rAq ?_;refine cnd H (fun h10 H=>?_) (fun h10 H=>?_)
   ·refine rA ?_;refine jv (lf ?_);refine lx H fun hyy=>?_;subst hyy;have H:=Ho4
    try dsimp only at H
    refine lf ?_;obtain rfl:=sI H;exact rt []
   refine jp (hK8 _ ?_);refine eA ?_;refine lf ?_;exact nx H (wb [])
  refine jT (lf ?_);refine lx H fun hyy=>?_;subst hyy;have H:=Ho4
  try dsimp only at H
  refine lf ?_;exact ⟨(),H,wb []⟩
 rintro ⟨⟩ H
 try dsimp only at H
 unfold bqe at H;refine Sm.st (cz5.eq_1 ..) ?_;obtain ⟨r1,hr1,H⟩:=bind_some H;have q:=aI qe hr1;refine rAq ?_;refine jv (lf ?_);obtain rfl:=sI H;exact rt []
abbrev ckh (s:List UInt8):S:=stB [(0,.c .str (.str s))] []
def azj (n:Nat) (s:List UInt8):Option Bool :=
 some (if (decide ((s.length:Int) ≥ 1))=true then (decide ((s.length:Int)≤8)) else false)
abbrev cwr (s:List UInt8) (i:Int):S:=stB [(0,.c .str (.str s)),(3,.c (.int .i64) (.int i))] []
def azm (n:Nat) (s:List UInt8) (i:Int):Option ((Int) ⊕ (((Bool) ⊕ (Unit)))) :=
 bif (decide (i < (s.length:Int))) then
  gd ((0≤i∧i < (s.length:Int))∧((!((((s.getD (Int.toNat i) 0).toNat:Nat):Int) == 64))=true→(0≤i∧i < (s.length:Int)))∧((!(if ((((s.getD (Int.toNat i) 0).toNat:Nat):Int) == 64)=true then true else ((((s.getD (Int.toNat i) 0).toNat:Nat):Int) == 35)))=true→(0≤i∧i < (s.length:Int)))) <|
  gd ((0≤i∧i < (s.length:Int))) <|
  (bz2 n (((s.getD (Int.toNat i) 0).toNat:Nat):Int)).bind fun r1 =>
  gd ((((if (!r1)=true then (!(if (if ((((s.getD (Int.toNat i) 0).toNat:Nat):Int) == 64)=true then true else ((((s.getD (Int.toNat i) 0).toNat:Nat):Int) == 35))=true then true else ((((s.getD (Int.toNat i) 0).toNat:Nat):Int) == 36))) else false) && (!(i == 0)))=true→(0≤i∧i < (s.length:Int)))∧(((if (!r1)=true then (!(if (if ((((s.getD (Int.toNat i) 0).toNat:Nat):Int) == 64)=true then true else ((((s.getD (Int.toNat i) 0).toNat:Nat):Int) == 35))=true then true else ((((s.getD (Int.toNat i) 0).toNat:Nat):Int) == 36))) else false) && (!(i == 0)))=true→(bjf n (((s.getD (Int.toNat i) 0).toNat:Nat):Int)).isSome=true)∧(((if (!r1)=true then (!(if (if ((((s.getD (Int.toNat i) 0).toNat:Nat):Int) == 64)=true then true else ((((s.getD (Int.toNat i) 0).toNat:Nat):Int) == 35))=true then true else ((((s.getD (Int.toNat i) 0).toNat:Nat):Int) == 36))) else false) && !(i == 0))=true→((if (!r1)=true then (!(if (if ((((s.getD (Int.toNat i) 0).toNat:Nat):Int) == 64)=true then true else ((((s.getD (Int.toNat i) 0).toNat:Nat):Int) == 35))=true then true else ((((s.getD (Int.toNat i) 0).toNat:Nat):Int) == 36))) else false) && (!(i == 0)))=true)) <|
  bif (if (if (!r1)=true then (!(if (if ((((s.getD (Int.toNat i) 0).toNat:Nat):Int) == 64)=true then true else ((((s.getD (Int.toNat i) 0).toNat:Nat):Int) == 35))=true then true else ((((s.getD (Int.toNat i) 0).toNat:Nat):Int) == 36))) else false)=true then (if (i == 0)=true then true else (!((bjf n (((s.getD (Int.toNat i) 0).toNat:Nat):Int)).getD default))) else false) then
   some (.inr (.inl false))
  else
   some (.inl (ja .i64 (i+1)))
 else
  some (.inr (.inr ()))
def bz3 (n:Nat) (s:List UInt8):Option Bool :=
 (ajg (fun (x:Int)=>azm n s x) n 0).bind fun y4 =>
 match y4 with
 | .inl vv =>
  some vv
 | .inr vv =>
  azj n s
def dzc (n:Nat):Go.AE.Fn:=mkFn (A:=(List UInt8)) (R:=Bool) 55 [(false,[.str])] false (fun xs=>(cg (xs.getD 0 []) 0).toStr) (fun a=>[[.str a]]) (fun a=>bz3 n a) (fun r=>[.c .bool (.bool r)]) (fun r=>[])
theorem fj9 (n:Nat):aj1 jd (dzc n):=by
 have hΓ:=g1 (dqr n) (g1 (dkw n) (@g0 (aj1 jd)));refine cF (Tryz.f55.body.getD .skip) Tryz.func55 rfl Tryz.call55 ?_;rintro s r H
 try dsimp only at H
 unfold bz3 at H;simp only [Tryz.f55,jr];refine rA ?_;refine jU (fun (x:Unit)=>ckh s) (fun x=>azj n s=some r) ?_ ?_
 ·refine rA ?_;refine js ?_;obtain ⟨y4,hy4,Ho4⟩:=bind_some H;refine jO _ (fun x=>cwr s x) hy4 (wb []) ?_;rintro i z4 H
  try dsimp only at H
  unfold azm at H;refine Sm.st (cwr.eq_1 ..) ?_;refine jn fun K5 hK5=>?_;refine rA ?_;refine cnd H (fun h7 H=>?_) (fun h7 H=>?_)
  ·refine jp (hK5 _ (jn fun K8 hK8=>js ?_));obtain ⟨⟨hg17,hg18,hg19⟩,H⟩:=aj3 H;refine rA ?_;obtain ⟨hg13,H⟩:=aj3 H;obtain ⟨r1,hr1,H⟩:=bind_some H;obtain ⟨⟨hg14,hg15,hg16⟩,H⟩:=aj3 H;have q:=aI @cqf.eq_1 (aI @cwy.eq_1 hr1);refine rAq ?_;refine cnd H (fun h11 H=>?_) (fun h11 H=>?_)
   ·refine rA ?_;refine jv (lf ?_);refine lx H fun hyy=>?_;subst hyy;have H:=Ho4
    try dsimp only at H
    refine lf ?_;obtain rfl:=sI H;exact rt []
   refine jp (hK8 _ ?_);refine eA ?_;refine lf ?_;exact nx H (wb [])
  refine jT (lf ?_);refine lx H fun hyy=>?_;subst hyy;have H:=Ho4
  try dsimp only at H
  refine lf ?_;exact ⟨(),H,wb []⟩
 rintro ⟨⟩ H
 try dsimp only at H
 unfold azj at H;refine Sm.st (ckh.eq_1 ..) ?_;refine rA ?_;refine jv (lf ?_);obtain rfl:=sI H;exact rt []
abbrev dqk (s:List UInt8):S:=stB [(0,.c .str (.str s))] []
def bzo (n:Nat) (s:List UInt8):Option Bool :=
 some (decide ((s.length:Int)≤44))
abbrev dwm (s:List UInt8) (from__1:Int) (i:Int):S:=stB [(0,.c .str (.str s)),(3,.c (.int .i64) (.int from__1)),(4,.c (.int .i64) (.int i))] []
def ak6 (n:Nat) (s:List UInt8) (from__1:Int) (i:Int):Option ((Int×Int) ⊕ (((Bool) ⊕ (Unit)))) :=
 some (.inl (from__1,(ja .i64 (i+1))))
abbrev dz0 (s:List UInt8) (from_:Int) (i:Int):S:=stB [(0,.c .str (.str s)),(3,.c (.int .i64) (.int from_)),(4,.c (.int .i64) (.int i))] []
def aqu (n:Nat) (s:List UInt8) (from_:Int) (i:Int):Option ((Int×Int) ⊕ (((Bool) ⊕ (Unit)))) :=
 bif (decide (i≤(s.length:Int))) then
  gd (((!(i == (s.length:Int)))=true→(0≤i∧i < (s.length:Int)))) <|
  bif (if (i == (s.length:Int))=true then true else ((((s.getD (Int.toNat i) 0).toNat:Nat):Int) == 46)) then
   gd ((0≤from_∧from_≤i∧i≤(s.length:Int))) <|
   (bz3 n (List.drop (Int.toNat from_) (List.take (Int.toNat i) s))).bind fun r1 =>
   bif (!r1) then
    some (.inr (.inl false))
   else
    ak6 n s (ja .i64 (i+1)) i
  else
   ak6 n s from_ i
 else
  some (.inr (.inr ()))
def cjq (n:Nat) (s:List UInt8):Option Bool :=
 (ajg (fun (x:Int×Int)=>aqu n s x.1 x.2) n (0,0)).bind fun y5 =>
 match y5 with
 | .inl vv =>
  some vv
 | .inr vv =>
  bzo n s
def eqn (n:Nat):Go.AE.Fn:=mkFn (A:=(List UInt8)) (R:=Bool) 18 [(false,[.str])] false (fun xs=>(cg (xs.getD 0 []) 0).toStr) (fun a=>[[.str a]]) (fun a=>cjq n a) (fun r=>[.c .bool (.bool r)]) (fun r=>[])
theorem fy2 (n:Nat):aj1 jd (eqn n):=by
 have hΓ:=g1 (fj9 n) (@g0 (aj1 jd));refine cF (Tryz.f18.body.getD .skip) Tryz.func18 rfl Tryz.call18 ?_;rintro s r H
 try dsimp only at H
 unfold cjq at H;simp only [Tryz.f18,jr];refine rA ?_;refine rA ?_;refine jU (fun (x:Unit)=>dqk s) (fun x=>bzo n s=some r) ?_ ?_
 ·refine rA ?_;refine js ?_;obtain ⟨y5,hy5,Ho5⟩:=bind_some H;refine jO _ (fun x=>dz0 s x.1 x.2) hy5 (wb []) ?_;rintro ⟨from_,i⟩ z5 H
  try dsimp only at H
  unfold aqu at H;refine Sm.st (dz0.eq_1 ..) ?_;refine jn fun K6 hK6=>?_;refine rA ?_;refine cnd H (fun h8 H=>?_) (fun h8 H=>?_)
  ·refine jp (hK6 _ ?_);refine jU (fun (x:Int)=>dwm s x i) (fun x=>ak6 n s x i=some z5) ?_ ?_
   ·refine js ?_;obtain ⟨hg16,H⟩:=aj3 H;refine rA ?_;refine cnd H (fun h10 H=>?_) (fun h10 H=>?_)
    ·refine jn fun K11 hK11=>?_;obtain ⟨hg15,H⟩:=aj3 H;obtain ⟨r1,hr1,H⟩:=bind_some H;have q:=aI @dzc.eq_1 hr1;refine rAq ?_;refine cnd H (fun h13 H=>?_) (fun h13 H=>?_)
     ·refine rA ?_;refine jv (lf ?_);refine lx H fun hyy=>?_;subst hyy;have H:=Ho5
      try dsimp only at H
      refine lf ?_;obtain rfl:=sI H;exact rt []
     refine jp (hK11 _ ?_);refine eA ?_;refine lf ?_;exact ⟨_,H,wb []⟩
    refine jp (lf ?_);exact ⟨_,H,wb []⟩
   rintro from__1 H
   try dsimp only at H
   unfold ak6 at H;refine Sm.st (dwm.eq_1 ..) ?_;refine eA ?_;refine lf ?_;exact nx H (wb [])
  refine jT (lf ?_);refine lx H fun hyy=>?_;subst hyy;have H:=Ho5
  try dsimp only at H
  refine lf ?_;exact ⟨(),H,wb []⟩
 rintro ⟨⟩ H
 try dsimp only at H
 unfold bzo at H;refine Sm.st (dqk.eq_1 ..) ?_;refine rA ?_;refine jv (lf ?_);obtain rfl:=sI H;exact rt []
def aqc (n:Nat) (d:TDcb):Option Bool :=
 (ajo n d.Org 1 3).bind fun r1 =>
 gd ((r1=true→(ajo n d.Format 1 3).isSome=true)∧((if r1=true then ((ajo n d.Format 1 3).getD default) else false)=true→(ajo n d.Lrecl 0 1024).isSome=true)∧((if (if r1=true then ((ajo n d.Format 1 3).getD default) else false)=true then ((ajo n d.Lrecl 0 1024).getD default) else false)=true→(ajo n d.Blksize 0 1024).isSome=true)∧((if (if (if r1=true then ((ajo n d.Format 1 3).getD default) else false)=true then ((ajo n d.Lrecl 0 1024).getD default) else false)=true then ((ajo n d.Blksize 0 1024).getD default) else false)=true→(ajo n d.KeyPos 0 1024).isSome=true)∧((if (if (if (if r1=true then ((ajo n d.Format 1 3).getD default) else false)=true then ((ajo n d.Lrecl 0 1024).getD default) else false)=true then ((ajo n d.Blksize 0 1024).getD default) else false)=true then ((ajo n d.KeyPos 0 1024).getD default) else false)=true→(ajo n d.KeyLen 0 64).isSome=true)) <|
 some (if (if (if (if (if r1=true then ((ajo n d.Format 1 3).getD default) else false)=true then ((ajo n d.Lrecl 0 1024).getD default) else false)=true then ((ajo n d.Blksize 0 1024).getD default) else false)=true then ((ajo n d.KeyPos 0 1024).getD default) else false)=true then ((ajo n d.KeyLen 0 64).getD default) else false)
def cqy (n:Nat):Go.AE.Fn:=mkFn (A:=TDcb) (R:=Bool) 127 [(true,[.int .i64,.int .i64,.bool,.bool,.int .i64,.int .i64,.int .i64,.int .i64])] false (fun xs=>(⟨(cg (xs.getD 0 []) 0).toInt,(cg (xs.getD 0 []) 1).toInt,(cg (xs.getD 0 []) 2).toBool,(cg (xs.getD 0 []) 3).toBool,(cg (xs.getD 0 []) 4).toInt,(cg (xs.getD 0 []) 5).toInt,(cg (xs.getD 0 []) 6).toInt,(cg (xs.getD 0 []) 7).toInt⟩:TDcb)) (fun a=>[[.int a.Org,.int a.Format,.bool a.Blocked,.bool a.Asa,.int a.Lrecl,.int a.Blksize,.int a.KeyLen,.int a.KeyPos]]) (fun a=>aqc n a) (fun r=>[.c .bool (.bool r)]) (fun r=>[])
theorem ejc (n:Nat):aj1 jd (cqy n):=by
 have hΓ:=g1 (dw2 n) (@g0 (aj1 jd));refine cF (Tryz.f127.body.getD .skip) Tryz.func127 rfl Tryz.call127 ?_;rintro d r H
 try dsimp only at H
 unfold aqc at H;simp only [Tryz.f127,jr];refine rA ?_;obtain ⟨r1,hr1,H⟩:=bind_some H;obtain ⟨⟨hg3,hg4,hg5,hg6,hg7⟩,H⟩:=aj3 H;have q:=aI @cwo.eq_1 hr1;refine rAq ?_;refine jv (lf ?_);obtain rfl:=sI H;exact rt []
def ck2 (n:Nat) (x_:aj0):Option Bool :=
 some (if (if (if (decide (x_.At ≥ 0))=true then (decide (x_.Len ≥ 1)) else false)=true then (decide (x_.At < 512)) else false)=true then (decide (x_.Len≤(ja .i64 (512 - x_.At)))) else false)
def ekn (n:Nat):Go.AE.Fn:=mkFn (A:=aj0) (R:=Bool) 161 [(true,[.int .i64,.int .i64])] false (fun xs=>(⟨(cg (xs.getD 0 []) 0).toInt,(cg (xs.getD 0 []) 1).toInt⟩:aj0)) (fun a=>[[.int a.At,.int a.Len]]) (fun a=>ck2 n a) (fun r=>[.c .bool (.bool r)]) (fun r=>[])
theorem gjz (n:Nat):aj1 jd (ekn n):=by
 have hΓ:=@g0 (aj1 jd);refine cF (Tryz.f161.body.getD .skip) Tryz.func161 rfl Tryz.call161 ?_;rintro x_ r H
 try dsimp only at H
 unfold ck2 at H;simp only [Tryz.f161,jr];refine rA ?_;refine rA ?_;refine jv (lf ?_);obtain rfl:=sI H;exact rt []
abbrev cz3 (out:List Int):S:=stB [(5,.own 9000 [.int .i64] 0 out.length)] [(9000,.row 3 (List.map ajj out))]
def bko (n:Nat) (out:List Int):Option ((List Int)×Bool) :=
 some (out,true)
abbrev czo (l:List aj0) (seen_1:List Bool) (out_2:List Int) (i:Int):S:=stB [(0,.c (.slice 80) (.slice (List.map aj2 l))),(4,.elt 9006 1 [.bool] 0 0),(5,.own 9007 [.int .i64] 0 out_2.length),(6,.c (.int .i64) (.int i))] [(9006,.row 4 (List.map ak1 seen_1)),(9007,.row 3 (List.map ajj out_2))]
def bq0 (n:Nat) (l:List aj0) (seen_1:List Bool) (out_2:List Int) (i:Int):Option (((List Bool)×(List Int)×Int) ⊕ ((((List Int)×Bool) ⊕ ((List Int))))) :=
 some (.inl (seen_1,out_2,(ja .i64 (i+1))))
abbrev cwn (l:List aj0) (i:Int) (seen_2:List Bool) (out_3:List Int) (k:Int):S:=stB [(0,.c (.slice 80) (.slice (List.map aj2 l))),(4,.elt 9010 1 [.bool] 0 0),(5,.own 9011 [.int .i64] 0 out_3.length),(6,.c (.int .i64) (.int i)),(7,.c (.int .i64) (.int k))] [(9010,.row 4 (List.map ak1 seen_2)),(9011,.row 3 (List.map ajj out_3))]
def aze (n:Nat) (l:List aj0) (i:Int) (seen_2:List Bool) (out_3:List Int) (k:Int):Option (((List Bool)×(List Int)×Int) ⊕ ((((List Int)×Bool) ⊕ ((List Bool)×(List Int))))) :=
 gd ((0≤i∧i < (l.length:Int))∧(0≤i∧i < (l.length:Int))) <|
 bif (decide (k < (ja .i64 (((gt l (Int.toNat i)).At)+((gt l (Int.toNat i)).Len))))) then
  gd ((0≤k∧k < 512∧seen_2.length=512)∧(Int.toNat k) < seen_2.length) <|
  bif (gt seen_2 (Int.toNat k)) then
   some (.inr (.inl ([],false)))
  else
   gd ((0≤k∧k < 512∧seen_2.length=512)∧(Int.toNat k) < seen_2.length) <|
   gd ((out_3.length+1)≤2147483648) <|
   some (.inl ((List.set seen_2 (Int.toNat k) true),(out_3 ++ [k]),(ja .i64 (k+1))))
 else
  some (.inr (.inr (seen_2,out_3)))
abbrev czw (l:List aj0) (seen:List Bool) (out_1:List Int) (i:Int):S:=stB [(0,.c (.slice 80) (.slice (List.map aj2 l))),(4,.elt 9004 1 [.bool] 0 0),(5,.own 9005 [.int .i64] 0 out_1.length),(6,.c (.int .i64) (.int i))] [(9004,.row 4 (List.map ak1 seen)),(9005,.row 3 (List.map ajj out_1))]
def azq (n:Nat) (l:List aj0) (seen:List Bool) (out_1:List Int) (i:Int):Option (((List Bool)×(List Int)×Int) ⊕ ((((List Int)×Bool) ⊕ ((List Int))))) :=
 bif (decide (i < (l.length:Int))) then
  gd ((0≤i∧i < (l.length:Int))) <|
  (ck2 n (gt l (Int.toNat i))).bind fun r1 =>
  bif (!r1) then
   some (.inr (.inl ([],false)))
  else
   gd ((0≤i∧i < (l.length:Int))) <|
   (ajg (fun (x:(List Bool)×(List Int)×Int)=>aze n l i x.1 x.2.1 x.2.2) n (seen,out_1,(gt l (Int.toNat i)).At)).bind fun y15 =>
   match y15 with
   | .inl vv =>
    some (.inr (.inl (vv.1,vv.2)))
   | .inr vv =>
    bq0 n l vv.1 vv.2 i
 else
  some (.inr (.inr out_1))
def azz (n:Nat) (l:List aj0):Option ((List Int)×Bool) :=
 (ajg (fun (x:(List Bool)×(List Int)×Int)=>azq n l x.1 x.2.1 x.2.2) n ((aw0 512 false),[],0)).bind fun y6 =>
 match y6 with
 | .inl vv =>
  some (vv.1,vv.2)
 | .inr vv =>
  bko n vv
def bzl (n:Nat):Go.AE.Fn:=mkFn (A:=(List aj0)) (R:=(List Int)×Bool) 120 [(false,[.slice 80])] false (fun xs=>((cg (xs.getD 0 []) 0).toSl.map ajl)) (fun a=>[[.slice (List.map aj2 a)]]) (fun a=>azz n a) (fun r=>[.own 0 [.int .i64] 0 r.1.length,.c .bool (.bool r.2)]) (fun r=>[.row 3 (List.map ajj r.1)])
theorem cjt (n:Nat):aj1 jd (bzl n):=by
 have hΓ:=g1 (gjz n) (@g0 (aj1 jd));refine aj5 (Tryz.f120.body.getD .skip) h00 Tryz.func120 rfl Tryz.call120 (by decide) (fun _ r=>⟨rfl,m1 ⟨3,_,_,rfl,ty3,rfl⟩ m0⟩) ?_;rintro l r H
 try dsimp only at H
 unfold azz at H;simp only [Tryz.f120,jr];refine rA ?_;refine sX fun K2 hK2=>?_;refine oY ?_;refine hK2 _ ?_;refine rA ?_;refine jU (fun (x:(List Int))=>cz3 x) (fun x=>bko n x=some r) ?_ ?_
 ·refine rA ?_;refine js ?_;obtain ⟨y6,hy6,Ho6⟩:=bind_some H;refine jO _ (fun x=>czw l x.1 x.2.1 x.2.2) hy6 (wb [some 64,none]) ?_;rintro ⟨seen,out_1,i⟩ z6 H
  try dsimp only at H
  unfold azq at H;refine Sm.st (czw.eq_1 ..) ?_;refine jn fun K7 hK7=>?_;refine rA ?_;refine cnd H (fun h9 H=>?_) (fun h9 H=>?_)
  ·refine jp (hK7 _ ?_);refine jU (fun (x:(List Bool)×(List Int))=>czo l x.1 x.2 i) (fun x=>bq0 n l x.1 x.2 i=some z6) ?_ ?_
   ·refine js (jn fun K10 hK10=>?_);obtain ⟨hg33,H⟩:=aj3 H;obtain ⟨r1,hr1,H⟩:=bind_some H;have q:=aI @ekn.eq_1 hr1;refine rAq ?_;refine cnd H (fun h12 H=>?_) (fun h12 H=>?_)
    ·refine rA ?_;refine jv (lf ?_);refine lx H fun hyy=>?_;subst hyy;have H:=Ho6
     try dsimp only at H
     refine lf ?_;obtain rfl:=sI H;exact rto [none]
    refine jp (hK10 _ ?_);obtain ⟨hg32,H⟩:=aj3 H;refine rA ?_;refine js ?_;obtain ⟨y15,hy15,Ho15⟩:=bind_some H;refine jO _ (fun x=>cwn l i x.1 x.2.1 x.2.2) hy15 (wb [some 9004,some 9005]) ?_;rintro ⟨seen_2,out_3,k⟩ z15 H
    try dsimp only at H
    unfold aze at H;refine Sm.st (cwn.eq_1 ..) ?_;refine jn fun K16 hK16=>?_;obtain ⟨⟨hg30,hg31⟩,H⟩:=aj3 H;refine rD ?_;refine cnd H (fun h18 H=>?_) (fun h18 H=>?_)
    ·refine jp (hK16 _ (jn fun K19 hK19=>js (jn fun K20 hK20=>?_)));obtain ⟨⟨hg28,hg29⟩,H⟩:=aj3 H;refine rA ?_;refine cnd H (fun h22 H=>?_) (fun h22 H=>?_)
     ·refine rA ?_;refine jv (lf ?_);refine lx H fun hyy=>?_;subst hyy;have H:=Ho15
      try dsimp only at H
      refine lf ?_;refine lx H fun hyy=>?_;subst hyy;have H:=Ho6
      try dsimp only at H
      refine lf ?_;obtain rfl:=sI H;exact rto [none]
     refine jp (hK20 _ ?_);obtain ⟨⟨hg26,hg27⟩,H⟩:=aj3 H;refine rA ?_;obtain ⟨hg25,H⟩:=aj3 H;refine eA ?_;refine hK19 _ ?_;refine eA ?_;refine lf ?_;exact nx H (wb [some 9010,some 768])
    refine jT (lf ?_);refine lx H fun hyy=>?_;subst hyy;have H:=Ho15
    try dsimp only at H
    refine lf ?_;exact ⟨(seen_2,out_3),H,wb [some 9010,some 9011]⟩
   rintro ⟨seen_1,out_2⟩ H
   try dsimp only at H
   unfold bq0 at H;refine Sm.st (czo.eq_1 ..) ?_;refine eA ?_;refine lf ?_;exact nx H (wb [some 9006,some 9007])
  refine jT (lf ?_);refine lx H fun hyy=>?_;subst hyy;have H:=Ho6
  try dsimp only at H
  refine lf ?_;exact ⟨_,H,wb [some 9005]⟩
 rintro out H
 try dsimp only at H
 unfold bko at H;refine Sm.st (cz3.eq_1 ..) ?_;refine rA ?_;refine jv (lf ?_);obtain rfl:=sI H;exact rto [some 9000]
def az5 (n:Nat) (l:List aj0):Option Bool :=
 (azz n l).bind fun r1 =>
 some r1.2
def bkz (n:Nat):Go.AE.Fn:=mkFn (A:=(List aj0)) (R:=Bool) 73 [(false,[.slice 80])] false (fun xs=>((cg (xs.getD 0 []) 0).toSl.map ajl)) (fun a=>[[.slice (List.map aj2 a)]]) (fun a=>az5 n a) (fun r=>[.c .bool (.bool r)]) (fun r=>[])
theorem cz0 (n:Nat):aj1 jd (bkz n):=by
 have hΓ:=g1 (cjt n) (@g0 (aj1 jd));refine cF (Tryz.f73.body.getD .skip) Tryz.func73 rfl Tryz.call73 ?_;rintro l r H
 try dsimp only at H
 unfold az5 at H;simp only [Tryz.f73,jr];refine rA ?_;obtain ⟨r1,hr1,H⟩:=bind_some H;have q:=aI @bzl.eq_1 hr1;refine rAq ?_;refine rA ?_;refine jv (lf ?_);obtain rfl:=sI H;exact rt []
def bjd (n:Nat) (l:List aj0):Option Int :=
 (azz n l).bind fun r1 =>
 some ((r1.1.length:Nat):Int)
def dyr (n:Nat):Go.AE.Fn:=mkFn (A:=(List aj0)) (R:=Int) 128 [(false,[.slice 80])] false (fun xs=>((cg (xs.getD 0 []) 0).toSl.map ajl)) (fun a=>[[.slice (List.map aj2 a)]]) (fun a=>bjd n a) (fun r=>[.c (.int .i64) (.int r)]) (fun r=>[])
theorem fjx (n:Nat):aj1 jd (dyr n):=by
 have hΓ:=g1 (cjt n) (@g0 (aj1 jd));refine cF (Tryz.f128.body.getD .skip) Tryz.func128 rfl Tryz.call128 ?_;rintro l r H
 try dsimp only at H
 unfold bjd at H;simp only [Tryz.f128,jr];refine rA ?_;obtain ⟨r1,hr1,H⟩:=bind_some H;have q:=aI @bzl.eq_1 hr1;refine rAq ?_;refine rA ?_;refine jv (lf ?_);obtain rfl:=sI H;exact rt []
abbrev cye (d:aj8):S:=stB [(3,.box 9000 0)] [(9000,.box (cD d))]
def bwp (n:Nat) (d:aj8):Option Bool :=
 (cjq n d.Name).bind fun r1 =>
 gd ((r1=true→(aqc n d.Dcb).isSome=true)∧((if r1=true then ((aqc n d.Dcb).getD default) else false)=true→(ajo n (d.Extents.length:Int) 1 8).isSome=true)∧((if (if r1=true then ((aqc n d.Dcb).getD default) else false)=true then ((ajo n (d.Extents.length:Int) 1 8).getD default) else false)=true→(az5 n d.Extents).isSome=true)∧((if (if (if r1=true then ((aqc n d.Dcb).getD default) else false)=true then ((ajo n (d.Extents.length:Int) 1 8).getD default) else false)=true then ((az5 n d.Extents).getD default) else false)=true→(bjd n d.Extents).isSome=true)∧((if (if (if r1=true then ((aqc n d.Dcb).getD default) else false)=true then ((ajo n (d.Extents.length:Int) 1 8).getD default) else false)=true then ((az5 n d.Extents).getD default) else false)=true→(ajo n d.Used 0 ((bjd n d.Extents).getD default)).isSome=true)) <|
 some (if (if (if (if r1=true then ((aqc n d.Dcb).getD default) else false)=true then ((ajo n (d.Extents.length:Int) 1 8).getD default) else false)=true then ((az5 n d.Extents).getD default) else false)=true then ((ajo n d.Used 0 ((bjd n d.Extents).getD default)).getD default) else false)
abbrev cyt (v:aja) (d:aj8) (k:Int):S:=stB [(2,.box 9003 0),(3,.box 9004 0),(5,.c (.int .i64) (.int k))] [(9003,.box (cV v)),(9004,.box (cD d))]
def bj2 (n:Nat) (v:aja) (d:aj8) (k:Int):Option ((Int) ⊕ (((Bool) ⊕ (Unit)))) :=
 bif (decide (k < (d.Extents.length:Int))) then
  gd ((0≤k∧k < (d.Extents.length:Int))) <|
  bif (if (decide (((gt d.Extents (Int.toNat k)).At)≤v.Size))=true then true else (decide ((ja .i64 (((gt d.Extents (Int.toNat k)).At)+((gt d.Extents (Int.toNat k)).Len))) > (ja .i64 (v.Cyls * v.Heads))))) then
   some (.inr (.inl false))
  else
   some (.inl (ja .i64 (k+1)))
 else
  some (.inr (.inr ()))
def bke (n:Nat) (v:aja) (d:aj8):Option Bool :=
 (ajg (fun (x:Int)=>bj2 n v d x) n 0).bind fun y9 =>
 match y9 with
 | .inl vv =>
  some vv
 | .inr vv =>
  bwp n d
def dy7 (n:Nat):Go.AE.Fn:=mkFn (A:=aja×aj8) (R:=Bool) 72 [(true,[.str,.int .i64,.int .i64,.int .i64,.slice 41]),(true,kD)] false (fun xs=>((⟨(cg (xs.getD 0 []) 0).toStr,(cg (xs.getD 0 []) 1).toInt,(cg (xs.getD 0 []) 2).toInt,(cg (xs.getD 0 []) 3).toInt,((cg (xs.getD 0 []) 4).toSl.map awo)⟩:aja),(⟨(cg (xs.getD 1 []) 0).toStr,(⟨(cg (xs.getD 1 []) 1).toInt,(cg (xs.getD 1 []) 2).toInt,(cg (xs.getD 1 []) 3).toBool,(cg (xs.getD 1 []) 4).toBool,(cg (xs.getD 1 []) 5).toInt,(cg (xs.getD 1 []) 6).toInt,(cg (xs.getD 1 []) 7).toInt,(cg (xs.getD 1 []) 8).toInt⟩:TDcb),((cg (xs.getD 1 []) 9).toSl.map ajl),(cg (xs.getD 1 []) 10).toInt⟩:aj8))) (fun a=>[[.str a.1.Serial,.int a.1.Cyls,.int a.1.Heads,.int a.1.Size,.slice (List.map aj6 a.1.Sets)],[.str a.2.Name,.int a.2.Dcb.Org,.int a.2.Dcb.Format,.bool a.2.Dcb.Blocked,.bool a.2.Dcb.Asa,.int a.2.Dcb.Lrecl,.int a.2.Dcb.Blksize,.int a.2.Dcb.KeyLen,.int a.2.Dcb.KeyPos,.slice (List.map aj2 a.2.Extents),.int a.2.Used]]) (fun a=>bke n a.1 a.2) (fun r=>[.c .bool (.bool r)]) (fun r=>[])
theorem fwh (n:Nat):aj1 jd (dy7 n):=by
 have hΓ:=g1 (fy2 n) (g1 (ejc n) (g1 (dw2 n) (g1 (cz0 n) (g1 (fjx n) (@g0 (aj1 jd))))));refine cF (Tryz.f72.body.getD .skip) Tryz.func72 rfl Tryz.call72 ?_;rintro ⟨v,d⟩ r H
 try dsimp only at H
 unfold bke at H;simp only [Tryz.f72,jr];refine rA ?_;refine jU (fun (x:Unit)=>cye d) (fun x=>bwp n d=some r) ?_ ?_
 ·refine rA ?_;refine js ?_;obtain ⟨y9,hy9,Ho9⟩:=bind_some H;refine jO _ (fun x=>cyt v d x) hy9 (wb [some 32,some 48]) ?_;rintro k z9 H
  try dsimp only at H
  unfold bj2 at H;refine Sm.st (cyt.eq_1 ..) ?_;refine jn fun K10 hK10=>?_;refine rA ?_;refine cnd H (fun h12 H=>?_) (fun h12 H=>?_)
  ·refine jp (hK10 _ (jn fun K13 hK13=>js ?_));obtain ⟨hg18,H⟩:=aj3 H;refine rA ?_;refine rA ?_;refine cnd H (fun h16 H=>?_) (fun h16 H=>?_)
   ·refine rA ?_;refine jv (lf ?_);refine lx H fun hyy=>?_;subst hyy;have H:=Ho9
    try dsimp only at H
    refine lf ?_;obtain rfl:=sI H;exact rt []
   refine jp (hK13 _ ?_);refine eA ?_;refine lf ?_;exact nx H (wb [some 9003,some 9004])
  refine jT (lf ?_);refine lx H fun hyy=>?_;subst hyy;have H:=Ho9
  try dsimp only at H
  refine lf ?_;exact ⟨(),H,wb [some 9004]⟩
 rintro ⟨⟩ H
 try dsimp only at H
 unfold bwp at H;refine Sm.st (cye.eq_1 ..) ?_;obtain ⟨r1,hr1,H⟩:=bind_some H;obtain ⟨⟨hg3,hg4,hg5,hg6,hg7⟩,H⟩:=aj3 H;have q:=aI @eqn.eq_1 (aI @cqy.eq_1 (aI @cwo.eq_1 (aI @bkz.eq_1 (aI @dyr.eq_1 hr1))));refine rDq ?_;refine jv (lf ?_);obtain rfl:=sI H;exact rt []
abbrev dkx (l:List aj0):S:=stB [(3,.own 9000 [.int .i64,.int .i64] 0 l.length)] [(9000,.row 80 (List.map aj2 l))]
def byd (n:Nat) (l:List aj0):Option (List aj0) :=
 some l
abbrev dkv (v:aja) (l_1:List aj0) (k:Int):S:=stB [(1,.box 9004 0),(3,.own 9005 [.int .i64,.int .i64] 0 l_1.length),(4,.c (.int .i64) (.int k))] [(9004,.box (cV v)),(9005,.row 80 (List.map aj2 l_1))]
def bjk (n:Nat) (v:aja) (l_1:List aj0) (k:Int):Option (((List aj0)×Int) ⊕ (((List aj0)))) :=
 bif (decide (k < (v.Sets.length:Int))) then
  gd ((0≤k∧k < (v.Sets.length:Int))∧(l_1.length+((gt v.Sets (Int.toNat k)).Extents).length)≤2147483648) <|
  some (.inl ((l_1 ++ (gt v.Sets (Int.toNat k)).Extents),(ja .i64 (k+1))))
 else
  some (.inr l_1)
def cji (n:Nat) (v:aja):Option (List aj0) :=
 (ajg (fun (x:(List aj0)×Int)=>bjk n v x.1 x.2) n ([],0)).bind fun y5 =>
 byd n y5
def dk2 (n:Nat):Go.AE.Fn:=mkFn (A:=aja) (R:=(List aj0)) 74 [(true,[.str,.int .i64,.int .i64,.int .i64,.slice 41])] false (fun xs=>(⟨(cg (xs.getD 0 []) 0).toStr,(cg (xs.getD 0 []) 1).toInt,(cg (xs.getD 0 []) 2).toInt,(cg (xs.getD 0 []) 3).toInt,((cg (xs.getD 0 []) 4).toSl.map awo)⟩:aja)) (fun a=>[[.str a.Serial,.int a.Cyls,.int a.Heads,.int a.Size,.slice (List.map aj6 a.Sets)]]) (fun a=>cji n a) (fun r=>[.own 0 [.int .i64,.int .i64] 0 r.length]) (fun r=>[.row 80 (List.map aj2 r)])
theorem ezy (n:Nat):aj1 jd (dk2 n):=by
 have hΓ:=@g0 (aj1 jd);refine aj5 (Tryz.f74.body.getD .skip) h00 Tryz.func74 rfl Tryz.call74 (by decide) (fun _ r=>⟨rfl,m1 ⟨80,_,_,rfl,ty80,rfl⟩ m0⟩) ?_;rintro v r H
 try dsimp only at H
 unfold cji at H;simp only [Tryz.f74,jr];refine rA ?_;refine rA ?_;refine jU (fun (x:(List aj0))=>dkx x) (fun x=>byd n x=some r) ?_ ?_
 ·refine rA ?_;refine js ?_;obtain ⟨y5,hy5,Ho5⟩:=bind_some H;refine jO _ (fun x=>dkv v x.1 x.2) hy5 (wb [some 16,none]) ?_;rintro ⟨l_1,k⟩ z5 H
  try dsimp only at H
  unfold bjk at H;refine Sm.st (dkv.eq_1 ..) ?_;refine jn fun K6 hK6=>?_;refine rA ?_;refine cnd H (fun h8 H=>?_) (fun h8 H=>?_)
  ·refine jp (hK6 _ (jn fun K9 hK9=>js ?_));obtain ⟨⟨hg10,hg11⟩,H⟩:=aj3 H;refine eA ?_;refine hK9 _ ?_;refine eA ?_;refine lf ?_;exact nx H (wb [some 9004,some 304])
  refine jT (lf ?_);refine lx H fun hyy=>?_;subst hyy;have H:=Ho5
  try dsimp only at H
  refine lf ?_;exact ⟨_,H,wb [some 9005]⟩
 rintro l H
 try dsimp only at H
 unfold byd at H;refine Sm.st (dkx.eq_1 ..) ?_;refine rA ?_;refine jv (lf ?_);obtain rfl:=sI H;exact rto [some 9000]
abbrev cyc (v:aja):S:=stB [(1,.box 9000 0)] [(9000,.box (cV v))]
def bwq (n:Nat) (v:aja):Option Bool :=
 (cji n v).bind fun r2 =>
 (az5 n r2).bind fun r3 =>
 some r3
abbrev dj6 (v:aja) (k:Int):S:=stB [(1,.box 9002 0),(3,.c (.int .i64) (.int k))] [(9002,.box (cV v))]
def az6 (n:Nat) (v:aja) (k:Int):Option ((Int) ⊕ (((Bool) ⊕ (Unit)))) :=
 bif (decide (k < (v.Sets.length:Int))) then
  gd ((0≤k∧k < (v.Sets.length:Int))) <|
  (bke n v (gt v.Sets (Int.toNat k))).bind fun r4 =>
  gd ((((!(!r4)) && (decide (k > 0)))=true→(0≤(ja .i64 (k - 1))∧(ja .i64 (k - 1)) < (v.Sets.length:Int)))∧(((!(!r4)) && (decide (k > 0)))=true→(0≤k∧k < (v.Sets.length:Int)))) <|
  bif (if (!r4)=true then true else (if (decide (k > 0))=true then (!Op.bytesLess ((gt v.Sets (Int.toNat (ja .i64 (k - 1)))).Name) ((gt v.Sets (Int.toNat k)).Name)) else false)) then
   some (.inr (.inl false))
  else
   some (.inl (ja .i64 (k+1)))
 else
  some (.inr (.inr ()))
def bjg (n:Nat) (v:aja):Option Bool :=
 (bz0 n v.Serial).bind fun r1 =>
 gd (((!(!r1))=true→(ajo n v.Cyls 1 64).isSome=true)∧((!(if (!r1)=true then true else (!((ajo n v.Cyls 1 64).getD default))))=true→(ajo n v.Heads 1 8).isSome=true)∧((!(if (if (!r1)=true then true else (!((ajo n v.Cyls 1 64).getD default)))=true then true else (!((ajo n v.Heads 1 8).getD default))))=true→(ajo n v.Size 1 (ja .i64 ((ja .i64 (v.Cyls * v.Heads)) - 1))).isSome=true)) <|
 bif (if (if (if (if (if (!r1)=true then true else (!((ajo n v.Cyls 1 64).getD default)))=true then true else (!((ajo n v.Heads 1 8).getD default)))=true then true else (!((ajo n v.Size 1 (ja .i64 ((ja .i64 (v.Cyls * v.Heads)) - 1))).getD default)))=true then true else (decide ((v.Sets.length:Int) > 64)))=true then true else (decide ((v.Sets.length:Int) > (ja .i64 (14 * v.Size))))) then
  some false
 else
  (ajg (fun (x:Int)=>az6 n v x) n 0).bind fun y8 =>
  match y8 with
  | .inl vv =>
   some vv
  | .inr vv =>
   bwq n v
def byc (n:Nat):Go.AE.Fn:=mkFn (A:=aja) (R:=Bool) 31 [(true,[.str,.int .i64,.int .i64,.int .i64,.slice 41])] false (fun xs=>(⟨(cg (xs.getD 0 []) 0).toStr,(cg (xs.getD 0 []) 1).toInt,(cg (xs.getD 0 []) 2).toInt,(cg (xs.getD 0 []) 3).toInt,((cg (xs.getD 0 []) 4).toSl.map awo)⟩:aja)) (fun a=>[[.str a.Serial,.int a.Cyls,.int a.Heads,.int a.Size,.slice (List.map aj6 a.Sets)]]) (fun a=>bjg n a) (fun r=>[.c .bool (.bool r)]) (fun r=>[])
theorem cwx (n:Nat):aj1 jd (byc n):=by
 have hΓ:=g1 (fj1 n) (g1 (dw2 n) (g1 (fwh n) (g1 (ezy n) (g1 (cz0 n) (@g0 (aj1 jd))))));have qe:=aI @dwj.eq_1 (aI @cwo.eq_1 (aI @dy7.eq_1 (aI @dk2.eq_1 @bkz.eq_1)));refine cF (Tryz.f31.body.getD .skip) Tryz.func31 rfl Tryz.call31 ?_;rintro v r H
 try dsimp only at H
 unfold bjg at H;simp only [Tryz.f31,jr];refine rA ?_;refine jn fun K2 hK2=>?_;obtain ⟨r1,hr1,H⟩:=bind_some H;obtain ⟨⟨hg19,hg20,hg21⟩,H⟩:=aj3 H;have q:=aI qe hr1;refine rAq ?_;refine cnd H (fun h4 H=>?_) (fun h4 H=>?_)
 ·refine rA ?_;refine jv (lf ?_);obtain rfl:=sI H;exact rt []
 refine jp (hK2 _ ?_);refine jU (fun (x:Unit)=>cyc v) (fun x=>bwq n v=some r) ?_ ?_
 ·refine rA ?_;refine js ?_;obtain ⟨y8,hy8,Ho8⟩:=bind_some H;refine jO _ (fun x=>dj6 v x) hy8 (wb [some 16]) ?_;rintro k z8 H
  try dsimp only at H
  unfold az6 at H;refine Sm.st (dj6.eq_1 ..) ?_;refine jn fun K9 hK9=>?_;refine rA ?_;refine cnd H (fun h11 H=>?_) (fun h11 H=>?_)
  ·refine jp (hK9 _ (jn fun K12 hK12=>js ?_));obtain ⟨hg16,H⟩:=aj3 H;obtain ⟨r4,hr4,H⟩:=bind_some H;obtain ⟨⟨hg17,hg18⟩,H⟩:=aj3 H;have q:=aI qe hr4;refine rDq ?_;refine cnd H (fun h14 H=>?_) (fun h14 H=>?_)
   ·refine rA ?_;refine jv (lf ?_);refine lx H fun hyy=>?_;subst hyy;have H:=Ho8
    try dsimp only at H
    refine lf ?_;obtain rfl:=sI H;exact rt []
   refine jp (hK12 _ ?_);refine eA ?_;refine lf ?_;exact nx H (wb [some 9002])
  refine jT (lf ?_);refine lx H fun hyy=>?_;subst hyy;have H:=Ho8
  try dsimp only at H
  refine lf ?_;exact ⟨(),H,wb [some 9002]⟩
 rintro ⟨⟩ H
 try dsimp only at H
 unfold bwq at H;refine Sm.st (cyc.eq_1 ..) ?_;obtain ⟨r2,hr2,H⟩:=bind_some H;obtain ⟨r3,hr3,H⟩:=bind_some H;have q:=aI qe (aI hr2 hr3);refine rAq ?_;refine jv (lf ?_);obtain rfl:=sI H;exact rt []
def bkf (n:Nat):Option (List Int) :=
 some [64,90,127,123,91,108,80,125,77,93,92,78,107,96,75,97,240,241,242,243,244,245,246,247,248,249,122,94,76,126,110,111,124,193,194,195,196,197,198,199,200,201,209,210,211,212,213,214,215,216,217,226,227,228,229,230,231,232,233,186,224,187,176,109,121,129,130,131,132,133,134,135,136,137,145,146,147,148,149,150,151,152,153,162,163,164,165,166,167,168,169,192,79,208,161]
def czi (n:Nat):Go.AE.Fn:=mkFn (A:=Unit) (R:=(List Int)) 195 [] false (fun xs=>()) (fun a=>[]) (fun a=>bkf n) (fun r=>[.own 0 [.int .u8] 0 r.length]) (fun r=>[.row 5 (List.map ajj r)])
theorem dy5 (n:Nat):aj1 jd (czi n):=by
 have hΓ:=@g0 (aj1 jd);refine aj5 (Tryz.f195.body.getD .skip) h00 Tryz.func195 rfl Tryz.call195 (by decide) (fun _ r=>⟨rfl,m1 ⟨5,_,_,rfl,ty5,rfl⟩ m0⟩) ?_;rintro ⟨⟩ r H
 try dsimp only at H
 unfold bkf at H;simp only [Tryz.f195,jr];refine rA ?_;refine rA ?_;refine jv (lf ?_);obtain rfl:=sI H;exact rto [some 16]
def cjd (n:Nat) (c:Int):Option (Int×Bool) :=
 bif (if (decide (c < 32))=true then true else (decide (c > 126))) then
  some (0,false)
 else
  (bkf n).bind fun r1 =>
  gd ((0≤(ja .u8 (c - 32))∧(ja .u8 (c - 32)) < (r1.length:Int))∧(Int.toNat (ja .u8 (c - 32))) < r1.length) <|
  some ((gt r1 (Int.toNat (ja .u8 (c - 32)))),true)
def ejo (n:Nat):Go.AE.Fn:=mkFn (A:=Int) (R:=Int×Bool) 163 [(false,[.int .u8])] false (fun xs=>(cg (xs.getD 0 []) 0).toInt) (fun a=>[[.int a]]) (fun a=>cjd n a) (fun r=>[.c (.int .u8) (.int r.1),.c .bool (.bool r.2)]) (fun r=>[])
theorem fzs (n:Nat):aj1 jd (ejo n):=by
 have hΓ:=g1 (dy5 n) (@g0 (aj1 jd));refine cF (Tryz.f163.body.getD .skip) Tryz.func163 rfl Tryz.call163 ?_;rintro c r H
 try dsimp only at H
 unfold cjd at H;simp only [Tryz.f163,jr];refine rA ?_;refine jn fun K2 hK2=>?_;refine rA ?_;refine cnd H (fun h4 H=>?_) (fun h4 H=>?_)
 ·refine rA ?_;refine jv (lf ?_);obtain rfl:=sI H;exact rt []
 refine jp (hK2 _ ?_);obtain ⟨r1,hr1,H⟩:=bind_some H;obtain ⟨⟨hg7,hg8⟩,H⟩:=aj3 H;have q:=aI @czi.eq_1 hr1;refine rAq ?_;refine jv (lf ?_);obtain rfl:=sI H;exact rt []
abbrev czb (out:List Int):S:=stB [(4,.own 9000 [.int .u8] 0 out.length)] [(9000,.row 5 (List.map ajj out))]
def bql (n:Nat) (out:List Int):Option ((List Int)×Int) :=
 some (out,0)
abbrev czy (s:List UInt8) (out_1:List Int) (i:Int):S:=stB [(0,.c .str (.str s)),(4,.own 9002 [.int .u8] 0 out_1.length),(5,.c (.int .i64) (.int i))] [(9002,.row 5 (List.map ajj out_1))]
def azu (n:Nat) (s:List UInt8) (out_1:List Int) (i:Int):Option (((List Int)×Int) ⊕ ((((List Int)×Int) ⊕ ((List Int))))) :=
 bif (decide (i < (s.length:Int))) then
  gd ((0≤i∧i < (s.length:Int))) <|
  (cjd n (((s.getD (Int.toNat i) 0).toNat:Nat):Int)).bind fun r1 =>
  bif (!r1.2) then
   some (.inr (.inl ([],20)))
  else
   gd ((out_1.length+1)≤2147483648) <|
   some (.inl ((out_1 ++ [r1.1]),(ja .i64 (i+1))))
 else
  some (.inr (.inr out_1))
def by9 (n:Nat) (s:List UInt8):Option ((List Int)×Int) :=
 (ajg (fun (x:(List Int)×Int)=>azu n s x.1 x.2) n ([],0)).bind fun y5 =>
 match y5 with
 | .inl vv =>
  some (vv.1,vv.2)
 | .inr vv =>
  bql n vv
def dqg (n:Nat):Go.AE.Fn:=mkFn (A:=(List UInt8)) (R:=(List Int)×Int) 123 [(false,[.str])] false (fun xs=>(cg (xs.getD 0 []) 0).toStr) (fun a=>[[.str a]]) (fun a=>by9 n a) (fun r=>[.own 0 [.int .u8] 0 r.1.length,.c (.int .i64) (.int r.2)]) (fun r=>[.row 5 (List.map ajj r.1)])
theorem eyf (n:Nat):aj1 jd (dqg n):=by
 have hΓ:=g1 (fzs n) (@g0 (aj1 jd));refine aj5 (Tryz.f123.body.getD .skip) h00 Tryz.func123 rfl Tryz.call123 (by decide) (fun _ r=>⟨rfl,m1 ⟨5,_,_,rfl,ty5,rfl⟩ m0⟩) ?_;rintro s r H
 try dsimp only at H
 unfold by9 at H;simp only [Tryz.f123,jr];refine rA ?_;refine rA ?_;refine jU (fun (x:(List Int))=>czb x) (fun x=>bql n x=some r) ?_ ?_
 ·refine rA ?_;refine js ?_;obtain ⟨y5,hy5,Ho5⟩:=bind_some H;refine jO _ (fun x=>czy s x.1 x.2) hy5 (wb [none]) ?_;rintro ⟨out_1,i⟩ z5 H
  try dsimp only at H
  unfold azu at H;refine Sm.st (czy.eq_1 ..) ?_;refine jn fun K6 hK6=>?_;refine rA ?_;refine cnd H (fun h8 H=>?_) (fun h8 H=>?_)
  ·refine jp (hK6 _ (jn fun K9 hK9=>js ?_));obtain ⟨hg16,H⟩:=aj3 H;obtain ⟨r1,hr1,H⟩:=bind_some H;have q:=aI @ejo.eq_1 hr1;refine rAq ?_;refine jn fun K11 hK11=>?_;refine rA ?_;refine cnd H (fun h13 H=>?_) (fun h13 H=>?_)
   ·refine rA ?_;refine jv (lf ?_);refine lx H fun hyy=>?_;subst hyy;have H:=Ho5
    try dsimp only at H
    refine lf ?_;obtain rfl:=sI H;exact rto [none]
   refine jp (hK11 _ ?_);obtain ⟨hg15,H⟩:=aj3 H;refine eA ?_;refine hK9 _ ?_;refine eA ?_;refine lf ?_;exact nx H (wb [some 416])
  refine jT (lf ?_);refine lx H fun hyy=>?_;subst hyy;have H:=Ho5
  try dsimp only at H
  refine lf ?_;exact ⟨_,H,wb [some 9002]⟩
 rintro out H
 try dsimp only at H
 unfold bql at H;refine Sm.st (czb.eq_1 ..) ?_;refine rA ?_;refine jv (lf ?_);obtain rfl:=sI H;exact rto [some 9000]
abbrev dwg (b:List Int):S:=stB [(5,.own 9000 [.int .u8] 0 b.length)] [(9000,.row 5 (List.map ajj b))]
def bzv (n:Nat) (b:List Int):Option (List Int) :=
 some b
abbrev dwq (n_:Int) (b_1:List Int):S:=stB [(1,.c (.int .i64) (.int n_)),(5,.own 9001 [.int .u8] 0 b_1.length)] [(9001,.row 5 (List.map ajj b_1))]
def bqn (n:Nat) (n_:Int) (b_1:List Int):Option (((List Int)) ⊕ (((List Int)))) :=
 bif (decide (((b_1.length:Nat):Int) < n_)) then
  gd ((b_1.length+1)≤2147483648) <|
  some (.inl (b_1 ++ [64]))
 else
  some (.inr b_1)
def ayk (n:Nat) (s:List UInt8) (n_:Int):Option (List Int) :=
 (by9 n s).bind fun r1 =>
 (ajg (fun (x:(List Int))=>bqn n n_ x) n r1.1).bind fun y4 =>
 bzv n y4
def djx (n:Nat):Go.AE.Fn:=mkFn (A:=(List UInt8)×Int) (R:=(List Int)) 64 [(false,[.str]),(false,[.int .i64])] false (fun xs=>((cg (xs.getD 0 []) 0).toStr,(cg (xs.getD 1 []) 0).toInt)) (fun a=>[[.str a.1],[.int a.2]]) (fun a=>ayk n a.1 a.2) (fun r=>[.own 0 [.int .u8] 0 r.length]) (fun r=>[.row 5 (List.map ajj r)])
theorem ejr (n:Nat):aj1 jd (djx n):=by
 have hΓ:=g1 (eyf n) (@g0 (aj1 jd));refine aj5 (Tryz.f64.body.getD .skip) h00 Tryz.func64 rfl Tryz.call64 (by decide) (fun _ r=>⟨rfl,m1 ⟨5,_,_,rfl,ty5,rfl⟩ m0⟩) ?_;rintro ⟨s,n_⟩ r H
 try dsimp only at H
 unfold ayk at H;simp only [Tryz.f64,jr];refine rA ?_;obtain ⟨r1,hr1,H⟩:=bind_some H;have q:=aI @dqg.eq_1 hr1;refine rAq ?_;refine jU (fun (x:(List Int))=>dwg x) (fun x=>bzv n x=some r) ?_ ?_
 ·refine js ?_;obtain ⟨y4,hy4,Ho4⟩:=bind_some H;refine jO _ (fun x=>dwq n_ x) hy4 (wb [some 144]) ?_;rintro b_1 z4 H
  try dsimp only at H
  unfold bqn at H;refine Sm.st (dwq.eq_1 ..) ?_;refine jn fun K5 hK5=>?_;refine rA ?_;refine cnd H (fun h7 H=>?_) (fun h7 H=>?_)
  ·refine jp (hK5 _ (js ?_));obtain ⟨hg8,H⟩:=aj3 H;refine eA ?_;refine lf ?_;exact nx H (wb [some 288])
  refine jT (lf ?_);refine lx H fun hyy=>?_;subst hyy;have H:=Ho4
  try dsimp only at H
  refine lf ?_;exact ⟨_,H,wb [some 9001]⟩
 rintro b H
 try dsimp only at H
 unfold bzv at H;refine Sm.st (dwg.eq_1 ..) ?_;refine rA ?_;refine jv (lf ?_);obtain rfl:=sI H;exact rto [some 9000]
def bjn (n:Nat) (n_:Int):Option (List Int) :=
 some [(ja .u8 ((ja .i64 (Int.tdiv n_ 256)))),(ja .u8 ((Int.tmod n_ 256)))]
def djw (n:Nat):Go.AE.Fn:=mkFn (A:=Int) (R:=(List Int)) 65 [(false,[.int .i64])] false (fun xs=>(cg (xs.getD 0 []) 0).toInt) (fun a=>[[.int a]]) (fun a=>bjn n a) (fun r=>[.own 0 [.int .u8] 0 r.length]) (fun r=>[.row 5 (List.map ajj r)])
theorem ejy (n:Nat):aj1 jd (djw n):=by
 have hΓ:=@g0 (aj1 jd);refine aj5 (Tryz.f65.body.getD .skip) h00 Tryz.func65 rfl Tryz.call65 (by decide) (fun _ r=>⟨rfl,m1 ⟨5,_,_,rfl,ty5,rfl⟩ m0⟩) ?_;rintro n_ r H
 try dsimp only at H
 unfold bjn at H;simp only [Tryz.f65,jr];refine rA ?_;refine rA ?_;refine jv (lf ?_);obtain rfl:=sI H;exact rto [some 144]
def aya (n:Nat) (is:Bool) (n_:Int):Option Int :=
 bif is then
  some (ja .u8 (n_))
 else
  some 0
def eqi (n:Nat):Go.AE.Fn:=mkFn (A:=Bool×Int) (R:=Int) 124 [(false,[.bool]),(false,[.int .i64])] false (fun xs=>((cg (xs.getD 0 []) 0).toBool,(cg (xs.getD 1 []) 0).toInt)) (fun a=>[[.bool a.1],[.int a.2]]) (fun a=>aya n a.1 a.2) (fun r=>[.c (.int .u8) (.int r)]) (fun r=>[])
theorem fy5 (n:Nat):aj1 jd (eqi n):=by
 have hΓ:=@g0 (aj1 jd);refine cF (Tryz.f124.body.getD .skip) Tryz.func124 rfl Tryz.call124 ?_;rintro ⟨is,n_⟩ r H
 try dsimp only at H
 unfold aya at H;simp only [Tryz.f124,jr];refine rA ?_;refine jn fun K2 hK2=>?_;refine rA ?_;refine cnd H (fun h4 H=>?_) (fun h4 H=>?_)
 ·refine rA ?_;refine jv (lf ?_);obtain rfl:=sI H;exact rt []
 refine jp (hK2 _ ?_);refine rA ?_;refine jv (lf ?_);obtain rfl:=sI H;exact rt []
abbrev czz (n_:Int) (d:aj8) (b_1:List Int):S:=stB [(0,.c (.int .i64) (.int n_)),(3,.box 9003 0),(4,.box 9004 0),(6,.own 9005 [.int .u8] 0 b_1.length)] [(9003,.box (cD d)),(9004,.box [.c (.int .i64) (.int 0),.nilsl,.nilsl,.c .bool (.bool false)]),(9005,.row 5 (List.map ajj b_1))]
def bq3 (n:Nat) (n_:Int) (d:aj8) (b_1:List Int):Option TRec :=
 (ayk n d.Name 44).bind fun r3 =>
 some (⟨n_,r3,b_1,false⟩:TRec)
abbrev czt (n_:Int) (d:aj8) (b_3:List Int) (k:Int):S:=stB [(0,.c (.int .i64) (.int n_)),(3,.box 9012 0),(4,.box 9013 0),(6,.own 9014 [.int .u8] 0 b_3.length),(9,.c (.int .i64) (.int k))] [(9012,.box (cD d)),(9013,.box [.c (.int .i64) (.int 0),.nilsl,.nilsl,.c .bool (.bool false)]),(9014,.row 5 (List.map ajj b_3))]
def akw (n:Nat) (n_:Int) (d:aj8) (b_3:List Int) (k:Int):Option (((List Int)×Int) ⊕ (((List Int)))) :=
 some (.inl (b_3,(ja .i64 (k+1))))
abbrev czp (n_:Int) (d:aj8) (b_2:List Int) (k:Int) (x_:Int) (x__1:Int):S:=stB [(0,.c (.int .i64) (.int n_)),(3,.box 9015 0),(4,.box 9016 0),(6,.own 9017 [.int .u8] 0 b_2.length),(9,.c (.int .i64) (.int k)),(10,.box 9018 0)] [(9015,.box (cD d)),(9016,.box [.c (.int .i64) (.int 0),.nilsl,.nilsl,.c .bool (.bool false)]),(9017,.row 5 (List.map ajj b_2)),(9018,.box [.c (.int .i64) (.int x_),.c (.int .i64) (.int x__1)])]
def azh (n:Nat) (n_:Int) (d:aj8) (b_2:List Int) (k:Int) (x_:Int) (x__1:Int):Option (((List Int)×Int) ⊕ (((List Int)))) :=
 (bjn n x_).bind fun r4 =>
 gd ((b_2.length+r4.length)≤2147483648) <|
 (bjn n x__1).bind fun r5 =>
 gd (((b_2.length+r4.length)+r5.length)≤2147483648) <|
 akw n n_ d ((b_2 ++ r4) ++ r5) k
abbrev czq (n_:Int) (d:aj8) (b_2:List Int) (k:Int):S:=stB [(0,.c (.int .i64) (.int n_)),(3,.box 9009 0),(4,.box 9010 0),(6,.own 9011 [.int .u8] 0 b_2.length),(9,.c (.int .i64) (.int k))] [(9009,.box (cD d)),(9010,.box [.c (.int .i64) (.int 0),.nilsl,.nilsl,.c .bool (.bool false)]),(9011,.row 5 (List.map ajj b_2))]
def azn (n:Nat) (n_:Int) (d:aj8) (b_2:List Int) (k:Int):Option (((List Int)×Int) ⊕ (((List Int)))) :=
 bif (decide (k < 8)) then
  bif (decide (k < (d.Extents.length:Int))) then
   gd ((0≤k∧k < (d.Extents.length:Int))) <|
   azh n n_ d b_2 k ((gt d.Extents (Int.toNat k)).At) ((gt d.Extents (Int.toNat k)).Len)
  else
   azh n n_ d b_2 k 0 0
 else
  some (.inr b_2)
abbrev cwk (n_:Int) (d:aj8) (b:List Int):S:=stB [(0,.c (.int .i64) (.int n_)),(3,.box 9000 0),(4,.box 9001 0),(6,.own 9002 [.int .u8] 0 b.length)] [(9000,.box (cD d)),(9001,.box [.c (.int .i64) (.int 0),.nilsl,.nilsl,.c .bool (.bool false)]),(9002,.row 5 (List.map ajj b))]
def bq9 (n:Nat) (n_:Int) (d:aj8) (b:List Int):Option TRec :=
 gd ((b.length+1)≤2147483648) <|
 (ajg (fun (x:(List Int)×Int)=>azn n n_ d x.1 x.2) n ((b ++ [(ja .u8 ((d.Extents.length:Int)))]),0)).bind fun y8 =>
 bq3 n n_ d y8
abbrev cz9 (n_:Int) (d:aj8) (l:List Int) (b_4:List Int) (k_1:Int):S:=stB [(0,.c (.int .i64) (.int n_)),(3,.box 9023 0),(4,.box 9024 0),(6,.own 9025 [.int .u8] 0 b_4.length),(7,.own 9026 [.int .i64] 0 l.length),(8,.c (.int .i64) (.int k_1))] [(9023,.box (cD d)),(9024,.box [.c (.int .i64) (.int 0),.nilsl,.nilsl,.c .bool (.bool false)]),(9025,.row 5 (List.map ajj b_4)),(9026,.row 3 (List.map ajj l))]
def ay0 (n:Nat) (n_:Int) (d:aj8) (l:List Int) (b_4:List Int) (k_1:Int):Option (((List Int)×Int) ⊕ (((List Int)))) :=
 bif (decide (k_1 < 4)) then
  gd ((0≤k_1∧k_1 < (l.length:Int))∧(Int.toNat k_1) < l.length) <|
  (bjn n (gt l (Int.toNat k_1))).bind fun r6 =>
  gd ((b_4.length+r6.length)≤2147483648) <|
  some (.inl ((b_4 ++ r6),(ja .i64 (k_1+1))))
 else
  some (.inr b_4)
def bz1 (n:Nat) (n_:Int) (d:aj8):Option TRec :=
 (aya n d.Dcb.Blocked 128).bind fun r1 =>
 (aya n d.Dcb.Asa 64).bind fun r2 =>
 (ajg (fun (x:(List Int)×Int)=>ay0 n n_ d [d.Dcb.Lrecl,d.Dcb.Blksize,d.Dcb.KeyPos,d.Used] x.1 x.2) n ([(ja .u8 (d.Dcb.Org)),(ja .u8 (d.Dcb.Format)),(ja .u8 (r1+r2)),(ja .u8 (d.Dcb.KeyLen))],0)).bind fun y21 =>
 bq9 n n_ d y21
def dw6 (n:Nat):Go.AE.Fn:=mkFn (A:=Int×aj8) (R:=TRec) 66 [(false,[.int .i64]),(true,kD)] false (fun xs=>((cg (xs.getD 0 []) 0).toInt,(⟨(cg (xs.getD 1 []) 0).toStr,(⟨(cg (xs.getD 1 []) 1).toInt,(cg (xs.getD 1 []) 2).toInt,(cg (xs.getD 1 []) 3).toBool,(cg (xs.getD 1 []) 4).toBool,(cg (xs.getD 1 []) 5).toInt,(cg (xs.getD 1 []) 6).toInt,(cg (xs.getD 1 []) 7).toInt,(cg (xs.getD 1 []) 8).toInt⟩:TDcb),((cg (xs.getD 1 []) 9).toSl.map ajl),(cg (xs.getD 1 []) 10).toInt⟩:aj8))) (fun a=>[[.int a.1],[.str a.2.Name,.int a.2.Dcb.Org,.int a.2.Dcb.Format,.bool a.2.Dcb.Blocked,.bool a.2.Dcb.Asa,.int a.2.Dcb.Lrecl,.int a.2.Dcb.Blksize,.int a.2.Dcb.KeyLen,.int a.2.Dcb.KeyPos,.slice (List.map aj2 a.2.Extents),.int a.2.Used]]) (fun a=>bz1 n a.1 a.2) (fun r=>[.agg [.c (.int .i64) (.int r.R),.own 0 [.int .u8] 0 r.Key.length,.own 1 [.int .u8] 0 r.Data.length,.c .bool (.bool r.Bad)]]) (fun r=>[.row 5 (List.map ajj r.Key),.row 5 (List.map ajj r.Data)])
theorem eye (n:Nat):aj1 jd (dw6 n):=by
 have hΓ:=g1 (fy5 n) (g1 (ejy n) (g1 (ejr n) (@g0 (aj1 jd))));have qe:=aI @eqi.eq_1 (aI @djw.eq_1 @djx.eq_1);refine aj5 (Tryz.f66.body.getD .skip) h00 Tryz.func66 rfl Tryz.call66 (by decide) (fun _ r=>⟨rfl,m1 ⟨5,_,_,rfl,ty5,rfl⟩ (m1 ⟨5,_,_,rfl,ty5,rfl⟩ m0)⟩) ?_;rintro ⟨n_,d⟩ r H
 try dsimp only at H
 unfold bz1 at H;simp only [Tryz.f66,jr];refine rA ?_;refine rA ?_;obtain ⟨r1,hr1,H⟩:=bind_some H;obtain ⟨r2,hr2,H⟩:=bind_some H;have q:=aI qe (aI hr1 hr2);refine rDq ?_;refine rA ?_;refine jU (fun (x:(List Int))=>cwk n_ d x) (fun x=>bq9 n n_ d x=some r) ?_ ?_
 ·refine rA ?_;refine js ?_;obtain ⟨y21,hy21,Ho21⟩:=bind_some H;refine jO _ (fun x=>cz9 n_ d [d.Dcb.Lrecl,d.Dcb.Blksize,d.Dcb.KeyPos,d.Used] x.1 x.2) hy21 (wb [some 48,some 64,some 464,some 608]) ?_;rintro ⟨b_4,k_1⟩ z21 H
  try dsimp only at H
  unfold ay0 at H;refine Sm.st (cz9.eq_1 ..) ?_;refine jn fun K22 hK22=>?_;refine rA ?_;refine cnd H (fun h24 H=>?_) (fun h24 H=>?_)
  ·refine jp (hK22 _ (jn fun K25 hK25=>js ?_));obtain ⟨⟨hg26,hg27⟩,H⟩:=aj3 H;obtain ⟨r6,hr6,H⟩:=bind_some H;obtain ⟨hg28,H⟩:=aj3 H;have q:=aI qe hr6;refine eAq ?_;refine hK25 _ ?_;refine eA ?_;refine lf ?_;exact nx H (wb [some 9023,some 9024,some 784,some 9026])
  refine jT (lf ?_);refine lx H fun hyy=>?_;subst hyy;have H:=Ho21
  try dsimp only at H
  refine lf ?_;exact ⟨_,H,wb [some 9023,some 9024,some 9025]⟩
 rintro b H
 try dsimp only at H
 unfold bq9 at H;refine Sm.st (cwk.eq_1 ..) ?_;obtain ⟨hg19,H⟩:=aj3 H;refine rA ?_;refine jU (fun (x:(List Int))=>czz n_ d x) (fun x=>bq3 n n_ d x=some r) ?_ ?_
 ·refine rA ?_;refine js ?_;obtain ⟨y8,hy8,Ho8⟩:=bind_some H;refine jO _ (fun x=>czq n_ d x.1 x.2) hy8 (wb [some 9000,some 9001,some 896]) ?_;rintro ⟨b_2,k⟩ z8 H
  try dsimp only at H
  unfold azn at H;refine Sm.st (czq.eq_1 ..) ?_;refine jn fun K9 hK9=>?_;refine rA ?_;refine cnd H (fun h11 H=>?_) (fun h11 H=>?_)
  ·refine jp (hK9 _ ?_);refine jU (fun (x:(List Int))=>czt n_ d x k) (fun x=>akw n n_ d x k=some z8) ?_ ?_
   ·refine js ?_;refine rA ?_;refine jU (fun (x:Int×Int)=>czp n_ d b_2 k x.1 x.2) (fun x=>azh n n_ d b_2 k x.1 x.2=some z8) ?_ ?_
    ·refine rA ?_;refine cnd H (fun h17 H=>?_) (fun h17 H=>?_)
     ·obtain ⟨hg18,H⟩:=aj3 H;refine eA ?_;refine lf ?_;exact ⟨(((gt d.Extents (Int.toNat k)).At),((gt d.Extents (Int.toNat k)).Len)),H,wb [some 9009,some 9010,some 9011,some 160]⟩
     refine jp (lf ?_);exact ⟨(0,0),H,wb [some 9009,some 9010,some 9011,some 160]⟩
    rintro ⟨x_,x__1⟩ H
    try dsimp only at H
    unfold azh at H;refine Sm.st (czp.eq_1 ..) ?_;obtain ⟨r4,hr4,H⟩:=bind_some H;obtain ⟨hg15,H⟩:=aj3 H;have q:=aI qe hr4;refine rAq ?_;obtain ⟨r5,hr5,H⟩:=bind_some H;obtain ⟨hg14,H⟩:=aj3 H;have q:=aI qe hr5;refine eAq ?_;refine lf ?_;exact ⟨_,H,wb [some 9015,some 9016,some 1296]⟩
   rintro b_3 H
   try dsimp only at H
   unfold akw at H;refine Sm.st (czt.eq_1 ..) ?_;refine eA ?_;refine lf ?_;exact nx H (wb [some 9012,some 9013,some 9014])
  refine jT (lf ?_);refine lx H fun hyy=>?_;subst hyy;have H:=Ho8
  try dsimp only at H
  refine lf ?_;exact ⟨_,H,wb [some 9009,some 9010,some 9011]⟩
 rintro b_1 H
 try dsimp only at H
 unfold bq3 at H;refine Sm.st (czz.eq_1 ..) ?_;obtain ⟨r3,hr3,H⟩:=bind_some H;have q:=aI qe hr3;refine rAq ?_;refine jv (lf ?_);obtain rfl:=sI H;exact rto [some 1360,some 9005]
abbrev ck4 (out:List (List TRec)):S:=stB [(7,.own 9002 [.slice 87] 0 out.length)] [(9002,.row 84 (List.map ajh out))]
def bki (n:Nat) (out:List (List TRec)):Option ((List (List TRec))×Int) :=
 some (out,0)
abbrev cwv (v:aja) (out_2:List (List TRec)) (n_:Int):S:=stB [(1,.box 9007 0),(7,.own 9008 [.slice 87] 0 out_2.length),(8,.c (.int .i64) (.int n_))] [(9007,.box (cV v)),(9008,.row 84 (List.map ajh out_2))]
def bjt (n:Nat) (v:aja) (out_2:List (List TRec)) (n_:Int):Option (((List (List TRec))×Int) ⊕ (((List (List TRec))))) :=
 some (.inl (out_2,(ja .i64 (n_+1))))
abbrev ck7 (v:aja) (out_1:List (List TRec)) (n_:Int) (t:List TRec):S:=stB [(1,.box 9009 0),(7,.own 9010 [.slice 87] 0 out_1.length),(8,.c (.int .i64) (.int n_)),(9,.own 9011 [.int .i64,.slice 5,.slice 5,.bool] 0 t.length)] [(9009,.box (cV v)),(9010,.row 84 (List.map ajh out_1)),(9011,.row 87 (List.map ajr t))]
def bq7 (n:Nat) (v:aja) (out_1:List (List TRec)) (n_:Int) (t:List TRec):Option (((List (List TRec))×Int) ⊕ (((List (List TRec))))) :=
 gd ((out_1.length+1)≤2147483648) <|
 bjt n v (out_1 ++ [t]) n_
abbrev cwq (v:aja) (out_1:List (List TRec)) (n_:Int) (t_1:List TRec) (k:Int):S:=stB [(1,.box 9017 0),(7,.own 9018 [.slice 87] 0 out_1.length),(8,.c (.int .i64) (.int n_)),(9,.own 9019 [.int .i64,.slice 5,.slice 5,.bool] 0 t_1.length),(10,.c (.int .i64) (.int k))] [(9017,.box (cV v)),(9018,.row 84 (List.map ajh out_1)),(9019,.row 87 (List.map ajr t_1))]
def azs (n:Nat) (v:aja) (out_1:List (List TRec)) (n_:Int) (t_1:List TRec) (k:Int):Option (((List TRec)×Int) ⊕ (((List TRec)))) :=
 bif (if (decide (k < 14))=true then (decide ((ja .i64 ((ja .i64 (n_ * 14))+k)) < (v.Sets.length:Int))) else false) then
  gd ((0≤(ja .i64 ((ja .i64 (n_ * 14))+k))∧(ja .i64 ((ja .i64 (n_ * 14))+k)) < (v.Sets.length:Int))) <|
  (bz1 n (ja .i64 (k+1)) (gt v.Sets (Int.toNat (ja .i64 ((ja .i64 (n_ * 14))+k))))).bind fun r6 =>
  gd ((t_1.length+1)≤2147483648) <|
  some (.inl ((t_1 ++ [r6]),(ja .i64 (k+1))))
 else
  some (.inr t_1)
abbrev cwj (v:aja) (out_1:List (List TRec)) (n_:Int):S:=stB [(1,.box 9005 0),(7,.own 9006 [.slice 87] 0 out_1.length),(8,.c (.int .i64) (.int n_))] [(9005,.box (cV v)),(9006,.row 84 (List.map ajh out_1))]
def azr (n:Nat) (v:aja) (out_1:List (List TRec)) (n_:Int):Option (((List (List TRec))×Int) ⊕ (((List (List TRec))))) :=
 bif (decide (n_ < v.Size)) then
  (ajg (fun (x:(List TRec)×Int)=>azs n v out_1 n_ x.1 x.2) n ([],0)).bind fun y20 =>
  bq7 n v out_1 n_ y20
 else
  some (.inr out_1)
abbrev cz1 (v:aja) (b:List Int):S:=stB [(1,.box 9000 0),(4,.own 9001 [.int .u8] 0 b.length)] [(9000,.box (cV v)),(9001,.row 5 (List.map ajj b))]
def bjw (n:Nat) (v:aja) (b:List Int):Option ((List (List TRec))×Int) :=
 (ayk n [] 64).bind fun r4 =>
 gd ((b.length+r4.length)≤2147483648) <|
 (ayk n [86,79,76,49] 4).bind fun r5 =>
 (ajg (fun (x:(List (List TRec))×Int)=>azr n v x.1 x.2) n ([[(⟨3,r5,(b ++ r4),false⟩:TRec)]],0)).bind fun y13 =>
 bki n y13
abbrev cws (v:aja) (l:List Int) (b_1:List Int) (k_1:Int):S:=stB [(1,.box 9023 0),(4,.own 9024 [.int .u8] 0 b_1.length),(5,.own 9025 [.int .i64] 0 l.length),(6,.c (.int .i64) (.int k_1))] [(9023,.box (cV v)),(9024,.row 5 (List.map ajj b_1)),(9025,.row 3 (List.map ajj l))]
def akz (n:Nat) (v:aja) (l:List Int) (b_1:List Int) (k_1:Int):Option (((List Int)×Int) ⊕ (((List Int)))) :=
 bif (decide (k_1 < 3)) then
  gd ((0≤k_1∧k_1 < (l.length:Int))∧(Int.toNat k_1) < l.length) <|
  (bjn n (gt l (Int.toNat k_1))).bind fun r7 =>
  gd ((b_1.length+r7.length)≤2147483648) <|
  some (.inl ((b_1 ++ r7),(ja .i64 (k_1+1))))
 else
  some (.inr b_1)
def bjj (n:Nat) (v:aja):Option ((List (List TRec))×Int) :=
 (bjg n v).bind fun r1 =>
 bif (!r1) then
  some ([],5)
 else
  (ayk n [86,79,76,49] 4).bind fun r2 =>
  (ayk n v.Serial 6).bind fun r3 =>
  gd ((r2.length+r3.length)≤2147483648) <|
  (ajg (fun (x:(List Int)×Int)=>akz n v [v.Cyls,v.Heads,v.Size] x.1 x.2) n ((r2 ++ r3),0)).bind fun y29 =>
  bjw n v y29
def cqg (n:Nat):Go.AE.Fn:=mkFn (A:=aja) (R:=(List (List TRec))×Int) 29 [(true,[.str,.int .i64,.int .i64,.int .i64,.slice 41])] true (fun xs=>(⟨(cg (xs.getD 0 []) 0).toStr,(cg (xs.getD 0 []) 1).toInt,(cg (xs.getD 0 []) 2).toInt,(cg (xs.getD 0 []) 3).toInt,((cg (xs.getD 0 []) 4).toSl.map awo)⟩:aja)) (fun a=>[[.str a.Serial,.int a.Cyls,.int a.Heads,.int a.Size,.slice (List.map aj6 a.Sets)]]) (fun a=>bjj n a) (fun r=>[.own 0 [.slice 87] 0 r.1.length,.c (.int .i64) (.int r.2)]) (fun r=>[.row 84 (List.map ajh r.1)])
theorem dzm (n:Nat):aj1 jd (cqg n):=by
 have hΓ:=g1 (cwx n) (g1 (ejr n) (g1 (ejy n) (g1 (eye n) (@g0 (aj1 jd)))));have qe:=aI @byc.eq_1 (aI @djx.eq_1 (aI @djw.eq_1 @dw6.eq_1));refine aj5 (Tryz.f29.body.getD .skip) h00 Tryz.func29 rfl Tryz.call29 (by decide) (by intro h;cases h) ?_;rintro v r H
 try dsimp only at H
 unfold bjj at H;simp only [Tryz.f29,jr];refine rA ?_;refine jn fun K2 hK2=>?_;obtain ⟨r1,hr1,H⟩:=bind_some H;have q:=aI qe hr1;refine rAq ?_;refine cnd H (fun h4 H=>?_) (fun h4 H=>?_)
 ·refine rA ?_;refine jv (lf ?_);obtain rfl:=sI H;exact rto [none]
 refine jp (hK2 _ ?_);obtain ⟨r2,hr2,H⟩:=bind_some H;obtain ⟨r3,hr3,H⟩:=bind_some H;obtain ⟨hg7,H⟩:=aj3 H;refine sQ [0,1,2,3,4,5] [(none,[],[239,238,237,236,235,234,233,232,231,230,229,228,227,226,225,224]),(none,[16],[]),(none,[16],[]),(none,[],[287,286,285,284,283,282,281,280,279,278,277,276,275,274,273,272]),(none,[224,272],[288,224]),(none,[],[])] fun K6 hK6=>?_;have q:=aI qe (aI hr2 hr3)
 iterate 6 refine oQq ?_
 refine byo ?_;refine hK6 _ ?_;refine rA ?_;refine jU (fun (x:(List Int))=>cz1 v x) (fun x=>bjw n v x=some r) ?_ ?_
 ·refine rA ?_;refine js ?_;obtain ⟨y29,hy29,Ho29⟩:=bind_some H;refine jO _ (fun x=>cws v [v.Cyls,v.Heads,v.Size] x.1 x.2) hy29 (wb [some 16,some 288,some 400]) ?_;rintro ⟨b_1,k_1⟩ z29 H
  try dsimp only at H
  unfold akz at H;refine Sm.st (cws.eq_1 ..) ?_;refine jn fun K30 hK30=>?_;refine rA ?_;refine cnd H (fun h32 H=>?_) (fun h32 H=>?_)
  ·refine jp (hK30 _ (jn fun K33 hK33=>js ?_));obtain ⟨⟨hg34,hg35⟩,H⟩:=aj3 H;obtain ⟨r7,hr7,H⟩:=bind_some H;obtain ⟨hg36,H⟩:=aj3 H;have q:=aI qe hr7;refine eAq ?_;refine hK33 _ ?_;refine eA ?_;refine lf ?_;exact nx H (wb [some 9023,some 576,some 9025])
  refine jT (lf ?_);refine lx H fun hyy=>?_;subst hyy;have H:=Ho29
  try dsimp only at H
  refine lf ?_;exact ⟨_,H,wb [some 9023,some 9024]⟩
 rintro b H
 try dsimp only at H
 unfold bjw at H;refine Sm.st (cz1.eq_1 ..) ?_;obtain ⟨r4,hr4,H⟩:=bind_some H;obtain ⟨hg27,H⟩:=aj3 H;have q:=aI qe hr4;refine rAq ?_;obtain ⟨r5,hr5,H⟩:=bind_some H;have q:=aI qe hr5;refine rAq ?_;refine jU (fun (x:(List (List TRec)))=>ck4 x) (fun x=>bki n x=some r) ?_ ?_
 ·refine rA ?_;refine js ?_;obtain ⟨y13,hy13,Ho13⟩:=bind_some H;refine jO _ (fun x=>cwj v x.1 x.2) hy13 (wb [some 9000,some 704]) ?_;rintro ⟨out_1,n_⟩ z13 H
  try dsimp only at H
  unfold azr at H;refine Sm.st (cwj.eq_1 ..) ?_;refine jn fun K14 hK14=>?_;refine rA ?_;refine cnd H (fun h16 H=>?_) (fun h16 H=>?_)
  ·refine jp (hK14 _ ?_);refine jU (fun (x:(List (List TRec)))=>cwv v x n_) (fun x=>bjt n v x n_=some z13) ?_ ?_
   ·refine js ?_;refine rA ?_;refine jU (fun (x:(List TRec))=>ck7 v out_1 n_ x) (fun x=>bq7 n v out_1 n_ x=some z13) ?_ ?_
    ·refine rA ?_;refine js ?_;obtain ⟨y20,hy20,Ho20⟩:=bind_some H;refine jO _ (fun x=>cwq v out_1 n_ x.1 x.2) hy20 (wb [some 9005,some 9006,none]) ?_;rintro ⟨t_1,k⟩ z20 H
     try dsimp only at H
     unfold azs at H;refine Sm.st (cwq.eq_1 ..) ?_;refine jn fun K21 hK21=>?_;refine rA ?_;refine cnd H (fun h23 H=>?_) (fun h23 H=>?_)
     ·refine jp (hK21 _ (jn fun K24 hK24=>js ?_));obtain ⟨hg25,H⟩:=aj3 H;obtain ⟨r6,hr6,H⟩:=bind_some H;obtain ⟨hg26,H⟩:=aj3 H;have q:=aI qe hr6;refine eAq ?_;refine hK24 _ ?_;refine eA ?_;refine lf ?_;exact nx H (wb [some 9017,some 9018,some 1248])
     refine jT (lf ?_);refine lx H fun hyy=>?_;subst hyy;have H:=Ho20
     try dsimp only at H
     refine lf ?_;exact ⟨_,H,wb [some 9017,some 9018,some 9019]⟩
    rintro t H
    try dsimp only at H
    unfold bq7 at H;refine Sm.st (ck7.eq_1 ..) ?_;obtain ⟨hg18,H⟩:=aj3 H;refine eA ?_;refine lf ?_;exact ⟨_,H,wb [some 9009,some 1312]⟩
   rintro out_2 H
   try dsimp only at H
   unfold bjt at H;refine Sm.st (cwv.eq_1 ..) ?_;refine eA ?_;refine lf ?_;exact nx H (wb [some 9007,some 9008])
  refine jT (lf ?_);refine lx H fun hyy=>?_;subst hyy;have H:=Ho13
  try dsimp only at H
  refine lf ?_;exact ⟨_,H,wb [some 9006]⟩
 rintro out H
 try dsimp only at H
 unfold bki at H;refine Sm.st (ck4.eq_1 ..) ?_;refine rA ?_;refine jv (lf ?_);obtain rfl:=sI H;exact rto [some 9002]
def bqm (n:Nat) (a:TRec) (b:TRec):Option Bool :=
 bif (if (a.R == b.R)=true then (a.Bad == b.Bad) else false) then
  gd ((if (a.R == b.R)=true then (a.Bad == b.Bad) else false)=true) <|
  bif ((awk a.Key) == (awk b.Key)) then
   gd (((awk a.Key) == (awk b.Key))=true) <|
   some ((awk a.Data) == (awk b.Data))
  else
   some false
 else
  some false
def djm (n:Nat):Go.AE.Fn:=mkFn (A:=TRec×TRec) (R:=Bool) 129 [(true,[.int .i64,.slice 5,.slice 5,.bool]),(true,[.int .i64,.slice 5,.slice 5,.bool])] false (fun xs=>((⟨(cg (xs.getD 0 []) 0).toInt,((cg (xs.getD 0 []) 1).toSl.map akn),((cg (xs.getD 0 []) 2).toSl.map akn),(cg (xs.getD 0 []) 3).toBool⟩:TRec),(⟨(cg (xs.getD 1 []) 0).toInt,((cg (xs.getD 1 []) 1).toSl.map akn),((cg (xs.getD 1 []) 2).toSl.map akn),(cg (xs.getD 1 []) 3).toBool⟩:TRec))) (fun a=>[[.int a.1.R,.slice (List.map ajj a.1.Key),.slice (List.map ajj a.1.Data),.bool a.1.Bad],[.int a.2.R,.slice (List.map ajj a.2.Key),.slice (List.map ajj a.2.Data),.bool a.2.Bad]]) (fun a=>bqm n a.1 a.2) (fun r=>[.c .bool (.bool r)]) (fun r=>[])
theorem ezc (n:Nat):aj1 jd (djm n):=by
 have hΓ:=@g0 (aj1 jd);refine cF (Tryz.f129.body.getD .skip) Tryz.func129 rfl Tryz.call129 ?_;rintro ⟨a,b⟩ r H
 try dsimp only at H
 unfold bqm at H;simp only [Tryz.f129,jr];refine rA ?_;refine sX fun K2 hK2=>?_
 iterate 15 refine oX ?_
 refine ak7 H (fun hs3 H=>?_) (fun hs3 H=>?_)
 ·obtain ⟨hg4,H⟩:=aj3 H;have q:=hs3;refine oTE awz ?_;refine oTG ?_;refine oTG ?_;refine oTE awz ?_;refine oTG ?_;refine oPl ?_
  iterate 3 refine oXq ?_
  refine ak7 H (fun hs5 H=>?_) (fun hs5 H=>?_)
  ·try simp only [z,seval,hs3] at hs5
   obtain ⟨hg6,H⟩:=aj3 H;have q:=aI hs3 hs5;refine oTE awz ?_;refine oTG ?_;refine oTG ?_;refine oTE awz ?_;refine oTG ?_;refine oPl ?_;refine oXq ?_;refine hK2 _ (jv (lf ?_));obtain rfl:=sI H;exact rt []
  try simp only [z,seval,hs3] at hs5
  have q:=aI hs3 hs5;refine oFq ?_;refine oFq ?_;refine oFq ?_;refine oFq ?_;refine oFq ?_;refine oPr ?_;refine oXq ?_;refine hK2 _ (jv (lf ?_));obtain rfl:=sI H;exact rt []
 have q:=hs3;refine oFq ?_;refine oFq ?_;refine oFq ?_;refine oFq ?_;refine oFq ?_;refine oPr ?_;refine oXq ?_;refine oFq ?_;refine oFq ?_;refine oFq ?_;refine oFq ?_;refine oFq ?_;refine oFq ?_;refine oFq ?_;refine oPr ?_;refine oXq ?_;refine hK2 _ (jv (lf ?_));obtain rfl:=sI H;exact rt []
abbrev dwf:S:=stB [] []
def bzq (n:Nat):Option Bool :=
 some true
abbrev dwk (a:List TRec) (b:List TRec) (i:Int):S:=stB [(0,.c (.slice 87) (.slice (List.map ajr a))),(1,.c (.slice 87) (.slice (List.map ajr b))),(5,.c (.int .i64) (.int i))] []
def bqo (n:Nat) (a:List TRec) (b:List TRec) (i:Int):Option ((Int) ⊕ (((Bool) ⊕ (Unit)))) :=
 bif (decide (i < (a.length:Int))) then
  gd ((0≤i∧i < (a.length:Int))∧(0≤i∧i < (b.length:Int))) <|
  (bqm n (gt a (Int.toNat i)) (gt b (Int.toNat i))).bind fun r1 =>
  bif (!r1) then
   some (.inr (.inl false))
  else
   some (.inl (ja .i64 (i+1)))
 else
  some (.inr (.inr ()))
def cjk (n:Nat) (a:List TRec) (b:List TRec):Option Bool :=
 bif ((a.length:Int) != (b.length:Int)) then
  some false
 else
  (ajg (fun (x:Int)=>bqo n a b x) n 0).bind fun y8 =>
  match y8 with
  | .inl vv =>
   some vv
  | .inr vv =>
   bzq n
def ewh (n:Nat):Go.AE.Fn:=mkFn (A:=(List TRec)×(List TRec)) (R:=Bool) 75 [(false,[.slice 87]),(false,[.slice 87])] false (fun xs=>(((cg (xs.getD 0 []) 0).toSl.map bqx),((cg (xs.getD 1 []) 0).toSl.map bqx))) (fun a=>[[.slice (List.map ajr a.1)],[.slice (List.map ajr a.2)]]) (fun a=>cjk n a.1 a.2) (fun r=>[.c .bool (.bool r)]) (fun r=>[])
theorem fky (n:Nat):aj1 jd (ewh n):=by
 have hΓ:=g1 (ezc n) (@g0 (aj1 jd));refine cF (Tryz.f75.body.getD .skip) Tryz.func75 rfl Tryz.call75 ?_;rintro ⟨a,b⟩ r H
 try dsimp only at H
 unfold cjk at H;simp only [Tryz.f75,jr];refine rA ?_;refine jn fun K2 hK2=>?_;refine rA ?_;refine cnd H (fun h4 H=>?_) (fun h4 H=>?_)
 ·refine rA ?_;refine jv (lf ?_);obtain rfl:=sI H;exact rt []
 refine jp (hK2 _ ?_);refine jU (fun (x:Unit)=>dwf) (fun x=>bzq n=some r) ?_ ?_
 ·refine rA ?_;refine js ?_;obtain ⟨y8,hy8,Ho8⟩:=bind_some H;refine jO _ (fun x=>dwk a b x) hy8 (wb []) ?_;rintro i z8 H
  try dsimp only at H
  unfold bqo at H;refine Sm.st (dwk.eq_1 ..) ?_;refine jn fun K9 hK9=>?_;refine rA ?_;refine cnd H (fun h11 H=>?_) (fun h11 H=>?_)
  ·refine jp (hK9 _ (jn fun K12 hK12=>js ?_));obtain ⟨⟨hg16,hg17⟩,H⟩:=aj3 H;obtain ⟨r1,hr1,H⟩:=bind_some H;have q:=aI @djm.eq_1 hr1;refine rDq ?_;refine cnd H (fun h14 H=>?_) (fun h14 H=>?_)
   ·refine rA ?_;refine jv (lf ?_);refine lx H fun hyy=>?_;subst hyy;have H:=Ho8
    try dsimp only at H
    refine lf ?_;obtain rfl:=sI H;exact rt []
   refine jp (hK12 _ ?_);refine eA ?_;refine lf ?_;exact nx H (wb [])
  refine jT (lf ?_);refine lx H fun hyy=>?_;subst hyy;have H:=Ho8
  try dsimp only at H
  refine lf ?_;exact ⟨(),H,wb []⟩
 rintro ⟨⟩ H
 try dsimp only at H
 unfold bzq at H;refine Sm.st (dwf.eq_1 ..) ?_;refine rA ?_;refine jv (lf ?_);obtain rfl:=sI H;exact rt []
abbrev bkt:S:=stB [] []
def ak3 (n:Nat):Option Bool :=
 some true
abbrev bk7 (a:List (List TRec)) (b:List (List TRec)) (i:Int):S:=stB [(0,.c (.slice 84) (.slice (List.map ajh a))),(1,.c (.slice 84) (.slice (List.map ajh b))),(5,.c (.int .i64) (.int i))] []
def awi (n:Nat) (a:List (List TRec)) (b:List (List TRec)) (i:Int):Option ((Int) ⊕ (((Bool) ⊕ (Unit)))) :=
 bif (decide (i < (a.length:Int))) then
  gd ((0≤i∧i < (a.length:Int))∧(0≤i∧i < (b.length:Int))) <|
  (cjk n (gt a (Int.toNat i)) (gt b (Int.toNat i))).bind fun r1 =>
  bif (!r1) then
   some (.inr (.inl false))
  else
   some (.inl (ja .i64 (i+1)))
 else
  some (.inr (.inr ()))
def awv (n:Nat) (a:List (List TRec)) (b:List (List TRec)):Option Bool :=
 bif ((a.length:Int) != (b.length:Int)) then
  some false
 else
  (ajg (fun (x:Int)=>awi n a b x) n 0).bind fun y8 =>
  match y8 with
  | .inl vv =>
   some vv
  | .inr vv =>
   ak3 n
def bw6 (n:Nat):Go.AE.Fn:=mkFn (A:=(List (List TRec))×(List (List TRec))) (R:=Bool) 32 [(false,[.slice 84]),(false,[.slice 84])] false (fun xs=>(((cg (xs.getD 0 []) 0).toSl.map bje),((cg (xs.getD 1 []) 0).toSl.map bje))) (fun a=>[[.slice (List.map ajh a.1)],[.slice (List.map ajh a.2)]]) (fun a=>awv n a.1 a.2) (fun r=>[.c .bool (.bool r)]) (fun r=>[])
theorem cja (n:Nat):aj1 jd (bw6 n):=by
 have hΓ:=g1 (fky n) (@g0 (aj1 jd));refine cF (Tryz.f32.body.getD .skip) Tryz.func32 rfl Tryz.call32 ?_;rintro ⟨a,b⟩ r H
 try dsimp only at H
 unfold awv at H;simp only [Tryz.f32,jr];refine rA ?_;refine jn fun K2 hK2=>?_;refine rA ?_;refine cnd H (fun h4 H=>?_) (fun h4 H=>?_)
 ·refine rA ?_;refine jv (lf ?_);obtain rfl:=sI H;exact rt []
 refine jp (hK2 _ ?_);refine jU (fun (x:Unit)=>bkt) (fun x=>ak3 n=some r) ?_ ?_
 ·refine rA ?_;refine js ?_;obtain ⟨y8,hy8,Ho8⟩:=bind_some H;refine jO _ (fun x=>bk7 a b x) hy8 (wb []) ?_;rintro i z8 H
  try dsimp only at H
  unfold awi at H;refine Sm.st (bk7.eq_1 ..) ?_;refine jn fun K9 hK9=>?_;refine rA ?_;refine cnd H (fun h11 H=>?_) (fun h11 H=>?_)
  ·refine jp (hK9 _ (jn fun K12 hK12=>js ?_));obtain ⟨⟨hg16,hg17⟩,H⟩:=aj3 H;obtain ⟨r1,hr1,H⟩:=bind_some H;have q:=aI @ewh.eq_1 hr1;refine rDq ?_;refine cnd H (fun h14 H=>?_) (fun h14 H=>?_)
   ·refine rA ?_;refine jv (lf ?_);refine lx H fun hyy=>?_;subst hyy;have H:=Ho8
    try dsimp only at H
    refine lf ?_;obtain rfl:=sI H;exact rt []
   refine jp (hK12 _ ?_);refine eA ?_;refine lf ?_;exact nx H (wb [])
  refine jT (lf ?_);refine lx H fun hyy=>?_;subst hyy;have H:=Ho8
  try dsimp only at H
  refine lf ?_;exact ⟨(),H,wb []⟩
 rintro ⟨⟩ H
 try dsimp only at H
 unfold ak3 at H;refine Sm.st (bkt.eq_1 ..) ?_;refine rA ?_;refine jv (lf ?_);obtain rfl:=sI H;exact rt []
abbrev dyq (v2:List Bool) (out:List Bool):S:=stB [(2,.elt 9000 1 [.bool] 0 0),(3,.elt 9001 1 [.bool] 0 0)] [(9000,.row 4 (List.map ak1 v2)),(9001,.row 4 (List.map ak1 out))]
def czx (n:Nat) (v2:List Bool) (out:List Bool):Option (List Bool) :=
 gd (out.length=512∧v2.length=512) <|
 gd (out.length=512) <|
 some out
abbrev dyo (v2_1:List Bool) (t:List Int) (out_1:List Bool) (i:Int):S:=stB [(2,.elt 9005 1 [.bool] 0 0),(3,.elt 9006 1 [.bool] 0 0),(4,.own 9007 [.int .i64] 0 t.length),(6,.c (.int .i64) (.int i))] [(9005,.row 4 (List.map ak1 v2_1)),(9006,.row 4 (List.map ak1 out_1)),(9007,.row 3 (List.map ajj t))]
def dks (n:Nat) (v2_1:List Bool) (t:List Int) (out_1:List Bool) (i:Int):Option (((List Bool)×Int) ⊕ (((List Bool)))) :=
 bif (decide (i < ((t.length:Nat):Int))) then
  gd ((0≤i∧i < (t.length:Int))∧(Int.toNat i) < t.length∧(0≤(gt t (Int.toNat i))∧(gt t (Int.toNat i)) < 512∧out_1.length=512)∧(Int.toNat (gt t (Int.toNat i))) < out_1.length) <|
  some (.inl ((List.set out_1 (Int.toNat (gt t (Int.toNat i))) true),(ja .i64 (i+1))))
 else
  some (.inr out_1)
def ewv (n:Nat) (l:List aj0):Option (List Bool) :=
 (azz n l).bind fun r1 =>
 (ajg (fun (x:(List Bool)×Int)=>dks n (aw0 512 false) r1.1 x.1 x.2) n ((aw0 512 false),0)).bind fun y8 =>
 czx n (aw0 512 false) y8
def ek9 (n:Nat):Go.AE.Fn:=mkFn (A:=(List aj0)) (R:=(List Bool)) 130 [(false,[.slice 80])] true (fun xs=>((cg (xs.getD 0 []) 0).toSl.map ajl)) (fun a=>[[.slice (List.map aj2 a)]]) (fun a=>ewv n a) (fun r=>[.c (.arr 159) (.slice (List.map ak1 r))]) (fun r=>[])
theorem gww (n:Nat):aj1 jd (ek9 n):=by
 have hΓ:=g1 (cjt n) (@g0 (aj1 jd));refine aj5 (Tryz.f130.body.getD .skip) h00 Tryz.func130 rfl Tryz.call130 (by decide) (by intro h;cases h) ?_;rintro l r H
 try dsimp only at H
 unfold ewv at H;simp only [Tryz.f130,jr];refine sX fun K1 hK1=>?_;refine oY ?_;refine hK1 _ ?_;refine sX fun K2 hK2=>?_;refine oY ?_;refine hK2 _ ?_;obtain ⟨r1,hr1,H⟩:=bind_some H;have q:=aI @bzl.eq_1 hr1;refine rAq ?_;refine jU (fun (x:(List Bool)×(List Bool))=>dyq x.1 x.2) (fun x=>czx n x.1 x.2=some r) ?_ ?_
 ·refine rA ?_;refine js ?_;obtain ⟨y8,hy8,Ho8⟩:=bind_some H;refine jO _ (fun x=>dyo (aw0 512 false) r1.1 x.1 x.2) hy8 (wb [some 32,some 48,some 144]) ?_;rintro ⟨out_1,i⟩ z8 H
  try dsimp only at H
  unfold dks at H;refine Sm.st (dyo.eq_1 ..) ?_;refine jn fun K9 hK9=>?_;refine rA ?_;refine cnd H (fun h11 H=>?_) (fun h11 H=>?_)
  ·refine jp (hK9 _ (jn fun K12 hK12=>js ?_));obtain ⟨⟨hg13,hg14,hg15,hg16⟩,H⟩:=aj3 H;refine eA ?_;refine hK12 _ ?_;refine eA ?_;refine lf ?_;exact nx H (wb [some 9005,some 9006,some 9007])
  refine jT (lf ?_);refine lx H fun hyy=>?_;subst hyy;have H:=Ho8
  try dsimp only at H
  refine lf ?_;exact ⟨((aw0 512 false),out_1),H,wb [some 9005,some 9006]⟩
 rintro ⟨v2,out⟩ H
 try dsimp only at H
 unfold czx at H;refine Sm.st (dyq.eq_1 ..) ?_;refine sX fun K4 hK4=>?_;obtain ⟨⟨hg5,hg6⟩,H⟩:=aj3 H
 iterate 2 refine oY ?_
 refine hK4 _ (jv (lf ?_));obtain ⟨hga,H⟩:=aj3 H;obtain rfl:=sI H;refine Ret.ofR [] (.inr rfl) ?_;simp only [z,seval]
 (repeat (first | refine gcI ?_ | trivial));try trivial
abbrev ck5 (out:List aj0):S:=stB [(3,.own 9000 [.int .i64,.int .i64] 0 out.length)] [(9000,.row 80 (List.map aj2 out))]
def bk8 (n:Nat) (out:List aj0):Option (List aj0) :=
 some out
abbrev ck9 (in_:List Bool) (out_2:List aj0) (k:Int):S:=stB [(1,.elt 9006 1 [.bool] 0 0),(3,.own 9007 [.int .i64,.int .i64] 0 out_2.length),(4,.c (.int .i64) (.int k))] [(9006,.row 4 (List.map ak1 in_)),(9007,.row 80 (List.map aj2 out_2))]
def ako (n:Nat) (in_:List Bool) (out_2:List aj0) (k:Int):Option (((List aj0)×Int) ⊕ (((List aj0)))) :=
 some (.inl (out_2,(ja .i64 (k+1))))
abbrev cwc (in_:List Bool) (out_1:List aj0) (k:Int):S:=stB [(1,.elt 9004 1 [.bool] 0 0),(3,.own 9005 [.int .i64,.int .i64] 0 out_1.length),(4,.c (.int .i64) (.int k))] [(9004,.row 4 (List.map ak1 in_)),(9005,.row 80 (List.map aj2 out_1))]
def cz4 (n:Nat) (in_:List Bool) (out_1:List aj0) (k:Int):Option (((List aj0)×Int) ⊕ (((List aj0)))) :=
 bif (decide (k < 512)) then
  gd ((0≤k∧k < 512∧in_.length=512)∧(Int.toNat k) < in_.length) <|
  bif (!(gt in_ (Int.toNat k))) then
   ako n in_ out_1 k
  else
   gd (((decide (((out_1.length:Nat):Int) > 0))=true→(0≤(ja .i64 (((out_1.length:Nat):Int) - 1))∧(ja .i64 (((out_1.length:Nat):Int) - 1)) < (out_1.length:Int)))∧((decide (((out_1.length:Nat):Int) > 0))=true→(Int.toNat (ja .i64 (((out_1.length:Nat):Int) - 1))) < out_1.length)∧((decide (((out_1.length:Nat):Int) > 0))=true→(0≤(ja .i64 (((out_1.length:Nat):Int) - 1))∧(ja .i64 (((out_1.length:Nat):Int) - 1)) < (out_1.length:Int)))∧((decide (((out_1.length:Nat):Int) > 0))=true→(Int.toNat (ja .i64 (((out_1.length:Nat):Int) - 1))) < out_1.length)) <|
   bif (if (decide (((out_1.length:Nat):Int) > 0))=true then ((ja .i64 (((gt out_1 (Int.toNat (ja .i64 (((out_1.length:Nat):Int) - 1)))).At)+((gt out_1 (Int.toNat (ja .i64 (((out_1.length:Nat):Int) - 1)))).Len))) == k) else false) then
    gd ((0≤(ja .i64 (((out_1.length:Nat):Int) - 1))∧(ja .i64 (((out_1.length:Nat):Int) - 1)) < (out_1.length:Int))∧(Int.toNat (ja .i64 (((out_1.length:Nat):Int) - 1))) < out_1.length∧(0≤(ja .i64 (((out_1.length:Nat):Int) - 1))∧(ja .i64 (((out_1.length:Nat):Int) - 1)) < (out_1.length:Int))∧(Int.toNat (ja .i64 (((out_1.length:Nat):Int) - 1))) < out_1.length) <|
    ako n in_ (List.set out_1 (Int.toNat (ja .i64 (((out_1.length:Nat):Int) - 1))) (⟨(gt out_1 (Int.toNat (ja .i64 (((out_1.length:Nat):Int) - 1)))).At,(ja .i64 (((gt out_1 (Int.toNat (ja .i64 (((out_1.length:Nat):Int) - 1)))).Len)+1))⟩:aj0)) k
   else
    gd ((out_1.length+1)≤2147483648) <|
    ako n in_ (out_1 ++ [(⟨k,1⟩:aj0)]) k
 else
  some (.inr out_1)
def cwl (n:Nat) (in_:List Bool):Option (List aj0) :=
 (ajg (fun (x:(List aj0)×Int)=>cz4 n in_ x.1 x.2) n ([],0)).bind fun y5 =>
 bk8 n y5
def dz1 (n:Nat):Go.AE.Fn:=mkFn (A:=(List Bool)) (R:=(List aj0)) 131 [(false,[.arr 159])] false (fun xs=>((cg (xs.getD 0 []) 0).toSl.map fwr)) (fun a=>[[.slice (List.map ak1 a)]]) (fun a=>cwl n a) (fun r=>[.own 0 [.int .i64,.int .i64] 0 r.length]) (fun r=>[.row 80 (List.map aj2 r)])
theorem eyp (n:Nat):aj1 jd (dz1 n):=by
 have hΓ:=@g0 (aj1 jd);refine aj5 (Tryz.f131.body.getD .skip) h00 Tryz.func131 rfl Tryz.call131 (by decide) (fun _ r=>⟨rfl,m1 ⟨80,_,_,rfl,ty80,rfl⟩ m0⟩) ?_;rintro in_ r H
 try dsimp only at H
 unfold cwl at H;simp only [Tryz.f131,jr];refine sX fun K1 hK1=>?_;refine oY ?_;refine oX ?_;refine hK1 _ ?_;refine rA ?_;refine jU (fun (x:(List aj0))=>ck5 x) (fun x=>bk8 n x=some r) ?_ ?_
 ·refine rA ?_;refine js ?_;obtain ⟨y5,hy5,Ho5⟩:=bind_some H;refine jO _ (fun x=>cwc in_ x.1 x.2) hy5 (wb [some 16,none]) ?_;rintro ⟨out_1,k⟩ z5 H
  try dsimp only at H
  unfold cz4 at H;refine Sm.st (cwc.eq_1 ..) ?_;refine jn fun K6 hK6=>?_;refine rA ?_;refine cnd H (fun h8 H=>?_) (fun h8 H=>?_)
  ·refine jp (hK6 _ ?_);refine jU (fun (x:(List aj0))=>ck9 in_ x k) (fun x=>ako n in_ x k=some z5) ?_ ?_
   ·refine js (jn fun K9 hK9=>?_);obtain ⟨⟨hg24,hg25⟩,H⟩:=aj3 H;refine rA ?_;refine cnd H (fun h11 H=>?_) (fun h11 H=>?_)
    ·refine jT (lf ?_);exact ⟨_,H,wb [some 9004,some 9005]⟩
    refine jp (hK9 _ ?_);refine rA ?_;obtain ⟨⟨hg20,hg21,hg22,hg23⟩,H⟩:=aj3 H;refine rD ?_;refine cnd H (fun h14 H=>?_) (fun h14 H=>?_)
    ·obtain ⟨⟨hg15,hg16,hg17,hg18⟩,H⟩:=aj3 H;refine eA ?_;refine lf ?_;exact ⟨_,H,wb [some 9004,some 9005]⟩
    obtain ⟨hg19,H⟩:=aj3 H;refine eA ?_;refine lf ?_;exact ⟨_,H,wb [some 9004,some 768]⟩
   rintro out_2 H
   try dsimp only at H
   unfold ako at H;refine Sm.st (ck9.eq_1 ..) ?_;refine eA ?_;refine lf ?_;exact nx H (wb [some 9006,some 9007])
  refine jT (lf ?_);refine lx H fun hyy=>?_;subst hyy;have H:=Ho5
  try dsimp only at H
  refine lf ?_;exact ⟨_,H,wb [some 9005]⟩
 rintro out H
 try dsimp only at H
 unfold bk8 at H;refine Sm.st (ck5.eq_1 ..) ?_;refine rA ?_;refine jv (lf ?_);obtain rfl:=sI H;exact rto [some 9000]
abbrev dwu (out:List Bool):S:=stB [(6,.elt 9000 1 [.bool] 0 0)] [(9000,.row 4 (List.map ak1 out))]
def cqc (n:Nat) (out:List Bool):Option (List aj0) :=
 gd (out.length=512) <|
 (cwl n out).bind fun r3 =>
 some r3
abbrev dze (n_:Int) (in_:List Bool) (out_1:List Bool) (k:Int):S:=stB [(1,.c (.int .i64) (.int n_)),(5,.elt 9003 1 [.bool] 0 0),(6,.elt 9004 1 [.bool] 0 0),(7,.c (.int .i64) (.int k))] [(9003,.row 4 (List.map ak1 in_)),(9004,.row 4 (List.map ak1 out_1))]
def dz3 (n:Nat) (n_:Int) (in_:List Bool) (out_1:List Bool) (k:Int):Option (((List Bool)×Int) ⊕ (((List Bool)))) :=
 bif (decide (k < n_)) then
  gd ((0≤k∧k < 512∧in_.length=512)∧(Int.toNat k) < in_.length∧(0≤k∧k < 512∧out_1.length=512)∧(Int.toNat k) < out_1.length) <|
  some (.inl ((List.set out_1 (Int.toNat k) (!(gt in_ (Int.toNat k)))),(ja .i64 (k+1))))
 else
  some (.inr out_1)
def dkd (n:Nat) (used:List aj0) (n_:Int):Option (List aj0) :=
 (az5 n used).bind fun r1 =>
 bif (if (if (!r1)=true then true else (decide (n_ < 0)))=true then true else (decide (n_ > 512))) then
  some []
 else
  (ewv n used).bind fun r2 =>
  gd (512=512) <|
  (ajg (fun (x:(List Bool)×Int)=>dz3 n n_ r2 x.1 x.2) n ((aw0 512 false),0)).bind fun y12 =>
  cqc n y12
def eqt (n:Nat):Go.AE.Fn:=mkFn (A:=(List aj0)×Int) (R:=(List aj0)) 77 [(false,[.slice 80]),(false,[.int .i64])] false (fun xs=>(((cg (xs.getD 0 []) 0).toSl.map ajl),(cg (xs.getD 1 []) 0).toInt)) (fun a=>[[.slice (List.map aj2 a.1)],[.int a.2]]) (fun a=>dkd n a.1 a.2) (fun r=>[.own 0 [.int .i64,.int .i64] 0 r.length]) (fun r=>[.row 80 (List.map aj2 r)])
theorem fk2 (n:Nat):aj1 jd (eqt n):=by
 have hΓ:=g1 (cz0 n) (g1 (gww n) (g1 (eyp n) (@g0 (aj1 jd))));have qe:=aI @bkz.eq_1 (aI @ek9.eq_1 @dz1.eq_1);refine aj5 (Tryz.f77.body.getD .skip) h00 Tryz.func77 rfl Tryz.call77 (by decide) (fun _ r=>⟨rfl,m1 ⟨80,_,_,rfl,ty80,rfl⟩ m0⟩) ?_;rintro ⟨used,n_⟩ r H
 try dsimp only at H
 unfold dkd at H;simp only [Tryz.f77,jr];refine rA ?_;refine jn fun K2 hK2=>?_;obtain ⟨r1,hr1,H⟩:=bind_some H;have q:=aI qe hr1;refine rAq ?_;refine cnd H (fun h4 H=>?_) (fun h4 H=>?_)
 ·refine rA ?_;refine jv (lf ?_);obtain rfl:=sI H;exact rto [none]
 refine jp (hK2 _ ?_);refine sX fun K6 hK6=>?_;obtain ⟨r2,hr2,H⟩:=bind_some H;obtain ⟨hg7,H⟩:=aj3 H;have q:=aI qe hr2
 iterate 2 refine oXq ?_
 iterate 2 refine oYq ?_
 refine hK6 _ ?_;refine sX fun K8 hK8=>?_;refine oY ?_;refine hK8 _ ?_;refine jU (fun (x:(List Bool))=>dwu x) (fun x=>cqc n x=some r) ?_ ?_
 ·refine rA ?_;refine js ?_;obtain ⟨y12,hy12,Ho12⟩:=bind_some H;refine jO _ (fun x=>dze n_ r2 x.1 x.2) hy12 (wb [some 80,some 96]) ?_;rintro ⟨out_1,k⟩ z12 H
  try dsimp only at H
  unfold dz3 at H;refine Sm.st (dze.eq_1 ..) ?_;refine jn fun K13 hK13=>?_;refine rA ?_;refine cnd H (fun h15 H=>?_) (fun h15 H=>?_)
  ·refine jp (hK13 _ (jn fun K16 hK16=>js ?_));obtain ⟨⟨hg17,hg18,hg19,hg20⟩,H⟩:=aj3 H;refine eA ?_;refine hK16 _ ?_;refine eA ?_;refine lf ?_;exact nx H (wb [some 9003,some 9004])
  refine jT (lf ?_);refine lx H fun hyy=>?_;subst hyy;have H:=Ho12
  try dsimp only at H
  refine lf ?_;exact ⟨_,H,wb [some 9004]⟩
 rintro out H
 try dsimp only at H
 unfold cqc at H;refine Sm.st (dwu.eq_1 ..) ?_;refine sX fun K9 hK9=>?_;obtain ⟨hg10,H⟩:=aj3 H;obtain ⟨r3,hr3,H⟩:=bind_some H;have q:=aI qe hr3;refine oYq ?_
 iterate 2 refine oXq ?_
 refine hK9 _ (jv (lf ?_));obtain rfl:=sI H;exact rto [some 528]
def dke (n:Nat) (v:aja):Option (List aj0) :=
 (bjg n v).bind fun r1 =>
 bif (!r1) then
  some []
 else
  (cji n v).bind fun r2 =>
  gd ((r2.length+1)≤2147483648) <|
  (dkd n (r2 ++ [(⟨0,(ja .i64 (v.Size+1))⟩:aj0)]) (ja .i64 (v.Cyls * v.Heads))).bind fun r3 =>
  some r3
def ejv (n:Nat):Go.AE.Fn:=mkFn (A:=aja) (R:=(List aj0)) 35 [(true,[.str,.int .i64,.int .i64,.int .i64,.slice 41])] false (fun xs=>(⟨(cg (xs.getD 0 []) 0).toStr,(cg (xs.getD 0 []) 1).toInt,(cg (xs.getD 0 []) 2).toInt,(cg (xs.getD 0 []) 3).toInt,((cg (xs.getD 0 []) 4).toSl.map awo)⟩:aja)) (fun a=>[[.str a.Serial,.int a.Cyls,.int a.Heads,.int a.Size,.slice (List.map aj6 a.Sets)]]) (fun a=>dke n a) (fun r=>[.own 0 [.int .i64,.int .i64] 0 r.length]) (fun r=>[.row 80 (List.map aj2 r)])
theorem fzr (n:Nat):aj1 jd (ejv n):=by
 have hΓ:=g1 (cwx n) (g1 (ezy n) (g1 (fk2 n) (@g0 (aj1 jd))));have qe:=aI @byc.eq_1 (aI @dk2.eq_1 @eqt.eq_1);refine aj5 (Tryz.f35.body.getD .skip) h00 Tryz.func35 rfl Tryz.call35 (by decide) (fun _ r=>⟨rfl,m1 ⟨80,_,_,rfl,ty80,rfl⟩ m0⟩) ?_;rintro v r H
 try dsimp only at H
 unfold dke at H;simp only [Tryz.f35,jr];refine rA ?_;refine jn fun K2 hK2=>?_;obtain ⟨r1,hr1,H⟩:=bind_some H;have q:=aI qe hr1;refine rAq ?_;refine cnd H (fun h4 H=>?_) (fun h4 H=>?_)
 ·refine rA ?_;refine jv (lf ?_);obtain rfl:=sI H;exact rto [none]
 refine jp (hK2 _ ?_);obtain ⟨r2,hr2,H⟩:=bind_some H;obtain ⟨hg7,H⟩:=aj3 H;obtain ⟨r3,hr3,H⟩:=bind_some H;refine sQ [0,1,2,3,4,5,6,7,8,9,10,11,12,13,14] [(none,[16],[]),(none,[],[127,126,125,124,123,122,121,120,119,118,117,116,115,114,113,112]),(none,[16],[]),(none,[16],[]),(none,[],[]),(none,[],[]),(none,[],[192]),(none,[112,192],[208,112]),(none,[16],[]),(none,[16],[]),(none,[16],[]),(none,[16],[]),(none,[],[]),(none,[208],[319,318,317,316,315,314,313,312,311,310,309,308,307,306,305,304,208]),(none,[],[])] fun K6 hK6=>?_;have q:=aI qe (aI hr2 hr3)
 iterate 15 refine oQq ?_
 refine byo ?_;refine hK6 _ (jv (lf ?_));obtain rfl:=sI H;exact rto [some 304]
abbrev dqx:S:=stB [] []
def cq5 (n:Nat):Option Bool :=
 some true
abbrev dqq (a:List aj0) (b:List aj0) (i:Int):S:=stB [(0,.c (.slice 80) (.slice (List.map aj2 a))),(1,.c (.slice 80) (.slice (List.map aj2 b))),(5,.c (.int .i64) (.int i))] []
def dwl (n:Nat) (a:List aj0) (b:List aj0) (i:Int):Option ((Int) ⊕ (((Bool) ⊕ (Unit)))) :=
 bif (decide (i < (a.length:Int))) then
  gd ((0≤i∧i < (a.length:Int))∧(0≤i∧i < (b.length:Int))) <|
  bif (!((((gt a (Int.toNat i)).At) == ((gt b (Int.toNat i)).At)) && (((gt a (Int.toNat i)).Len) == ((gt b (Int.toNat i)).Len)))) then
   some (.inr (.inl false))
  else
   some (.inl (ja .i64 (i+1)))
 else
  some (.inr (.inr ()))
def dka (n:Nat) (a:List aj0) (b:List aj0):Option Bool :=
 bif ((a.length:Int) != (b.length:Int)) then
  some false
 else
  (ajg (fun (x:Int)=>dwl n a b x) n 0).bind fun y8 =>
  match y8 with
  | .inl vv =>
   some vv
  | .inr vv =>
   cq5 n
def eqq (n:Nat):Go.AE.Fn:=mkFn (A:=(List aj0)×(List aj0)) (R:=Bool) 33 [(false,[.slice 80]),(false,[.slice 80])] false (fun xs=>(((cg (xs.getD 0 []) 0).toSl.map ajl),((cg (xs.getD 1 []) 0).toSl.map ajl))) (fun a=>[[.slice (List.map aj2 a.1)],[.slice (List.map aj2 a.2)]]) (fun a=>dka n a.1 a.2) (fun r=>[.c .bool (.bool r)]) (fun r=>[])
theorem fkx (n:Nat):aj1 jd (eqq n):=by
 have hΓ:=@g0 (aj1 jd);refine cF (Tryz.f33.body.getD .skip) Tryz.func33 rfl Tryz.call33 ?_;rintro ⟨a,b⟩ r H
 try dsimp only at H
 unfold dka at H;simp only [Tryz.f33,jr];refine rA ?_;refine jn fun K2 hK2=>?_;refine rA ?_;refine cnd H (fun h4 H=>?_) (fun h4 H=>?_)
 ·refine rA ?_;refine jv (lf ?_);obtain rfl:=sI H;exact rt []
 refine jp (hK2 _ ?_);refine jU (fun (x:Unit)=>dqx) (fun x=>cq5 n=some r) ?_ ?_
 ·refine rA ?_;refine js ?_;obtain ⟨y8,hy8,Ho8⟩:=bind_some H;refine jO _ (fun x=>dqq a b x) hy8 (wb []) ?_;rintro i z8 H
  try dsimp only at H
  unfold dwl at H;refine Sm.st (dqq.eq_1 ..) ?_;refine jn fun K9 hK9=>?_;refine rA ?_;refine cnd H (fun h11 H=>?_) (fun h11 H=>?_)
  ·refine jp (hK9 _ (jn fun K12 hK12=>js ?_));obtain ⟨⟨hg16,hg17⟩,H⟩:=aj3 H;refine rD ?_;refine cnd H (fun h14 H=>?_) (fun h14 H=>?_)
   ·refine rA ?_;refine jv (lf ?_);refine lx H fun hyy=>?_;subst hyy;have H:=Ho8
    try dsimp only at H
    refine lf ?_;obtain rfl:=sI H;exact rt []
   refine jp (hK12 _ ?_);refine eA ?_;refine lf ?_;exact nx H (wb [])
  refine jT (lf ?_);refine lx H fun hyy=>?_;subst hyy;have H:=Ho8
  try dsimp only at H
  refine lf ?_;exact ⟨(),H,wb []⟩
 rintro ⟨⟩ H
 try dsimp only at H
 unfold cq5 at H;refine Sm.st (dqx.eq_1 ..) ?_;refine rA ?_;refine jv (lf ?_);obtain rfl:=sI H;exact rt []
abbrev cqq:S:=stB [] []
def bj5 (n:Nat):Option Bool :=
 some true
abbrev cw4 (a:aj8) (b:aj8) (k:Int):S:=stB [(2,.box 9002 0),(3,.box 9003 0),(5,.c (.int .i64) (.int k))] [(9002,.box (cD a)),(9003,.box (cD b))]
def ak9 (n:Nat) (a:aj8) (b:aj8) (k:Int):Option ((Int) ⊕ (((Bool) ⊕ (Unit)))) :=
 bif (decide (k < (a.Extents.length:Int))) then
  gd ((0≤k∧k < (a.Extents.length:Int))∧(0≤k∧k < (b.Extents.length:Int))) <|
  bif (!((((gt a.Extents (Int.toNat k)).At) == ((gt b.Extents (Int.toNat k)).At)) && (((gt a.Extents (Int.toNat k)).Len) == ((gt b.Extents (Int.toNat k)).Len)))) then
   some (.inr (.inl false))
  else
   some (.inl (ja .i64 (k+1)))
 else
  some (.inr (.inr ()))
def bqg (n:Nat) (a:aj8) (b:aj8):Option Bool :=
 bif (if (if (if (a.Name != b.Name)=true then true else (!((a.Dcb.Org == b.Dcb.Org) && ((a.Dcb.Format == b.Dcb.Format) && ((a.Dcb.Blocked == b.Dcb.Blocked) && ((a.Dcb.Asa == b.Dcb.Asa) && ((a.Dcb.Lrecl == b.Dcb.Lrecl) && ((a.Dcb.Blksize == b.Dcb.Blksize) && ((a.Dcb.KeyLen == b.Dcb.KeyLen) && (a.Dcb.KeyPos == b.Dcb.KeyPos))))))))))=true then true else (a.Used != b.Used))=true then true else ((a.Extents.length:Int) != (b.Extents.length:Int))) then
  some false
 else
  (ajg (fun (x:Int)=>ak9 n a b x) n 0).bind fun y8 =>
  match y8 with
  | .inl vv =>
   some vv
  | .inr vv =>
   bj5 n
def dj3 (n:Nat):Go.AE.Fn:=mkFn (A:=aj8×aj8) (R:=Bool) 26 [(true,kD),(true,kD)] false (fun xs=>((⟨(cg (xs.getD 0 []) 0).toStr,(⟨(cg (xs.getD 0 []) 1).toInt,(cg (xs.getD 0 []) 2).toInt,(cg (xs.getD 0 []) 3).toBool,(cg (xs.getD 0 []) 4).toBool,(cg (xs.getD 0 []) 5).toInt,(cg (xs.getD 0 []) 6).toInt,(cg (xs.getD 0 []) 7).toInt,(cg (xs.getD 0 []) 8).toInt⟩:TDcb),((cg (xs.getD 0 []) 9).toSl.map ajl),(cg (xs.getD 0 []) 10).toInt⟩:aj8),(⟨(cg (xs.getD 1 []) 0).toStr,(⟨(cg (xs.getD 1 []) 1).toInt,(cg (xs.getD 1 []) 2).toInt,(cg (xs.getD 1 []) 3).toBool,(cg (xs.getD 1 []) 4).toBool,(cg (xs.getD 1 []) 5).toInt,(cg (xs.getD 1 []) 6).toInt,(cg (xs.getD 1 []) 7).toInt,(cg (xs.getD 1 []) 8).toInt⟩:TDcb),((cg (xs.getD 1 []) 9).toSl.map ajl),(cg (xs.getD 1 []) 10).toInt⟩:aj8))) (fun a=>[[.str a.1.Name,.int a.1.Dcb.Org,.int a.1.Dcb.Format,.bool a.1.Dcb.Blocked,.bool a.1.Dcb.Asa,.int a.1.Dcb.Lrecl,.int a.1.Dcb.Blksize,.int a.1.Dcb.KeyLen,.int a.1.Dcb.KeyPos,.slice (List.map aj2 a.1.Extents),.int a.1.Used],[.str a.2.Name,.int a.2.Dcb.Org,.int a.2.Dcb.Format,.bool a.2.Dcb.Blocked,.bool a.2.Dcb.Asa,.int a.2.Dcb.Lrecl,.int a.2.Dcb.Blksize,.int a.2.Dcb.KeyLen,.int a.2.Dcb.KeyPos,.slice (List.map aj2 a.2.Extents),.int a.2.Used]]) (fun a=>bqg n a.1 a.2) (fun r=>[.c .bool (.bool r)]) (fun r=>[])
theorem ezb (n:Nat):aj1 jd (dj3 n):=by
 have hΓ:=@g0 (aj1 jd);refine cF (Tryz.f26.body.getD .skip) Tryz.func26 rfl Tryz.call26 ?_;rintro ⟨a,b⟩ r H
 try dsimp only at H
 unfold bqg at H;simp only [Tryz.f26,jr];refine rA ?_;refine jn fun K2 hK2=>?_;refine rA ?_;refine cnd H (fun h4 H=>?_) (fun h4 H=>?_)
 ·refine rA ?_;refine jv (lf ?_);obtain rfl:=sI H;exact rt []
 refine jp (hK2 _ ?_);refine jU (fun (x:Unit)=>cqq) (fun x=>bj5 n=some r) ?_ ?_
 ·refine rA ?_;refine js ?_;obtain ⟨y8,hy8,Ho8⟩:=bind_some H;refine jO _ (fun x=>cw4 a b x) hy8 (wb [some 32,some 48]) ?_;rintro k z8 H
  try dsimp only at H
  unfold ak9 at H;refine Sm.st (cw4.eq_1 ..) ?_;refine jn fun K9 hK9=>?_;refine rA ?_;refine cnd H (fun h11 H=>?_) (fun h11 H=>?_)
  ·refine jp (hK9 _ (jn fun K12 hK12=>js ?_));obtain ⟨⟨hg16,hg17⟩,H⟩:=aj3 H;refine rD ?_;refine cnd H (fun h14 H=>?_) (fun h14 H=>?_)
   ·refine rA ?_;refine jv (lf ?_);refine lx H fun hyy=>?_;subst hyy;have H:=Ho8
    try dsimp only at H
    refine lf ?_;obtain rfl:=sI H;exact rt []
   refine jp (hK12 _ ?_);refine eA ?_;refine lf ?_;exact nx H (wb [some 9002,some 9003])
  refine jT (lf ?_);refine lx H fun hyy=>?_;subst hyy;have H:=Ho8
  try dsimp only at H
  refine lf ?_;exact ⟨(),H,wb []⟩
 rintro ⟨⟩ H
 try dsimp only at H
 unfold bj5 at H;refine Sm.st (cqq.eq_1 ..) ?_;refine rA ?_;refine jv (lf ?_);obtain rfl:=sI H;exact rt []
abbrev dzo:S:=stB [] []
def bzw (n:Nat):Option Bool :=
 some true
abbrev dqv (a:aja) (b:aja) (k:Int):S:=stB [(2,.box 9002 0),(3,.box 9003 0),(5,.c (.int .i64) (.int k))] [(9002,.box (cV a)),(9003,.box (cV b))]
def bq5 (n:Nat) (a:aja) (b:aja) (k:Int):Option ((Int) ⊕ (((Bool) ⊕ (Unit)))) :=
 bif (decide (k < (a.Sets.length:Int))) then
  gd ((0≤k∧k < (a.Sets.length:Int))∧(0≤k∧k < (b.Sets.length:Int))) <|
  (bqg n (gt a.Sets (Int.toNat k)) (gt b.Sets (Int.toNat k))).bind fun r1 =>
  bif (!r1) then
   some (.inr (.inl false))
  else
   some (.inl (ja .i64 (k+1)))
 else
  some (.inr (.inr ()))
def bk2 (n:Nat) (a:aja) (b:aja):Option Bool :=
 bif (if (if (if (if (a.Serial != b.Serial)=true then true else (a.Cyls != b.Cyls))=true then true else (a.Heads != b.Heads))=true then true else (a.Size != b.Size))=true then true else ((a.Sets.length:Int) != (b.Sets.length:Int))) then
  some false
 else
  (ajg (fun (x:Int)=>bq5 n a b x) n 0).bind fun y8 =>
  match y8 with
  | .inl vv =>
   some vv
  | .inr vv =>
   bzw n
def djr (n:Nat):Go.AE.Fn:=mkFn (A:=aja×aja) (R:=Bool) 19 [(true,[.str,.int .i64,.int .i64,.int .i64,.slice 41]),(true,[.str,.int .i64,.int .i64,.int .i64,.slice 41])] false (fun xs=>((⟨(cg (xs.getD 0 []) 0).toStr,(cg (xs.getD 0 []) 1).toInt,(cg (xs.getD 0 []) 2).toInt,(cg (xs.getD 0 []) 3).toInt,((cg (xs.getD 0 []) 4).toSl.map awo)⟩:aja),(⟨(cg (xs.getD 1 []) 0).toStr,(cg (xs.getD 1 []) 1).toInt,(cg (xs.getD 1 []) 2).toInt,(cg (xs.getD 1 []) 3).toInt,((cg (xs.getD 1 []) 4).toSl.map awo)⟩:aja))) (fun a=>[[.str a.1.Serial,.int a.1.Cyls,.int a.1.Heads,.int a.1.Size,.slice (List.map aj6 a.1.Sets)],[.str a.2.Serial,.int a.2.Cyls,.int a.2.Heads,.int a.2.Size,.slice (List.map aj6 a.2.Sets)]]) (fun a=>bk2 n a.1 a.2) (fun r=>[.c .bool (.bool r)]) (fun r=>[])
theorem eqz (n:Nat):aj1 jd (djr n):=by
 have hΓ:=g1 (ezb n) (@g0 (aj1 jd));refine cF (Tryz.f19.body.getD .skip) Tryz.func19 rfl Tryz.call19 ?_;rintro ⟨a,b⟩ r H
 try dsimp only at H
 unfold bk2 at H;simp only [Tryz.f19,jr];refine rA ?_;refine jn fun K2 hK2=>?_;refine rA ?_;refine cnd H (fun h4 H=>?_) (fun h4 H=>?_)
 ·refine rA ?_;refine jv (lf ?_);obtain rfl:=sI H;exact rt []
 refine jp (hK2 _ ?_);refine jU (fun (x:Unit)=>dzo) (fun x=>bzw n=some r) ?_ ?_
 ·refine rA ?_;refine js ?_;obtain ⟨y8,hy8,Ho8⟩:=bind_some H;refine jO _ (fun x=>dqv a b x) hy8 (wb [some 32,some 48]) ?_;rintro k z8 H
  try dsimp only at H
  unfold bq5 at H;refine Sm.st (dqv.eq_1 ..) ?_;refine jn fun K9 hK9=>?_;refine rA ?_;refine cnd H (fun h11 H=>?_) (fun h11 H=>?_)
  ·refine jp (hK9 _ (jn fun K12 hK12=>js ?_));obtain ⟨⟨hg16,hg17⟩,H⟩:=aj3 H;obtain ⟨r1,hr1,H⟩:=bind_some H;have q:=aI @dj3.eq_1 hr1;refine rDq ?_;refine cnd H (fun h14 H=>?_) (fun h14 H=>?_)
   ·refine rA ?_;refine jv (lf ?_);refine lx H fun hyy=>?_;subst hyy;have H:=Ho8
    try dsimp only at H
    refine lf ?_;obtain rfl:=sI H;exact rt []
   refine jp (hK12 _ ?_);refine eA ?_;refine lf ?_;exact nx H (wb [some 9002,some 9003])
  refine jT (lf ?_);refine lx H fun hyy=>?_;subst hyy;have H:=Ho8
  try dsimp only at H
  refine lf ?_;exact ⟨(),H,wb []⟩
 rintro ⟨⟩ H
 try dsimp only at H
 unfold bzw at H;refine Sm.st (dzo.eq_1 ..) ?_;refine rA ?_;refine jv (lf ?_);obtain rfl:=sI H;exact rt []
end Go.Proofs.YtijnkhcfondehaaGreatDoor
