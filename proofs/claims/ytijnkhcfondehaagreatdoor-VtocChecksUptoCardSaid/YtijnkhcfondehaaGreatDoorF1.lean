/- Text. -/
import Derived.Test.YtijnkhcfondehaaGreatDoorT
import Derived.Test.YtijnkhcfondehaaGreatDoorL166
import Derived.Test.YtijnkhcfondehaaGreatDoorN2
import Derived.Test.YtijnkhcfondehaaGreatDoorJ
set_option maxHeartbeats 8000000
set_option linter.unusedVariables false
set_option linter.unusedSimpArgs false
set_option maxRecDepth 100000
open _root_.Bool renaming not_false→jY,not_true→jQ,false_eq_true→jl
open Go.IntKind renaming wrap→jc,bits→j6
open _root_.Nat renaming le_of_ble_eq_true→Jg
open _root_.Option renaming getD→jt
open Go.AE.Sm renaming ret→jx,seqK→jp,skip→js,cut→j1,block→jw,loopB→jW,exit→jZ
open Go.Proofs.Tryz renaming prog→jd
namespace Go.Proofs.YtijnkhcfondehaaGreatDoor
open Go.AE
def ajx (n:Nat) (n_:Int) (lo:Int) (hi:Int):Option Bool :=
 some (if (decide (lo≤n_))=true then (decide (n_≤hi)) else false)
def ckr (n:Nat):Go.AE.Fn:=mkFn (A:=Int×Int×Int) (R:=Bool) 67 [(false,[.int .i64]),(false,[.int .i64]),(false,[.int .i64])] false (fun xs=>((cg (xs.getD 0 []) 0).toInt,(cg (xs.getD 1 []) 0).toInt,(cg (xs.getD 2 []) 0).toInt)) (fun a=>[[.int a.1],[.int a.2.1],[.int a.2.2]]) (fun a=>ajx n a.1 a.2.1 a.2.2) (fun r=>[.c .bool (.bool r)]) (fun r=>[])
theorem dz0 (n:Nat):aj1 jd (ckr n):=by
 have hΓ:=@g0 (aj1 jd)
 refine aj7 (Tryz.f67.body.getD .skip) h00 Tryz.func67 rfl Tryz.call67 (by decide) (by intro _ r;exact ⟨rfl,by simp⟩) ?_
 rintro ⟨n_,lo,hi⟩ r H
 try dsimp only at H
 unfold ajx at H
 simp only [Tryz.f67,jt]
 refine rA ?_
 refine rA ?_
 refine jx ?_
 refine lf ?_
 obtain rfl:=Option.some.inj H
 exact rt []
abbrev dwb:S:=stB [] []
def cq2 (n:Nat):Option Bool :=
 some true
abbrev dqv (v9:List (List UInt8)) (v10:Int) (v11:Int):S:=stB [(9,.own 9001 [.str] 0 v9.length),(10,.c (.int .i64) (.int v10)),(11,.c (.int .i64) (.int v11))] [(9001,.row 9 (List.map dja v9))]
def bqm (n:Nat) (v9:List (List UInt8)) (v10:Int) (v11:Int):Option ((Int) ⊕ (((Bool) ⊕ (Unit)))) :=
 bif (decide (v11 < v10)) then
  gd ((0≤v11∧v11 < (v9.length:Int))∧(Int.toNat v11) < v9.length) <|
  gd (((!(if (decide (((gt v9 (Int.toNat v11)).length:Int) < 1))=true then true else (decide (((gt v9 (Int.toNat v11)).length:Int) > 8))))=true→0 < ((gt v9 (Int.toNat v11)).length:Int))∧(((!(if (decide (((gt v9 (Int.toNat v11)).length:Int) < 1))=true then true else (decide (((gt v9 (Int.toNat v11)).length:Int) > 8)))) && (decide (((((gt v9 (Int.toNat v11)).getD 0 0).toNat:Nat):Int) ≥ 48)))=true→0 < ((gt v9 (Int.toNat v11)).length:Int))) <|
  bif (if (if (decide (((gt v9 (Int.toNat v11)).length:Int) < 1))=true then true else (decide (((gt v9 (Int.toNat v11)).length:Int) > 8)))=true then true else (if (decide (((((gt v9 (Int.toNat v11)).getD 0 0).toNat:Nat):Int) ≥ 48))=true then (decide (((((gt v9 (Int.toNat v11)).getD 0 0).toNat:Nat):Int)≤57)) else false)) then
   some (.inr (.inl false))
  else
   (aqe n (gt v9 (Int.toNat v11)) [65,66,67,68,69,70,71,72,73,74,75,76,77,78,79,80,81,82,83,84,85,86,87,88,89,90,48,49,50,51,52,53,54,55,56,57,64,35,36]).bind fun r2 =>
   bif (r2 != []) then
    some (.inr (.inl false))
   else
    some (.inl (jc .i64 (v11+1)))
 else
  some (.inr (.inr ()))
def bku (n:Nat) (s:List UInt8):Option Bool :=
 bif (decide ((s.length:Int) > 44)) then
  some false
 else
  (strings_Split n s [46]).bind fun r1 =>
  (aji (fun (x:Int)=>bqm n r1 ((r1.length:Nat):Int) x) n 0).bind fun y8 =>
  match y8 with
  | .inl vv =>
   some vv
  | .inr vv =>
   cq2 n
def djx (n:Nat):Go.AE.Fn:=mkFn (A:=(List UInt8)) (R:=Bool) 17 [(false,[.str])] false (fun xs=>(cg (xs.getD 0 []) 0).toStr) (fun a=>[[.str a]]) (fun a=>bku n a) (fun r=>[.c .bool (.bool r)]) (fun r=>[])
theorem ejw (n:Nat):aj1 jd (djx n):=by
 have hΓ:=g1 (dyd n) (g1 (cky n) (@g0 (aj1 jd)))
 have qe:=aI @bqd.eq_1 @akd.eq_1
 refine aj7 (Tryz.f17.body.getD .skip) h00 Tryz.func17 rfl Tryz.call17 (by decide) (by intro _ r;exact ⟨rfl,by simp⟩) ?_
 rintro s r H
 try dsimp only at H
 unfold bku at H
 simp only [Tryz.f17,jt]
 refine rA ?_
 refine jp fun K2 hK2=>?_
 refine rA ?_
 refine cnd H (fun h4 H=>?_) (fun h4 H=>?_)
 ·refine rA ?_
  refine jx ?_
  refine lf ?_
  obtain rfl:=Option.some.inj H
  exact rt []
 refine js ?_
 refine hK2 _ ?_
 refine j1 (fun (x:Unit)=>dwb) (fun x=>cq2 n=some r) ?_ ?_
 ·obtain ⟨r1,hr1,H⟩:=bind_some H
  have q:=aI qe hr1
  refine rAq ?_
  refine jw ?_
  obtain ⟨y8,hy8,Ho8⟩:=bind_some H
  refine jW _ (fun x=>dqv r1 ((r1.length:Nat):Int) x) hy8 (wb [some 144]) ?_
  rintro v11 z8 H
  try dsimp only at H
  unfold bqm at H
  refine Sm.st (dqv.eq_1 ..) ?_
  refine rA ?_
  refine jp fun K10 hK10=>?_
  refine cnd H (fun h11 H=>?_) (fun h11 H=>?_)
  ·refine js ?_
   refine hK10 _ ?_
   refine jp fun K12 hK12=>?_
   refine jw ?_
   obtain ⟨⟨hg23,hg24⟩,H⟩:=aj4 H
   refine rA ?_
   refine jp fun K14 hK14=>?_
   obtain ⟨⟨hg21,hg22⟩,H⟩:=aj4 H
   refine rA ?_
   refine cnd H (fun h16 H=>?_) (fun h16 H=>?_)
   ·refine rA ?_
    refine jx ?_
    refine lf ?_
    refine lx H fun hyy=>?_
    subst hyy
    have H:=Ho8
    try dsimp only at H
    refine lf ?_
    obtain rfl:=Option.some.inj H
    exact rt []
   refine js ?_
   refine hK14 _ ?_
   obtain ⟨r2,hr2,H⟩:=bind_some H
   have q:=aI qe hr2
   refine rAq ?_
   refine cnd H (fun h19 H=>?_) (fun h19 H=>?_)
   ·refine rA ?_
    refine jx ?_
    refine lf ?_
    refine lx H fun hyy=>?_
    subst hyy
    have H:=Ho8
    try dsimp only at H
    refine lf ?_
    obtain rfl:=Option.some.inj H
    exact rt []
   refine js ?_
   refine hK12 _ ?_
   refine eA ?_
   refine lf ?_
   exact nx H (wb [some 9001])
  refine jZ ?_
  refine lf ?_
  refine lx H fun hyy=>?_
  subst hyy
  have H:=Ho8
  try dsimp only at H
  refine lf ?_
  exact ⟨(),H,wb []⟩
 rintro ⟨⟩ H
 try dsimp only at H
 unfold cq2 at H
 refine Sm.st (dwb.eq_1 ..) ?_
 refine rA ?_
 refine jx ?_
 refine lf ?_
 obtain rfl:=Option.some.inj H
 exact rt []
def aq5 (n:Nat) (d:TDcb):Option Bool :=
 (ajx n d.Org 1 3).bind fun r1 =>
 gd ((r1=true→(ajx n d.Format 1 3).isSome=true)∧((if r1=true then ((ajx n d.Format 1 3).getD default) else false)=true→(ajx n d.Lrecl 0 1024).isSome=true)∧((if (if r1=true then ((ajx n d.Format 1 3).getD default) else false)=true then ((ajx n d.Lrecl 0 1024).getD default) else false)=true→(ajx n d.Blksize 0 1024).isSome=true)∧((if (if (if r1=true then ((ajx n d.Format 1 3).getD default) else false)=true then ((ajx n d.Lrecl 0 1024).getD default) else false)=true then ((ajx n d.Blksize 0 1024).getD default) else false)=true→(ajx n d.KeyPos 0 1024).isSome=true)∧((if (if (if (if r1=true then ((ajx n d.Format 1 3).getD default) else false)=true then ((ajx n d.Lrecl 0 1024).getD default) else false)=true then ((ajx n d.Blksize 0 1024).getD default) else false)=true then ((ajx n d.KeyPos 0 1024).getD default) else false)=true→(ajx n d.KeyLen 0 64).isSome=true)) <|
 some (if (if (if (if (if r1=true then ((ajx n d.Format 1 3).getD default) else false)=true then ((ajx n d.Lrecl 0 1024).getD default) else false)=true then ((ajx n d.Blksize 0 1024).getD default) else false)=true then ((ajx n d.KeyPos 0 1024).getD default) else false)=true then ((ajx n d.KeyLen 0 64).getD default) else false)
def bjj (n:Nat):Go.AE.Fn:=mkFn (A:=TDcb) (R:=Bool) 84 [(true,[.int .i64,.int .i64,.bool,.bool,.int .i64,.int .i64,.int .i64,.int .i64])] false (fun xs=>(⟨(cg (xs.getD 0 []) 0).toInt,(cg (xs.getD 0 []) 1).toInt,(cg (xs.getD 0 []) 2).toBool,(cg (xs.getD 0 []) 3).toBool,(cg (xs.getD 0 []) 4).toInt,(cg (xs.getD 0 []) 5).toInt,(cg (xs.getD 0 []) 6).toInt,(cg (xs.getD 0 []) 7).toInt⟩:TDcb)) (fun a=>[[.int a.Org,.int a.Format,.bool a.Blocked,.bool a.Asa,.int a.Lrecl,.int a.Blksize,.int a.KeyLen,.int a.KeyPos]]) (fun a=>aq5 n a) (fun r=>[.c .bool (.bool r)]) (fun r=>[])
theorem bz7 (n:Nat):aj1 jd (bjj n):=by
 have hΓ:=g1 (dz0 n) (@g0 (aj1 jd))
 refine aj7 (Tryz.f84.body.getD .skip) h00 Tryz.func84 rfl Tryz.call84 (by decide) (by intro _ r;exact ⟨rfl,by simp⟩) ?_
 rintro d r H
 try dsimp only at H
 unfold aq5 at H
 simp only [Tryz.f84,jt]
 refine rA ?_
 obtain ⟨r1,hr1,H⟩:=bind_some H
 obtain ⟨⟨hg3,hg4,hg5,hg6,hg7⟩,H⟩:=aj4 H
 have q:=aI @ckr.eq_1 hr1
 refine rAq ?_
 refine jx ?_
 refine lf ?_
 obtain rfl:=Option.some.inj H
 exact rt []
def ayw (n:Nat) (x_:aj0):Option Bool :=
 some (if (if (if (decide (x_.At ≥ 0))=true then (decide (x_.Len ≥ 1)) else false)=true then (decide (x_.At < 512)) else false)=true then (decide (x_.Len≤(jc .i64 (512 - x_.At)))) else false)
def bkz (n:Nat):Go.AE.Fn:=mkFn (A:=aj0) (R:=Bool) 125 [(true,[.int .i64,.int .i64])] false (fun xs=>(⟨(cg (xs.getD 0 []) 0).toInt,(cg (xs.getD 0 []) 1).toInt⟩:aj0)) (fun a=>[[.int a.At,.int a.Len]]) (fun a=>ayw n a) (fun r=>[.c .bool (.bool r)]) (fun r=>[])
theorem cy4 (n:Nat):aj1 jd (bkz n):=by
 have hΓ:=@g0 (aj1 jd)
 refine aj7 (Tryz.f125.body.getD .skip) h00 Tryz.func125 rfl Tryz.call125 (by decide) (by intro _ r;exact ⟨rfl,by simp⟩) ?_
 rintro x_ r H
 try dsimp only at H
 unfold ayw at H
 simp only [Tryz.f125,jt]
 refine rA ?_
 refine rA ?_
 refine jx ?_
 refine lf ?_
 obtain rfl:=Option.some.inj H
 exact rt []
def aqy (n:Nat) (s:List aj0):Option (List aj0) :=
 uniB s fun nb1 =>
 bif nb1 then
  some []
 else
  gd (s.length≤2147483648) <|
  some s
def aqq (n:Nat):Go.AE.Fn:=mkFn (A:=(List aj0)) (R:=(List aj0)) 118 [(false,[.slice 80])] false (fun xs=>((cg (xs.getD 0 []) 0).toSl.map ajl)) (fun a=>[[.slice (List.map aj2 a)]]) (fun a=>aqy n a) (fun r=>[.own 0 [.int .i64,.int .i64] 0 r.length]) (fun r=>[.row 80 (List.map aj2 r)])
theorem ak0 (n:Nat):aj1 jd (aqq n):=by
 have hΓ:=@g0 (aj1 jd)
 refine aj7 (Tryz.f118.body.getD .skip) h00 Tryz.func118 rfl Tryz.call118 (by decide) (fun _ r=>⟨rfl,m1 ⟨80,_,_,rfl,ty80,rfl⟩ m0⟩) ?_
 rintro s r H
 try dsimp only at H
 unfold aqy at H
 simp only [Tryz.f118,jt]
 refine rA ?_
 refine jp fun K2 hK2=>?_
 refine sX fun K3 hK3=>?_
 refine oX ?_
 refine opsN fun K hK=>?_;simp only [z,seval];(repeat (first | refine gcI ?_ | refine fun (_:_≤_)=>?_));intro nb1 hnb1;refine hK _ ?_;clear hK K
 replace H:=gqv H nb1 (fun hb=>by simpa using hnb1 hb)
 refine hK3 _ ?_
 refine cnd H (fun h4 H=>?_) (fun h4 H=>?_)
 ·refine rA ?_
  refine jx ?_
  refine lf ?_
  obtain rfl:=Option.some.inj H
  exact rto [none]
 refine js ?_
 refine hK2 _ ?_
 obtain ⟨hg7,H⟩:=aj4 H
 refine rA ?_
 refine jx ?_
 refine lf ?_
 obtain rfl:=Option.some.inj H
 exact rto [some 112]
def bqb (n:Nat) (x_:Int):Option Bool :=
 some (x_ != x_)
def bw3 (n:Nat) (x_:Int) (y:Int):Option Int :=
 (bqb n x_).bind fun r1 =>
 (bqb n y).bind fun r2 =>
 bif r1 then
  bif r2 then
   some 0
  else
   some (-1)
 else
  bif r2 then
   some 1
  else
   bif (decide (x_ < y)) then
    some (-1)
   else
    bif (decide (x_ > y)) then
     some 1
    else
     some 0
def awv (n:Nat) (a:aj0) (b:aj0):Option Int :=
 (bw3 n a.At b.At).bind fun r1 =>
 some r1
def awl (n:Nat) (s:List aj0):Option (List aj0):=fwo (fun x y=>awv n x y) s
theorem bza (n:Nat) (s:List aj0) (r:List aj0) (H:awl n s=some r):bjz jd 164 [.ref (.own 0 [.int .i64,.int .i64] 0 s.length),.ref (.fnv 165 [])] [.row 80 (List.map aj2 s)] [] [.row 80 (List.map aj2 r)] :=
 ek7 hqv ty80 Tryz.isAgg80 Tryz.sizeOf80 (by decide) (by decide) (by intro args w;exact Tryz.call165 args w) aj2 (fun _=>rfl) (fun x y=>awv n x y) (fun x y c h=>hqb _ _ _ _ _ (by
  simp only [awv,bw3,bqb,Option.bind_some,bne_self_eq_false,cond_false,gt_iff_lt] at h
  by_cases h1:x.At < y.At <;> by_cases h2:y.At < x.At <;> simp [h1,h2] at h ⊢ <;> first | exact h.symm | omega)) s r H
def akn (n:Nat) (l:List aj0):Option (List aj0) :=
 (aqy n l).bind fun r1 =>
 (awl n r1).bind fun r2 =>
 some (List.take r1.length r2)
def bzv (n:Nat):Go.AE.Fn:=mkFn (A:=(List aj0)) (R:=(List aj0)) 126 [(false,[.slice 80])] true (fun xs=>((cg (xs.getD 0 []) 0).toSl.map ajl)) (fun a=>[[.slice (List.map aj2 a)]]) (fun a=>akn n a) (fun r=>[.c (.slice 80) (.slice (List.map aj2 r))]) (fun r=>[])
theorem cwj (n:Nat):aj1 jd (bzv n):=by
 have hΓ:=g1 (ak0 n) (@g0 (aj1 jd))
 refine aj7 (Tryz.f126.body.getD .skip) h00 Tryz.func126 rfl Tryz.call126 (by decide) (by intro h;cases h) ?_
 rintro l r H
 try dsimp only at H
 unfold akn at H
 simp only [Tryz.f126,jt]
 refine rA ?_
 obtain ⟨r1,hr1,H⟩:=bind_some H
 have q:=aI @aqq.eq_1 hr1
 refine rAq ?_
 refine sX fun K3 hK3=>?_
 obtain ⟨r2,hr2,H⟩:=bind_some H
 have q:=hr2
 refine oX ?_
 refine oMq (bza n _ r2 hr2) [80] [] ?_
 refine hK3 _ ?_
 refine rA ?_
 refine jx ?_
 refine lf ?_
 obtain rfl:=Option.some.inj H
 exact rt []
abbrev cq0:S:=stB [] []
def bj8 (n:Nat):Option Bool :=
 some true
abbrev cq1 (s:List aj0) (i:Int):S:=stB [(5,.c (.slice 80) (.slice (List.map aj2 s))),(6,.c (.int .i64) (.int i))] []
def az3 (n:Nat) (s:List aj0) (i:Int):Option ((Int) ⊕ (((Bool) ⊕ (Unit)))) :=
 bif (decide (i < (s.length:Int))) then
  gd ((0≤i∧i < (s.length:Int))∧(0≤(jc .i64 (i - 1))∧(jc .i64 (i - 1)) < (s.length:Int))∧(0≤(jc .i64 (i - 1))∧(jc .i64 (i - 1)) < (s.length:Int))) <|
  bif (decide (((gt s (Int.toNat i)).At) < (jc .i64 (((gt s (Int.toNat (jc .i64 (i - 1)))).At)+((gt s (Int.toNat (jc .i64 (i - 1)))).Len))))) then
   some (.inr (.inl false))
  else
   some (.inl (jc .i64 (i+1)))
 else
  some (.inr (.inr ()))
abbrev cjv (l:List aj0):S:=stB [(0,.c (.slice 80) (.slice (List.map aj2 l)))] []
def bj3 (n:Nat) (l:List aj0):Option Bool :=
 (akn n l).bind fun r1 =>
 (aji (fun (x:Int)=>az3 n r1 x) n 1).bind fun y9 =>
 match y9 with
 | .inl vv =>
  some vv
 | .inr vv =>
  bj8 n
abbrev cqn (l:List aj0) (v11:Int) (v12:Int):S:=stB [(0,.c (.slice 80) (.slice (List.map aj2 l))),(10,.c (.slice 80) (.slice (List.map aj2 l))),(11,.c (.int .i64) (.int v11)),(12,.c (.int .i64) (.int v12))] []
def akb (n:Nat) (l:List aj0) (v11:Int) (v12:Int):Option ((Int) ⊕ (((Bool) ⊕ (Unit)))) :=
 bif (decide (v12 < v11)) then
  gd ((0≤v12∧v12 < (l.length:Int))) <|
  (ayw n (gt l (Int.toNat v12))).bind fun r2 =>
  bif (!r2) then
   some (.inr (.inl false))
  else
   some (.inl (jc .i64 (v12+1)))
 else
  some (.inr (.inr ()))
def aqk (n:Nat) (l:List aj0):Option Bool :=
 bif (decide ((l.length:Int) > 512)) then
  some false
 else
  (aji (fun (x:Int)=>akb n l (l.length:Int) x) n 0).bind fun y21 =>
  match y21 with
  | .inl vv =>
   some vv
  | .inr vv =>
   bj3 n l
def akh (n:Nat):Go.AE.Fn:=mkFn (A:=(List aj0)) (R:=Bool) 69 [(false,[.slice 80])] false (fun xs=>((cg (xs.getD 0 []) 0).toSl.map ajl)) (fun a=>[[.slice (List.map aj2 a)]]) (fun a=>aqk n a) (fun r=>[.c .bool (.bool r)]) (fun r=>[])
theorem bji (n:Nat):aj1 jd (akh n):=by
 have hΓ:=g1 (cy4 n) (g1 (cwj n) (@g0 (aj1 jd)))
 have qe:=aI @bkz.eq_1 @bzv.eq_1
 refine aj7 (Tryz.f69.body.getD .skip) h00 Tryz.func69 rfl Tryz.call69 (by decide) (by intro _ r;exact ⟨rfl,by simp⟩) ?_
 rintro l r H
 try dsimp only at H
 unfold aqk at H
 simp only [Tryz.f69,jt]
 refine rA ?_
 refine jp fun K2 hK2=>?_
 refine rA ?_
 refine cnd H (fun h4 H=>?_) (fun h4 H=>?_)
 ·refine rA ?_
  refine jx ?_
  refine lf ?_
  obtain rfl:=Option.some.inj H
  exact rt []
 refine js ?_
 refine hK2 _ ?_
 refine j1 (fun (x:Unit)=>cjv l) (fun x=>bj3 n l=some r) ?_ ?_
 ·refine rA ?_
  refine jw ?_
  obtain ⟨y21,hy21,Ho21⟩:=bind_some H
  refine jW _ (fun x=>cqn l (l.length:Int) x) hy21 (wb []) ?_
  rintro v12 z21 H
  try dsimp only at H
  unfold akb at H
  refine Sm.st (cqn.eq_1 ..) ?_
  refine rA ?_
  refine jp fun K23 hK23=>?_
  refine cnd H (fun h24 H=>?_) (fun h24 H=>?_)
  ·refine js ?_
   refine hK23 _ ?_
   refine jp fun K25 hK25=>?_
   refine jw ?_
   obtain ⟨hg30,H⟩:=aj4 H
   refine rA ?_
   obtain ⟨r2,hr2,H⟩:=bind_some H
   have q:=aI qe hr2
   refine rAq ?_
   refine cnd H (fun h28 H=>?_) (fun h28 H=>?_)
   ·refine rA ?_
    refine jx ?_
    refine lf ?_
    refine lx H fun hyy=>?_
    subst hyy
    have H:=Ho21
    try dsimp only at H
    refine lf ?_
    obtain rfl:=Option.some.inj H
    exact rt []
   refine js ?_
   refine hK25 _ ?_
   refine eA ?_
   refine lf ?_
   exact nx H (wb [])
  refine jZ ?_
  refine lf ?_
  refine lx H fun hyy=>?_
  subst hyy
  have H:=Ho21
  try dsimp only at H
  refine lf ?_
  exact ⟨(),H,wb []⟩
 rintro ⟨⟩ H
 try dsimp only at H
 unfold bj3 at H
 refine Sm.st (cjv.eq_1 ..) ?_
 obtain ⟨r1,hr1,H⟩:=bind_some H
 have q:=aI qe hr1
 refine rAq ?_
 refine j1 (fun (x:Unit)=>cq0) (fun x=>bj8 n=some r) ?_ ?_
 ·refine rA ?_
  refine jw ?_
  obtain ⟨y9,hy9,Ho9⟩:=bind_some H
  refine jW _ (fun x=>cq1 r1 x) hy9 (wb []) ?_
  rintro i z9 H
  try dsimp only at H
  unfold az3 at H
  refine Sm.st (cq1.eq_1 ..) ?_
  refine jp fun K10 hK10=>?_
  refine rA ?_
  refine cnd H (fun h12 H=>?_) (fun h12 H=>?_)
  ·refine js ?_
   refine hK10 _ ?_
   refine jp fun K13 hK13=>?_
   refine jw ?_
   obtain ⟨⟨hg17,hg18,hg19⟩,H⟩:=aj4 H
   refine rD ?_
   refine cnd H (fun h15 H=>?_) (fun h15 H=>?_)
   ·refine rA ?_
    refine jx ?_
    refine lf ?_
    refine lx H fun hyy=>?_
    subst hyy
    have H:=Ho9
    try dsimp only at H
    refine lf ?_
    obtain rfl:=Option.some.inj H
    exact rt []
   refine js ?_
   refine hK13 _ ?_
   refine eA ?_
   refine lf ?_
   exact nx H (wb [])
  refine jZ ?_
  refine lf ?_
  refine lx H fun hyy=>?_
  subst hyy
  have H:=Ho9
  try dsimp only at H
  refine lf ?_
  exact ⟨(),H,wb []⟩
 rintro ⟨⟩ H
 try dsimp only at H
 unfold bj8 at H
 refine Sm.st (cq0.eq_1 ..) ?_
 refine rA ?_
 refine jx ?_
 refine lf ?_
 obtain rfl:=Option.some.inj H
 exact rt []
abbrev cqg (n_:Int):S:=stB [(3,.c (.int .i64) (.int n_))] []
def bjp (n:Nat) (n_:Int):Option Int :=
 some n_
abbrev cqt (l:List aj0) (v10:Int) (n__1:Int) (v11:Int):S:=stB [(3,.c (.int .i64) (.int n__1)),(9,.c (.slice 80) (.slice (List.map aj2 l))),(10,.c (.int .i64) (.int v10)),(11,.c (.int .i64) (.int v11))] []
def az2 (n:Nat) (l:List aj0) (v10:Int) (n__1:Int) (v11:Int):Option ((Int×Int) ⊕ ((Int))) :=
 bif (decide (v11 < v10)) then
  gd ((0≤v11∧v11 < (l.length:Int))) <|
  some (.inl ((jc .i64 (n__1+((gt l (Int.toNat v11)).Len))),(jc .i64 (v11+1))))
 else
  some (.inr n__1)
def ayt (n:Nat) (l:List aj0):Option Int :=
 (aqk n l).bind fun r1 =>
 bif (!r1) then
  some 0
 else
  (aji (fun (x:Int×Int)=>az2 n l (l.length:Int) x.1 x.2) n (0,0)).bind fun y9 =>
  bjp n y9
def byh (n:Nat):Go.AE.Fn:=mkFn (A:=(List aj0)) (R:=Int) 99 [(false,[.slice 80])] false (fun xs=>((cg (xs.getD 0 []) 0).toSl.map ajl)) (fun a=>[[.slice (List.map aj2 a)]]) (fun a=>ayt n a) (fun r=>[.c (.int .i64) (.int r)]) (fun r=>[])
theorem cyn (n:Nat):aj1 jd (byh n):=by
 have hΓ:=g1 (bji n) (@g0 (aj1 jd))
 refine aj7 (Tryz.f99.body.getD .skip) h00 Tryz.func99 rfl Tryz.call99 (by decide) (by intro _ r;exact ⟨rfl,by simp⟩) ?_
 rintro l r H
 try dsimp only at H
 unfold ayt at H
 simp only [Tryz.f99,jt]
 refine rA ?_
 refine jp fun K2 hK2=>?_
 obtain ⟨r1,hr1,H⟩:=bind_some H
 have q:=aI @akh.eq_1 hr1
 refine rAq ?_
 refine cnd H (fun h4 H=>?_) (fun h4 H=>?_)
 ·refine rA ?_
  refine jx ?_
  refine lf ?_
  obtain rfl:=Option.some.inj H
  exact rt []
 refine js ?_
 refine hK2 _ ?_
 refine rA ?_
 refine j1 (fun (x:Int)=>cqg x) (fun x=>bjp n x=some r) ?_ ?_
 ·refine rA ?_
  refine jw ?_
  obtain ⟨y9,hy9,Ho9⟩:=bind_some H
  refine jW _ (fun x=>cqt l (l.length:Int) x.1 x.2) hy9 (wb []) ?_
  rintro ⟨n__1,v11⟩ z9 H
  try dsimp only at H
  unfold az2 at H
  refine Sm.st (cqt.eq_1 ..) ?_
  refine rA ?_
  refine jp fun K11 hK11=>?_
  refine cnd H (fun h12 H=>?_) (fun h12 H=>?_)
  ·refine js ?_
   refine hK11 _ ?_
   refine jp fun K13 hK13=>?_
   refine jw ?_
   obtain ⟨hg15,H⟩:=aj4 H
   refine rA ?_
   refine eA ?_
   refine hK13 _ ?_
   refine eA ?_
   refine lf ?_
   exact nx H (wb [])
  refine jZ ?_
  refine lf ?_
  refine lx H fun hyy=>?_
  subst hyy
  have H:=Ho9
  try dsimp only at H
  refine lf ?_
  exact ⟨_,H,wb []⟩
 rintro n_ H
 try dsimp only at H
 unfold bjp at H
 refine Sm.st (cqg.eq_1 ..) ?_
 refine rA ?_
 refine jx ?_
 refine lf ?_
 obtain rfl:=Option.some.inj H
 exact rt []
abbrev bzl (d:ajc):S:=stB [(3,.box 9000 0)] [(9000,.box [.c .str (.str d.Name),.c (.int .i64) (.int d.Dcb.Org),.c (.int .i64) (.int d.Dcb.Format),.c .bool (.bool d.Dcb.Blocked),.c .bool (.bool d.Dcb.Asa),.c (.int .i64) (.int d.Dcb.Lrecl),.c (.int .i64) (.int d.Dcb.Blksize),.c (.int .i64) (.int d.Dcb.KeyLen),.c (.int .i64) (.int d.Dcb.KeyPos),.c (.slice 80) (.slice (List.map aj2 d.Extents)),.c (.int .i64) (.int d.Used)])]
def azx (n:Nat) (d:ajc):Option Bool :=
 (ayt n d.Extents).bind fun r2 =>
 (ajx n d.Used 0 r2).bind fun r3 =>
 some r3
abbrev bzj (v:aja) (d:ajc) (v32:Int) (v33:Int):S:=stB [(2,.box 9003 0),(3,.box 9004 0),(31,.c (.slice 80) (.slice (List.map aj2 d.Extents))),(32,.c (.int .i64) (.int v32)),(33,.c (.int .i64) (.int v33))] [(9003,.box [.c .str (.str v.Serial),.c (.int .i64) (.int v.Cyls),.c (.int .i64) (.int v.Heads),.c (.int .i64) (.int v.Size),.c (.slice 41) (.slice (List.map aj5 v.Sets))]),(9004,.box [.c .str (.str d.Name),.c (.int .i64) (.int d.Dcb.Org),.c (.int .i64) (.int d.Dcb.Format),.c .bool (.bool d.Dcb.Blocked),.c .bool (.bool d.Dcb.Asa),.c (.int .i64) (.int d.Dcb.Lrecl),.c (.int .i64) (.int d.Dcb.Blksize),.c (.int .i64) (.int d.Dcb.KeyLen),.c (.int .i64) (.int d.Dcb.KeyPos),.c (.slice 80) (.slice (List.map aj2 d.Extents)),.c (.int .i64) (.int d.Used)])]
def awj (n:Nat) (v:aja) (d:ajc) (v32:Int) (v33:Int):Option ((Int) ⊕ (((Bool) ⊕ (Unit)))) :=
 bif (decide (v33 < v32)) then
  gd ((0≤v33∧v33 < (d.Extents.length:Int))) <|
  bif (decide ((jc .i64 (((gt d.Extents (Int.toNat v33)).At)+((gt d.Extents (Int.toNat v33)).Len))) > (jc .i64 (v.Cyls * v.Heads)))) then
   some (.inr (.inl false))
  else
   some (.inl (jc .i64 (v33+1)))
 else
  some (.inr (.inr ()))
def ak9 (n:Nat) (v:aja) (d:ajc):Option Bool :=
 (bku n d.Name).bind fun r1 =>
 gd (((!(!r1))=true→(aq5 n d.Dcb).isSome=true)∧((!(if (!r1)=true then true else (!((aq5 n d.Dcb).getD default))))=true→(ajx n (d.Extents.length:Int) 1 8).isSome=true)∧((!(if (if (!r1)=true then true else (!((aq5 n d.Dcb).getD default)))=true then true else (!((ajx n (d.Extents.length:Int) 1 8).getD default))))=true→(aqk n d.Extents).isSome=true)) <|
 bif (if (if (if (!r1)=true then true else (!((aq5 n d.Dcb).getD default)))=true then true else (!((ajx n (d.Extents.length:Int) 1 8).getD default)))=true then true else (!((aqk n d.Extents).getD default))) then
  some false
 else
  (aji (fun (x:Int)=>awj n v d (d.Extents.length:Int) x) n 0).bind fun y8 =>
  match y8 with
  | .inl vv =>
   some vv
  | .inr vv =>
   azx n d
def cj0 (n:Nat):Go.AE.Fn:=mkFn (A:=aja×ajc) (R:=Bool) 68 [(true,[.str,.int .i64,.int .i64,.int .i64,.slice 41]),(true,[.str,.int .i64,.int .i64,.bool,.bool,.int .i64,.int .i64,.int .i64,.int .i64,.slice 80,.int .i64])] false (fun xs=>((⟨(cg (xs.getD 0 []) 0).toStr,(cg (xs.getD 0 []) 1).toInt,(cg (xs.getD 0 []) 2).toInt,(cg (xs.getD 0 []) 3).toInt,((cg (xs.getD 0 []) 4).toSl.map aql)⟩:aja),(⟨(cg (xs.getD 1 []) 0).toStr,(⟨(cg (xs.getD 1 []) 1).toInt,(cg (xs.getD 1 []) 2).toInt,(cg (xs.getD 1 []) 3).toBool,(cg (xs.getD 1 []) 4).toBool,(cg (xs.getD 1 []) 5).toInt,(cg (xs.getD 1 []) 6).toInt,(cg (xs.getD 1 []) 7).toInt,(cg (xs.getD 1 []) 8).toInt⟩:TDcb),((cg (xs.getD 1 []) 9).toSl.map ajl),(cg (xs.getD 1 []) 10).toInt⟩:ajc))) (fun a=>[[.str a.1.Serial,.int a.1.Cyls,.int a.1.Heads,.int a.1.Size,.slice (List.map aj5 a.1.Sets)],[.str a.2.Name,.int a.2.Dcb.Org,.int a.2.Dcb.Format,.bool a.2.Dcb.Blocked,.bool a.2.Dcb.Asa,.int a.2.Dcb.Lrecl,.int a.2.Dcb.Blksize,.int a.2.Dcb.KeyLen,.int a.2.Dcb.KeyPos,.slice (List.map aj2 a.2.Extents),.int a.2.Used]]) (fun a=>ak9 n a.1 a.2) (fun r=>[.c .bool (.bool r)]) (fun r=>[])
theorem dwm (n:Nat):aj1 jd (cj0 n):=by
 have hΓ:=g1 (ejw n) (g1 (bz7 n) (g1 (dz0 n) (g1 (bji n) (g1 (cyn n) (@g0 (aj1 jd))))))
 have qe:=aI @djx.eq_1 (aI @bjj.eq_1 (aI @ckr.eq_1 (aI @akh.eq_1 @byh.eq_1)))
 refine aj7 (Tryz.f68.body.getD .skip) h00 Tryz.func68 rfl Tryz.call68 (by decide) (by intro _ r;exact ⟨rfl,by simp⟩) ?_
 rintro ⟨v,d⟩ r H
 try dsimp only at H
 unfold ak9 at H
 simp only [Tryz.f68,jt]
 refine rA ?_
 refine jp fun K2 hK2=>?_
 obtain ⟨r1,hr1,H⟩:=bind_some H
 obtain ⟨⟨hg18,hg19,hg20⟩,H⟩:=aj4 H
 have q:=aI qe hr1
 refine rAq ?_
 refine cnd H (fun h4 H=>?_) (fun h4 H=>?_)
 ·refine rA ?_
  refine jx ?_
  refine lf ?_
  obtain rfl:=Option.some.inj H
  exact rt []
 refine js ?_
 refine hK2 _ ?_
 refine j1 (fun (x:Unit)=>bzl d) (fun x=>azx n d=some r) ?_ ?_
 ·refine rA ?_
  refine jw ?_
  obtain ⟨y8,hy8,Ho8⟩:=bind_some H
  refine jW _ (fun x=>bzj v d (d.Extents.length:Int) x) hy8 (wb [some 32,some 48]) ?_
  rintro v33 z8 H
  try dsimp only at H
  unfold awj at H
  refine Sm.st (bzj.eq_1 ..) ?_
  refine rA ?_
  refine jp fun K10 hK10=>?_
  refine cnd H (fun h11 H=>?_) (fun h11 H=>?_)
  ·refine js ?_
   refine hK10 _ ?_
   refine jp fun K12 hK12=>?_
   refine jw ?_
   obtain ⟨hg17,H⟩:=aj4 H
   refine rA ?_
   refine rA ?_
   refine cnd H (fun h15 H=>?_) (fun h15 H=>?_)
   ·refine rA ?_
    refine jx ?_
    refine lf ?_
    refine lx H fun hyy=>?_
    subst hyy
    have H:=Ho8
    try dsimp only at H
    refine lf ?_
    obtain rfl:=Option.some.inj H
    exact rt []
   refine js ?_
   refine hK12 _ ?_
   refine eA ?_
   refine lf ?_
   exact nx H (wb [some 9003,some 9004])
  refine jZ ?_
  refine lf ?_
  refine lx H fun hyy=>?_
  subst hyy
  have H:=Ho8
  try dsimp only at H
  refine lf ?_
  exact ⟨(),H,wb [some 9004]⟩
 rintro ⟨⟩ H
 try dsimp only at H
 unfold azx at H
 refine Sm.st (bzl.eq_1 ..) ?_
 obtain ⟨r2,hr2,H⟩:=bind_some H
 obtain ⟨r3,hr3,H⟩:=bind_some H
 have q:=aI qe (aI hr2 hr3)
 refine rDq ?_
 refine jx ?_
 refine lf ?_
 obtain rfl:=Option.some.inj H
 exact rt []
abbrev cy6 (used:List aj0):S:=stB [(3,.own 9000 [.int .i64,.int .i64] 0 used.length)] [(9000,.row 80 (List.map aj2 used))]
def bwb (n:Nat) (used:List aj0):Option Int :=
 (aqk n used).bind fun r3 =>
 bif (!r3) then
  some 5
 else
  some 0
abbrev dj9 (v:aja) (v54:Int) (used_1:List aj0) (v55:Int):S:=stB [(1,.box 9003 0),(3,.own 9004 [.int .i64,.int .i64] 0 used_1.length),(53,.c (.slice 41) (.slice (List.map aj5 v.Sets))),(54,.c (.int .i64) (.int v54)),(55,.c (.int .i64) (.int v55))] [(9003,.box [.c .str (.str v.Serial),.c (.int .i64) (.int v.Cyls),.c (.int .i64) (.int v.Heads),.c (.int .i64) (.int v.Size),.c (.slice 41) (.slice (List.map aj5 v.Sets))]),(9004,.row 80 (List.map aj2 used_1))]
def azg (n:Nat) (v:aja) (v54:Int) (used_1:List aj0) (v55:Int):Option (((List aj0)×Int) ⊕ (((Int) ⊕ ((List aj0))))) :=
 bif (decide (v55 < v54)) then
  gd ((0≤v55∧v55 < (v.Sets.length:Int))) <|
  (ak9 n v (gt v.Sets (Int.toNat v55))).bind fun r4 =>
  gd ((((!(!r4)) && (decide (v55 > 0)))=true→(0≤(jc .i64 (v55 - 1))∧(jc .i64 (v55 - 1)) < (v.Sets.length:Int)))) <|
  bif (if (!r4)=true then true else (if (decide (v55 > 0))=true then (!Op.bytesLess ((gt v.Sets (Int.toNat (jc .i64 (v55 - 1)))).Name) ((gt v.Sets (Int.toNat v55)).Name)) else false)) then
   some (.inr (.inl 5))
  else
   gd ((used_1.length+((gt v.Sets (Int.toNat v55)).Extents).length)≤2147483648) <|
   some (.inl ((used_1 ++ (gt v.Sets (Int.toNat v55)).Extents),(jc .i64 (v55+1))))
 else
  some (.inr (.inr used_1))
def awd (n:Nat) (v:aja):Option Int :=
 (ajx n (v.Serial.length:Int) 1 6).bind fun r1 =>
 gd (((!(!r1))=true→(aqe n v.Serial [65,66,67,68,69,70,71,72,73,74,75,76,77,78,79,80,81,82,83,84,85,86,87,88,89,90,48,49,50,51,52,53,54,55,56,57]).isSome=true)) <|
 bif (if (!r1)=true then true else (((aqe n v.Serial [65,66,67,68,69,70,71,72,73,74,75,76,77,78,79,80,81,82,83,84,85,86,87,88,89,90,48,49,50,51,52,53,54,55,56,57]).getD default) != [])) then
  some 5
 else
  (ajx n v.Cyls 1 64).bind fun r2 =>
  gd (((!(!r2))=true→(ajx n v.Heads 1 8).isSome=true)∧((!(if (!r2)=true then true else (!((ajx n v.Heads 1 8).getD default))))=true→(ajx n v.Size 1 (jc .i64 ((jc .i64 (v.Cyls * v.Heads)) - 1))).isSome=true)) <|
  bif (if (if (!r2)=true then true else (!((ajx n v.Heads 1 8).getD default)))=true then true else (!((ajx n v.Size 1 (jc .i64 ((jc .i64 (v.Cyls * v.Heads)) - 1))).getD default))) then
   some 5
  else
   bif (decide ((v.Sets.length:Int) > (if (jc .i64 (14 * v.Size)) < 64 then (jc .i64 (14 * v.Size)) else 64))) then
    some 5
   else
    (aji (fun (x:(List aj0)×Int)=>azg n v (v.Sets.length:Int) x.1 x.2) n ([(⟨0,(jc .i64 (v.Size+1))⟩:aj0)],0)).bind fun y21 =>
    match y21 with
    | .inl vv =>
     some vv
    | .inr vv =>
     bwb n vv
def ayd (n:Nat):Go.AE.Fn:=mkFn (A:=aja) (R:=Int) 30 [(true,[.str,.int .i64,.int .i64,.int .i64,.slice 41])] false (fun xs=>(⟨(cg (xs.getD 0 []) 0).toStr,(cg (xs.getD 0 []) 1).toInt,(cg (xs.getD 0 []) 2).toInt,(cg (xs.getD 0 []) 3).toInt,((cg (xs.getD 0 []) 4).toSl.map aql)⟩:aja)) (fun a=>[[.str a.Serial,.int a.Cyls,.int a.Heads,.int a.Size,.slice (List.map aj5 a.Sets)]]) (fun a=>awd n a) (fun r=>[.c (.int .i64) (.int r)]) (fun r=>[])
theorem bwy (n:Nat):aj1 jd (ayd n):=by
 have hΓ:=g1 (dz0 n) (g1 (cky n) (g1 (dwm n) (g1 (bji n) (@g0 (aj1 jd)))))
 have qe:=aI @ckr.eq_1 (aI @akd.eq_1 (aI @cj0.eq_1 @akh.eq_1))
 refine aj7 (Tryz.f30.body.getD .skip) h00 Tryz.func30 rfl Tryz.call30 (by decide) (by intro _ r;exact ⟨rfl,by simp⟩) ?_
 rintro v r H
 try dsimp only at H
 unfold awd at H
 simp only [Tryz.f30,jt]
 refine rA ?_
 refine jp fun K2 hK2=>?_
 obtain ⟨r1,hr1,H⟩:=bind_some H
 obtain ⟨hg36,H⟩:=aj4 H
 have q:=aI qe hr1
 refine rAq ?_
 refine cnd H (fun h4 H=>?_) (fun h4 H=>?_)
 ·refine rA ?_
  refine jx ?_
  refine lf ?_
  obtain rfl:=Option.some.inj H
  exact rt []
 refine js ?_
 refine hK2 _ ?_
 refine jp fun K6 hK6=>?_
 obtain ⟨r2,hr2,H⟩:=bind_some H
 obtain ⟨⟨hg34,hg35⟩,H⟩:=aj4 H
 have q:=aI qe hr2
 refine rAq ?_
 refine cnd H (fun h8 H=>?_) (fun h8 H=>?_)
 ·refine rA ?_
  refine jx ?_
  refine lf ?_
  obtain rfl:=Option.some.inj H
  exact rt []
 refine js ?_
 refine hK6 _ ?_
 refine jp fun K10 hK10=>?_
 refine rA ?_
 refine cnd H (fun h12 H=>?_) (fun h12 H=>?_)
 ·refine rA ?_
  refine jx ?_
  refine lf ?_
  obtain rfl:=Option.some.inj H
  exact rt []
 refine js ?_
 refine hK10 _ ?_
 refine rA ?_
 refine j1 (fun (x:(List aj0))=>cy6 x) (fun x=>bwb n x=some r) ?_ ?_
 ·refine rA ?_
  refine jw ?_
  obtain ⟨y21,hy21,Ho21⟩:=bind_some H
  refine jW _ (fun x=>dj9 v (v.Sets.length:Int) x.1 x.2) hy21 (wb [some 16,some 816]) ?_
  rintro ⟨used_1,v55⟩ z21 H
  try dsimp only at H
  unfold azg at H
  refine Sm.st (dj9.eq_1 ..) ?_
  refine rA ?_
  refine jp fun K23 hK23=>?_
  refine cnd H (fun h24 H=>?_) (fun h24 H=>?_)
  ·refine js ?_
   refine hK23 _ ?_
   refine jp fun K25 hK25=>?_
   refine jw ?_
   obtain ⟨hg33,H⟩:=aj4 H
   refine rA ?_
   refine jp fun K27 hK27=>?_
   obtain ⟨r4,hr4,H⟩:=bind_some H
   obtain ⟨hg32,H⟩:=aj4 H
   have q:=aI qe hr4
   refine rDq ?_
   refine cnd H (fun h29 H=>?_) (fun h29 H=>?_)
   ·refine rA ?_
    refine jx ?_
    refine lf ?_
    refine lx H fun hyy=>?_
    subst hyy
    have H:=Ho21
    try dsimp only at H
    refine lf ?_
    obtain rfl:=Option.some.inj H
    exact rt []
   refine js ?_
   refine hK27 _ ?_
   obtain ⟨hg31,H⟩:=aj4 H
   refine eA ?_
   refine hK25 _ ?_
   refine eA ?_
   refine lf ?_
   exact nx H (wb [some 9003,some 1328])
  refine jZ ?_
  refine lf ?_
  refine lx H fun hyy=>?_
  subst hyy
  have H:=Ho21
  try dsimp only at H
  refine lf ?_
  exact ⟨_,H,wb [some 9004]⟩
 rintro used H
 try dsimp only at H
 unfold bwb at H
 refine Sm.st (cy6.eq_1 ..) ?_
 refine jp fun K15 hK15=>?_
 obtain ⟨r3,hr3,H⟩:=bind_some H
 have q:=aI qe hr3
 refine rAq ?_
 refine cnd H (fun h17 H=>?_) (fun h17 H=>?_)
 ·refine rA ?_
  refine jx ?_
  refine lf ?_
  obtain rfl:=Option.some.inj H
  exact rt []
 refine js ?_
 refine hK15 _ ?_
 refine rA ?_
 refine jx ?_
 refine lf ?_
 obtain rfl:=Option.some.inj H
 exact rt []
def eq4 (n:Nat) (serial:List UInt8) (cyls:Int) (heads:Int) (size:Int):Option (aja×Int) :=
 (awd n (⟨serial,cyls,heads,size,[]⟩:aja)).bind fun r1 =>
 bif (r1 != 0) then
  some ((⟨[],0,0,0,[]⟩:aja),1)
 else
  some ((⟨serial,cyls,heads,size,[]⟩:aja),0)
def ezq (n:Nat):Go.AE.Fn:=mkFn (A:=(List UInt8)×Int×Int×Int) (R:=aja×Int) 15 [(false,[.str]),(false,[.int .i64]),(false,[.int .i64]),(false,[.int .i64])] false (fun xs=>((cg (xs.getD 0 []) 0).toStr,(cg (xs.getD 1 []) 0).toInt,(cg (xs.getD 2 []) 0).toInt,(cg (xs.getD 3 []) 0).toInt)) (fun a=>[[.str a.1],[.int a.2.1],[.int a.2.2.1],[.int a.2.2.2]]) (fun a=>eq4 n a.1 a.2.1 a.2.2.1 a.2.2.2) (fun r=>[.agg [.c .str (.str r.1.Serial),.c (.int .i64) (.int r.1.Cyls),.c (.int .i64) (.int r.1.Heads),.c (.int .i64) (.int r.1.Size),.nilsl],.c (.int .i64) (.int r.2)]) (fun r=>[])
theorem gqh (n:Nat):aj1 jd (ezq n):=by
 have hΓ:=g1 (bwy n) (@g0 (aj1 jd))
 refine aj7 (Tryz.f15.body.getD .skip) h00 Tryz.func15 rfl Tryz.call15 (by decide) (by intro _ r;exact ⟨rfl,by simp⟩) ?_
 rintro ⟨serial,cyls,heads,size⟩ r H
 try dsimp only at H
 unfold eq4 at H
 simp only [Tryz.f15,jt]
 refine rA ?_
 refine rA ?_
 refine jp fun K3 hK3=>?_
 obtain ⟨r1,hr1,H⟩:=bind_some H
 have q:=aI @ayd.eq_1 hr1
 refine rAq ?_
 refine cnd H (fun h5 H=>?_) (fun h5 H=>?_)
 ·refine rA ?_
  refine jx ?_
  refine lf ?_
  obtain rfl:=Option.some.inj H
  exact rt []
 refine js ?_
 refine hK3 _ ?_
 refine rA ?_
 refine jx ?_
 refine lf ?_
 obtain rfl:=Option.some.inj H
 exact rt []
def byg (n:Nat):Option TDcb :=
 some (⟨1,1,false,false,80,80,0,0⟩:TDcb)
def dql (n:Nat):Go.AE.Fn:=mkFn (A:=Unit) (R:=TDcb) 42 [] false (fun xs=>()) (fun a=>[]) (fun a=>byg n) (fun r=>[.agg [.c (.int .i64) (.int r.Org),.c (.int .i64) (.int r.Format),.c .bool (.bool r.Blocked),.c .bool (.bool r.Asa),.c (.int .i64) (.int r.Lrecl),.c (.int .i64) (.int r.Blksize),.c (.int .i64) (.int r.KeyLen),.c (.int .i64) (.int r.KeyPos)]]) (fun r=>[])
theorem ezm (n:Nat):aj1 jd (dql n):=by
 have hΓ:=@g0 (aj1 jd)
 refine aj7 (Tryz.f42.body.getD .skip) h00 Tryz.func42 rfl Tryz.call42 (by decide) (by intro _ r;exact ⟨rfl,by simp⟩) ?_
 rintro ⟨⟩ r H
 try dsimp only at H
 unfold byg at H
 simp only [Tryz.f42,jt]
 refine rA ?_
 refine rA ?_
 refine jx ?_
 refine lf ?_
 obtain rfl:=Option.some.inj H
 exact rt []
def awk (n:Nat) (d:ajc) (s:List UInt8):Option Int :=
 (strings_Compare n d.Name s).bind fun r1 =>
 some r1
def ayf (n:Nat):Go.AE.Fn:=mkFn (A:=ajc×(List UInt8)) (R:=Int) 117 [(true,[.str,.int .i64,.int .i64,.bool,.bool,.int .i64,.int .i64,.int .i64,.int .i64,.slice 80,.int .i64]),(false,[.str])] false (fun xs=>((⟨(cg (xs.getD 0 []) 0).toStr,(⟨(cg (xs.getD 0 []) 1).toInt,(cg (xs.getD 0 []) 2).toInt,(cg (xs.getD 0 []) 3).toBool,(cg (xs.getD 0 []) 4).toBool,(cg (xs.getD 0 []) 5).toInt,(cg (xs.getD 0 []) 6).toInt,(cg (xs.getD 0 []) 7).toInt,(cg (xs.getD 0 []) 8).toInt⟩:TDcb),((cg (xs.getD 0 []) 9).toSl.map ajl),(cg (xs.getD 0 []) 10).toInt⟩:ajc),(cg (xs.getD 1 []) 0).toStr)) (fun a=>[[.str a.1.Name,.int a.1.Dcb.Org,.int a.1.Dcb.Format,.bool a.1.Dcb.Blocked,.bool a.1.Dcb.Asa,.int a.1.Dcb.Lrecl,.int a.1.Dcb.Blksize,.int a.1.Dcb.KeyLen,.int a.1.Dcb.KeyPos,.slice (List.map aj2 a.1.Extents),.int a.1.Used],[.str a.2]]) (fun a=>awk n a.1 a.2) (fun r=>[.c (.int .i64) (.int r)]) (fun r=>[])
theorem cka (n:Nat):aj1 jd (ayf n):=by
 have hΓ:=g1 (dwl n) (@g0 (aj1 jd))
 refine aj7 (Tryz.f117.body.getD .skip) h00 Tryz.func117 rfl Tryz.call117 (by decide) (by intro _ r;exact ⟨rfl,by simp⟩) ?_
 rintro ⟨d,s⟩ r H
 try dsimp only at H
 unfold awk at H
 simp only [Tryz.f117,jt]
 refine rA ?_
 obtain ⟨r1,hr1,H⟩:=bind_some H
 have q:=aI @azo.eq_1 hr1
 refine rAq ?_
 refine jx ?_
 refine lf ?_
 obtain rfl:=Option.some.inj H
 exact rt []
abbrev aw4 (x_:List ajc) (target:List UInt8) (n_:Int) (i:Int):S:=stB [(0,.c (.slice 41) (.slice (List.map aj5 x_))),(1,.c .str (.str target)),(2,.fnv 117 []),(8,.c (.int .i64) (.int n_)),(9,.c (.int .i64) (.int i))] []
def aqb (n:Nat) (x_:List ajc) (target:List UInt8) (n_:Int) (i:Int):Option (Int×Bool) :=
 gd (((decide (i < n_))=true→(0≤i∧i < (x_.length:Int)))∧((decide (i < n_))=true→(awk n (gt x_ (Int.toNat i)) target).isSome=true)) <|
 some (i,(if (decide (i < n_))=true then (((awk n (gt x_ (Int.toNat i)) target).getD default) == 0) else false))
abbrev aw6 (x_:List ajc) (target:List UInt8) (n__1:Int) (i_1:Int) (j:Int):S:=stB [(0,.c (.slice 41) (.slice (List.map aj5 x_))),(1,.c .str (.str target)),(2,.fnv 117 []),(8,.c (.int .i64) (.int n__1)),(9,.c (.int .i64) (.int i_1)),(10,.c (.int .i64) (.int j))] []
def aw5 (n:Nat) (x_:List ajc) (target:List UInt8) (n__1:Int) (i_1:Int) (j:Int):Option ((Int×Int) ⊕ ((Int))) :=
 bif (decide (i_1 < j)) then
  gd ((0≤(jc .i64 ((Int.fdiv (jc .u64 ((jc .i64 (i_1+j)))) (2 ^ min 1 (j6 .u64)))))∧(jc .i64 ((Int.fdiv (jc .u64 ((jc .i64 (i_1+j)))) (2 ^ min 1 (j6 .u64))))) < (x_.length:Int))) <|
  (awk n (gt x_ (Int.toNat (jc .i64 ((Int.fdiv (jc .u64 ((jc .i64 (i_1+j)))) (2 ^ min 1 (j6 .u64))))))) target).bind fun r1 =>
  bif (decide (r1 < 0)) then
   some (.inl ((jc .i64 ((jc .i64 ((Int.fdiv (jc .u64 ((jc .i64 (i_1+j)))) (2 ^ min 1 (j6 .u64)))))+1)),j))
  else
   some (.inl (i_1,(jc .i64 ((Int.fdiv (jc .u64 ((jc .i64 (i_1+j)))) (2 ^ min 1 (j6 .u64)))))))
 else
  some (.inr i_1)
def aqg (n:Nat) (x_:List ajc) (target:List UInt8):Option (Int×Bool) :=
 (aji (fun (x:Int×Int)=>aw5 n x_ target (x_.length:Int) x.1 x.2) n (0,(x_.length:Int))).bind fun y7 =>
 aqb n x_ target (x_.length:Int) y7
theorem bjw (n:Nat) (x_:List ajc) (target:List UInt8) (r:Int×Bool) (H:aqg n x_ target=some r):bjz jd 116 [.dat (false,[.slice 41]) [.slice (List.map aj5 x_)],.dat (false,[.str]) [.str target],.ref (.fnv 117 [])] [] [.c (.int .i64) (.int r.1),.c .bool (.bool r.2)] []:=by
 have hΓ:=g1 (cka n) (@g0 (aj1 jd))
 refine dj6 (Tryz.f116.body.getD .skip) h00 Tryz.func116 rfl Tryz.call116 (Jg rfl) (Jg rfl) ?_
 unfold aqg at H
 simp only [Tryz.f116,jt]
 refine rA ?_
 refine rA ?_
 refine rA ?_
 refine j1 (fun (x:Int×Int)=>aw4 x_ target x.1 x.2) (fun x=>aqb n x_ target x.1 x.2=some r) ?_ ?_
 ·refine jw ?_
  obtain ⟨y7,hy7,Ho7⟩:=bind_some H
  refine jW _ (fun x=>aw6 x_ target (x_.length:Int) x.1 x.2) hy7 (wb []) ?_
  rintro ⟨i_1,j⟩ z7 H
  try dsimp only at H
  unfold aw5 at H
  refine Sm.st (aw6.eq_1 ..) ?_
  refine jp fun K8 hK8=>?_
  refine rA ?_
  refine cnd H (fun h10 H=>?_) (fun h10 H=>?_)
  ·refine js ?_
   refine hK8 _ ?_
   refine jw ?_
   refine sX fun K11 hK11=>?_
   iterate 4 refine oX ?_
   refine oE ay5 ?_
   iterate 2 refine oX ?_
   refine hK11 _ ?_
   obtain ⟨hg14,H⟩:=aj4 H
   obtain ⟨r1,hr1,H⟩:=bind_some H
   have q:=aI @ayf.eq_1 hr1
   refine rAq ?_
   refine cnd H (fun h13 H=>?_) (fun h13 H=>?_)
   ·refine eA ?_
    refine lf ?_
    exact nx H (wb [])
   refine eA ?_
   refine lf ?_
   exact nx H (wb [])
  refine jZ ?_
  refine lf ?_
  refine lx H fun hyy=>?_
  subst hyy
  have H:=Ho7
  try dsimp only at H
  refine lf ?_
  exact ⟨((x_.length:Int),i_1),H,wb []⟩
 rintro ⟨n_,i⟩ H
 try dsimp only at H
 unfold aqb at H
 refine Sm.st (aw4.eq_1 ..) ?_
 obtain ⟨⟨hg5,hg6⟩,H⟩:=aj4 H
 have q:=@ayf.eq_1
 refine rAq ?_
 refine jx ?_
 refine lf ?_
 obtain rfl:=Option.some.inj H
 exact rtM []
def bw0 (n:Nat) (v:aja) (name:List UInt8):Option (Int×Bool) :=
 (aqg n v.Sets name).bind fun r1 =>
 some (r1.1,r1.2)
def bkf (n:Nat):Go.AE.Fn:=mkFn (A:=aja×(List UInt8)) (R:=Int×Bool) 56 [(true,[.str,.int .i64,.int .i64,.int .i64,.slice 41]),(false,[.str])] false (fun xs=>((⟨(cg (xs.getD 0 []) 0).toStr,(cg (xs.getD 0 []) 1).toInt,(cg (xs.getD 0 []) 2).toInt,(cg (xs.getD 0 []) 3).toInt,((cg (xs.getD 0 []) 4).toSl.map aql)⟩:aja),(cg (xs.getD 1 []) 0).toStr)) (fun a=>[[.str a.1.Serial,.int a.1.Cyls,.int a.1.Heads,.int a.1.Size,.slice (List.map aj5 a.1.Sets)],[.str a.2]]) (fun a=>bw0 n a.1 a.2) (fun r=>[.c (.int .i64) (.int r.1),.c .bool (.bool r.2)]) (fun r=>[])
theorem djn (n:Nat):aj1 jd (bkf n):=by
 have hΓ:=@g0 (aj1 jd)
 refine aj7 (Tryz.f56.body.getD .skip) h00 Tryz.func56 rfl Tryz.call56 (by decide) (by intro _ r;exact ⟨rfl,by simp⟩) ?_
 rintro ⟨v,name⟩ r H
 try dsimp only at H
 unfold bw0 at H
 simp only [Tryz.f56,jt]
 refine rA ?_
 refine sX fun K2 hK2=>?_
 obtain ⟨r1,hr1,H⟩:=bind_some H
 have q:=hr1
 iterate 3 refine oX ?_
 refine oMq (bjw n _ _ r1 hr1) [] [] ?_
 iterate 4 refine oXq ?_
 refine hK2 _ ?_
 refine jx ?_
 refine lf ?_
 obtain rfl:=Option.some.inj H
 exact rt []
abbrev cwo (out_1:List aj0):S:=stB [(5,.own 9001 [.int .i64,.int .i64] 0 out_1.length)] [(9001,.row 80 (List.map aj2 out_1))]
def akq (n:Nat) (out_1:List aj0):Option (List aj0) :=
 some out_1
abbrev cz1 (n_:Int) (out:List aj0) (at_:Int):S:=stB [(1,.c (.int .i64) (.int n_)),(5,.own 9000 [.int .i64,.int .i64] 0 out.length),(6,.c (.int .i64) (.int at_))] [(9000,.row 80 (List.map aj2 out))]
def azs (n:Nat) (n_:Int) (out:List aj0) (at_:Int):Option (List aj0) :=
 bif (decide (n_ > at_)) then
  gd ((out.length+1)≤2147483648) <|
  akq n (out ++ [(⟨at_,(jc .i64 (n_ - at_))⟩:aj0)])
 else
  akq n out
abbrev cwr (n_:Int) (out_3:List aj0) (at__2:Int) (v22:List aj0) (v23:Int) (v24:Int):S:=stB [(1,.c (.int .i64) (.int n_)),(5,.own 9004 [.int .i64,.int .i64] 0 out_3.length),(6,.c (.int .i64) (.int at__2)),(22,.c (.slice 80) (.slice (List.map aj2 v22))),(23,.c (.int .i64) (.int v23)),(24,.c (.int .i64) (.int v24))] [(9004,.row 80 (List.map aj2 out_3))]
def bqe (n:Nat) (n_:Int) (out_3:List aj0) (at__2:Int) (v22:List aj0) (v23:Int) (v24:Int):Option (((List aj0)×Int×Int) ⊕ (((List aj0)×Int))) :=
 some (.inl (out_3,at__2,(jc .i64 (v24+1))))
abbrev czf (n_:Int) (out_4:List aj0) (x_:Int) (x__1:Int) (v22:List aj0) (v23:Int) (v24:Int):S:=stB [(1,.c (.int .i64) (.int n_)),(5,.own 9005 [.int .i64,.int .i64] 0 out_4.length),(8,.box 9006 0),(22,.c (.slice 80) (.slice (List.map aj2 v22))),(23,.c (.int .i64) (.int v23)),(24,.c (.int .i64) (.int v24))] [(9005,.row 80 (List.map aj2 out_4)),(9006,.box [.c (.int .i64) (.int x_),.c (.int .i64) (.int x__1)])]
def akx (n:Nat) (n_:Int) (out_4:List aj0) (x_:Int) (x__1:Int) (v22:List aj0) (v23:Int) (v24:Int):Option (((List aj0)×Int×Int) ⊕ (((List aj0)×Int))) :=
 bqe n n_ out_4 (jc .i64 (x_+x__1)) v22 v23 v24
abbrev cwm (n_:Int) (v22:List aj0) (v23:Int) (out_2:List aj0) (at__1:Int) (v24:Int):S:=stB [(1,.c (.int .i64) (.int n_)),(5,.own 9003 [.int .i64,.int .i64] 0 out_2.length),(6,.c (.int .i64) (.int at__1)),(22,.c (.slice 80) (.slice (List.map aj2 v22))),(23,.c (.int .i64) (.int v23)),(24,.c (.int .i64) (.int v24))] [(9003,.row 80 (List.map aj2 out_2))]
def awp (n:Nat) (n_:Int) (v22:List aj0) (v23:Int) (out_2:List aj0) (at__1:Int) (v24:Int):Option (((List aj0)×Int×Int) ⊕ (((List aj0)×Int))) :=
 bif (decide (v24 < v23)) then
  gd ((0≤v24∧v24 < (v22.length:Int))) <|
  bif (decide ((if n_ < ((gt v22 (Int.toNat v24)).At) then n_ else ((gt v22 (Int.toNat v24)).At)) > at__1)) then
   gd ((out_2.length+1)≤2147483648) <|
   akx n n_ (out_2 ++ [(⟨at__1,(jc .i64 ((if n_ < ((gt v22 (Int.toNat v24)).At) then n_ else ((gt v22 (Int.toNat v24)).At)) - at__1))⟩:aj0)]) ((gt v22 (Int.toNat v24)).At) ((gt v22 (Int.toNat v24)).Len) v22 v23 v24
  else
   akx n n_ out_2 ((gt v22 (Int.toNat v24)).At) ((gt v22 (Int.toNat v24)).Len) v22 v23 v24
 else
  some (.inr (out_2,at__1))
def bz6 (n:Nat) (used:List aj0) (n_:Int):Option (List aj0) :=
 (aqk n used).bind fun r1 =>
 bif (if (if (!r1)=true then true else (decide (n_ < 0)))=true then true else (decide (n_ > 512))) then
  some []
 else
  (akn n used).bind fun r2 =>
  (aji (fun (x:(List aj0)×Int×Int)=>awp n n_ r2 (r2.length:Int) x.1 x.2.1 x.2.2) n ([],0,0)).bind fun y13 =>
  azs n n_ y13.1 y13.2
def dq9 (n:Nat):Go.AE.Fn:=mkFn (A:=(List aj0)×Int) (R:=(List aj0)) 76 [(false,[.slice 80]),(false,[.int .i64])] false (fun xs=>(((cg (xs.getD 0 []) 0).toSl.map ajl),(cg (xs.getD 1 []) 0).toInt)) (fun a=>[[.slice (List.map aj2 a.1)],[.int a.2]]) (fun a=>bz6 n a.1 a.2) (fun r=>[.own 0 [.int .i64,.int .i64] 0 r.length]) (fun r=>[.row 80 (List.map aj2 r)])
theorem ezc (n:Nat):aj1 jd (dq9 n):=by
 have hΓ:=g1 (bji n) (g1 (cwj n) (@g0 (aj1 jd)))
 have qe:=aI @akh.eq_1 @bzv.eq_1
 refine aj7 (Tryz.f76.body.getD .skip) h00 Tryz.func76 rfl Tryz.call76 (by decide) (fun _ r=>⟨rfl,m1 ⟨80,_,_,rfl,ty80,rfl⟩ m0⟩) ?_
 rintro ⟨used,n_⟩ r H
 try dsimp only at H
 unfold bz6 at H
 simp only [Tryz.f76,jt]
 refine rA ?_
 refine jp fun K2 hK2=>?_
 obtain ⟨r1,hr1,H⟩:=bind_some H
 have q:=aI qe hr1
 refine rAq ?_
 refine cnd H (fun h4 H=>?_) (fun h4 H=>?_)
 ·refine rA ?_
  refine jx ?_
  refine lf ?_
  obtain rfl:=Option.some.inj H
  exact rto [none]
 refine js ?_
 refine hK2 _ ?_
 refine rA ?_
 refine rA ?_
 refine j1 (fun (x:(List aj0)×Int)=>cz1 n_ x.1 x.2) (fun x=>azs n n_ x.1 x.2=some r) ?_ ?_
 ·obtain ⟨r2,hr2,H⟩:=bind_some H
  have q:=aI qe hr2
  refine rAq ?_
  refine jw ?_
  obtain ⟨y13,hy13,Ho13⟩:=bind_some H
  refine jW _ (fun x=>cwm n_ r2 (r2.length:Int) x.1 x.2.1 x.2.2) hy13 (wb [none]) ?_
  rintro ⟨out_2,at__1,v24⟩ z13 H
  try dsimp only at H
  unfold awp at H
  refine Sm.st (cwm.eq_1 ..) ?_
  refine rA ?_
  refine jp fun K15 hK15=>?_
  refine cnd H (fun h16 H=>?_) (fun h16 H=>?_)
  ·refine js ?_
   refine hK15 _ ?_
   refine j1 (fun (x:(List aj0)×Int)=>cwr n_ x.1 x.2 r2 (r2.length:Int) v24) (fun x=>bqe n n_ x.1 x.2 r2 (r2.length:Int) v24=some z13) ?_ ?_
   ·refine jw ?_
    obtain ⟨hg22,H⟩:=aj4 H
    refine rA ?_
    refine j1 (fun (x:(List aj0))=>czf n_ x ((gt r2 (Int.toNat v24)).At) ((gt r2 (Int.toNat v24)).Len) r2 (r2.length:Int) v24) (fun x=>akx n n_ x ((gt r2 (Int.toNat v24)).At) ((gt r2 (Int.toNat v24)).Len) r2 (r2.length:Int) v24=some z13) ?_ ?_
    ·refine rA ?_
     refine rA ?_
     refine cnd H (fun h20 H=>?_) (fun h20 H=>?_)
     ·obtain ⟨hg21,H⟩:=aj4 H
      refine eA ?_
      refine lf ?_
      exact ⟨_,H,wb [some 672,some 128]⟩
     refine js ?_
     refine lf ?_
     exact ⟨_,H,wb [some 9003,some 128]⟩
    rintro out_4 H
    try dsimp only at H
    unfold akx at H
    refine Sm.st (czf.eq_1 ..) ?_
    refine eA ?_
    refine lf ?_
    exact ⟨(out_4,(jc .i64 ((gt r2 (Int.toNat v24)).At+(gt r2 (Int.toNat v24)).Len))),H,wb [some 9005]⟩
   rintro ⟨out_3,at__2⟩ H
   try dsimp only at H
   unfold bqe at H
   refine Sm.st (cwr.eq_1 ..) ?_
   refine eA ?_
   refine lf ?_
   exact nx H (wb [some 9004])
  refine jZ ?_
  refine lf ?_
  refine lx H fun hyy=>?_
  subst hyy
  have H:=Ho13
  try dsimp only at H
  refine lf ?_
  exact ⟨(out_2,at__1),H,wb [some 9003]⟩
 rintro ⟨out,at_⟩ H
 try dsimp only at H
 unfold azs at H
 refine Sm.st (cz1.eq_1 ..) ?_
 refine j1 (fun (x:(List aj0))=>cwo x) (fun x=>akq n x=some r) ?_ ?_
 ·refine rA ?_
  refine cnd H (fun h10 H=>?_) (fun h10 H=>?_)
  ·obtain ⟨hg11,H⟩:=aj4 H
   refine eA ?_
   refine lf ?_
   exact ⟨_,H,wb [some 944]⟩
  refine js ?_
  refine lf ?_
  exact ⟨_,H,wb [some 9000]⟩
 rintro out_1 H
 try dsimp only at H
 unfold akq at H
 refine Sm.st (cwo.eq_1 ..) ?_
 refine rA ?_
 refine jx ?_
 refine lf ?_
 obtain rfl:=Option.some.inj H
 exact rto [some 9001]
abbrev dqk (v:aja) (used:List aj0):S:=stB [(1,.box 9000 0),(3,.own 9001 [.int .i64,.int .i64] 0 used.length)] [(9000,.box [.c .str (.str v.Serial),.c (.int .i64) (.int v.Cyls),.c (.int .i64) (.int v.Heads),.c (.int .i64) (.int v.Size),.c (.slice 41) (.slice (List.map aj5 v.Sets))]),(9001,.row 80 (List.map aj2 used))]
def bzs (n:Nat) (v:aja) (used:List aj0):Option (List aj0) :=
 (bz6 n used (jc .i64 (v.Cyls * v.Heads))).bind fun r2 =>
 some r2
abbrev dqe (v:aja) (v16:Int) (used_1:List aj0) (v17:Int):S:=stB [(1,.box 9004 0),(3,.own 9005 [.int .i64,.int .i64] 0 used_1.length),(15,.c (.slice 41) (.slice (List.map aj5 v.Sets))),(16,.c (.int .i64) (.int v16)),(17,.c (.int .i64) (.int v17))] [(9004,.box [.c .str (.str v.Serial),.c (.int .i64) (.int v.Cyls),.c (.int .i64) (.int v.Heads),.c (.int .i64) (.int v.Size),.c (.slice 41) (.slice (List.map aj5 v.Sets))]),(9005,.row 80 (List.map aj2 used_1))]
def ayq (n:Nat) (v:aja) (v16:Int) (used_1:List aj0) (v17:Int):Option (((List aj0)×Int) ⊕ (((List aj0)))) :=
 bif (decide (v17 < v16)) then
  gd ((0≤v17∧v17 < (v.Sets.length:Int))) <|
  gd ((used_1.length+((gt v.Sets (Int.toNat v17)).Extents).length)≤2147483648) <|
  some (.inl ((used_1 ++ (gt v.Sets (Int.toNat v17)).Extents),(jc .i64 (v17+1))))
 else
  some (.inr used_1)
def bz2 (n:Nat) (v:aja):Option (List aj0) :=
 (awd n v).bind fun r1 =>
 bif (r1 != 0) then
  some []
 else
  (aji (fun (x:(List aj0)×Int)=>ayq n v (v.Sets.length:Int) x.1 x.2) n ([(⟨0,(jc .i64 (v.Size+1))⟩:aj0)],0)).bind fun y9 =>
  bzs n v y9
def cwf (n:Nat):Go.AE.Fn:=mkFn (A:=aja) (R:=(List aj0)) 34 [(true,[.str,.int .i64,.int .i64,.int .i64,.slice 41])] false (fun xs=>(⟨(cg (xs.getD 0 []) 0).toStr,(cg (xs.getD 0 []) 1).toInt,(cg (xs.getD 0 []) 2).toInt,(cg (xs.getD 0 []) 3).toInt,((cg (xs.getD 0 []) 4).toSl.map aql)⟩:aja)) (fun a=>[[.str a.Serial,.int a.Cyls,.int a.Heads,.int a.Size,.slice (List.map aj5 a.Sets)]]) (fun a=>bz2 n a) (fun r=>[.own 0 [.int .i64,.int .i64] 0 r.length]) (fun r=>[.row 80 (List.map aj2 r)])
theorem djs (n:Nat):aj1 jd (cwf n):=by
 have hΓ:=g1 (bwy n) (g1 (ezc n) (@g0 (aj1 jd)))
 have qe:=aI @ayd.eq_1 @dq9.eq_1
 refine aj7 (Tryz.f34.body.getD .skip) h00 Tryz.func34 rfl Tryz.call34 (by decide) (fun _ r=>⟨rfl,m1 ⟨80,_,_,rfl,ty80,rfl⟩ m0⟩) ?_
 rintro v r H
 try dsimp only at H
 unfold bz2 at H
 simp only [Tryz.f34,jt]
 refine rA ?_
 refine jp fun K2 hK2=>?_
 obtain ⟨r1,hr1,H⟩:=bind_some H
 have q:=aI qe hr1
 refine rAq ?_
 refine cnd H (fun h4 H=>?_) (fun h4 H=>?_)
 ·refine rA ?_
  refine jx ?_
  refine lf ?_
  obtain rfl:=Option.some.inj H
  exact rto [none]
 refine js ?_
 refine hK2 _ ?_
 refine rA ?_
 refine j1 (fun (x:(List aj0))=>dqk v x) (fun x=>bzs n v x=some r) ?_ ?_
 ·refine rA ?_
  refine jw ?_
  obtain ⟨y9,hy9,Ho9⟩:=bind_some H
  refine jW _ (fun x=>dqe v (v.Sets.length:Int) x.1 x.2) hy9 (wb [some 16,some 208]) ?_
  rintro ⟨used_1,v17⟩ z9 H
  try dsimp only at H
  unfold ayq at H
  refine Sm.st (dqe.eq_1 ..) ?_
  refine rA ?_
  refine jp fun K11 hK11=>?_
  refine cnd H (fun h12 H=>?_) (fun h12 H=>?_)
  ·refine js ?_
   refine hK11 _ ?_
   refine jp fun K13 hK13=>?_
   refine jw ?_
   obtain ⟨hg16,H⟩:=aj4 H
   refine rA ?_
   obtain ⟨hg15,H⟩:=aj4 H
   refine eA ?_
   refine hK13 _ ?_
   refine eA ?_
   refine lf ?_
   exact nx H (wb [some 9004,some 384])
  refine jZ ?_
  refine lf ?_
  refine lx H fun hyy=>?_
  subst hyy
  have H:=Ho9
  try dsimp only at H
  refine lf ?_
  exact ⟨_,H,wb [some 9004,some 9005]⟩
 rintro used H
 try dsimp only at H
 unfold bzs at H
 refine Sm.st (dqk.eq_1 ..) ?_
 obtain ⟨r2,hr2,H⟩:=bind_some H
 have q:=aI qe hr2
 refine rAq ?_
 refine jx ?_
 refine lf ?_
 obtain rfl:=Option.some.inj H
 exact rto [some 512]
abbrev cqx:S:=stB [] []
def bwu (n:Nat):Option Bool :=
 some true
abbrev cjp (n_:Int) (l:List aj0) (v9:Int) (end_:Int) (v10:Int):S:=stB [(1,.c (.int .i64) (.int n_)),(5,.c (.int .i64) (.int end_)),(8,.c (.slice 80) (.slice (List.map aj2 l))),(9,.c (.int .i64) (.int v9)),(10,.c (.int .i64) (.int v10))] []
def az7 (n:Nat) (n_:Int) (l:List aj0) (v9:Int) (end_:Int) (v10:Int):Option ((Int×Int) ⊕ (((Bool) ⊕ (Unit)))) :=
 bif (decide (v10 < v9)) then
  gd ((0≤v10∧v10 < (l.length:Int))) <|
  (ayw n (gt l (Int.toNat v10))).bind fun r1 =>
  bif (if (if (!r1)=true then true else (decide (((gt l (Int.toNat v10)).At)≤end_)))=true then true else (decide ((jc .i64 (((gt l (Int.toNat v10)).At)+((gt l (Int.toNat v10)).Len))) > n_))) then
   some (.inr (.inl false))
  else
   some (.inl ((jc .i64 (((gt l (Int.toNat v10)).At)+((gt l (Int.toNat v10)).Len))),(jc .i64 (v10+1))))
 else
  some (.inr (.inr ()))
def bqq (n:Nat) (l:List aj0) (n_:Int):Option Bool :=
 (aji (fun (x:Int×Int)=>az7 n n_ l (l.length:Int) x.1 x.2) n ((-1),0)).bind fun y5 =>
 match y5 with
 | .inl vv =>
  some vv
 | .inr vv =>
  bwu n
def ckk (n:Nat):Go.AE.Fn:=mkFn (A:=(List aj0)×Int) (R:=Bool) 137 [(false,[.slice 80]),(false,[.int .i64])] false (fun xs=>(((cg (xs.getD 0 []) 0).toSl.map ajl),(cg (xs.getD 1 []) 0).toInt)) (fun a=>[[.slice (List.map aj2 a.1)],[.int a.2]]) (fun a=>bqq n a.1 a.2) (fun r=>[.c .bool (.bool r)]) (fun r=>[])
theorem ew2 (n:Nat):aj1 jd (ckk n):=by
 have hΓ:=g1 (cy4 n) (@g0 (aj1 jd))
 refine aj7 (Tryz.f137.body.getD .skip) h00 Tryz.func137 rfl Tryz.call137 (by decide) (by intro _ r;exact ⟨rfl,by simp⟩) ?_
 rintro ⟨l,n_⟩ r H
 try dsimp only at H
 unfold bqq at H
 simp only [Tryz.f137,jt]
 refine rA ?_
 refine rA ?_
 refine j1 (fun (x:Unit)=>cqx) (fun x=>bwu n=some r) ?_ ?_
 ·refine rA ?_
  refine jw ?_
  obtain ⟨y5,hy5,Ho5⟩:=bind_some H
  refine jW _ (fun x=>cjp n_ l (l.length:Int) x.1 x.2) hy5 (wb []) ?_
  rintro ⟨end_,v10⟩ z5 H
  try dsimp only at H
  unfold az7 at H
  refine Sm.st (cjp.eq_1 ..) ?_
  refine rA ?_
  refine jp fun K7 hK7=>?_
  refine cnd H (fun h8 H=>?_) (fun h8 H=>?_)
  ·refine js ?_
   refine hK7 _ ?_
   refine jp fun K9 hK9=>?_
   refine jw ?_
   obtain ⟨hg15,H⟩:=aj4 H
   refine rA ?_
   refine jp fun K11 hK11=>?_
   obtain ⟨r1,hr1,H⟩:=bind_some H
   have q:=aI @bkz.eq_1 hr1
   refine rAq ?_
   refine cnd H (fun h13 H=>?_) (fun h13 H=>?_)
   ·refine rA ?_
    refine jx ?_
    refine lf ?_
    refine lx H fun hyy=>?_
    subst hyy
    have H:=Ho5
    try dsimp only at H
    refine lf ?_
    obtain rfl:=Option.some.inj H
    exact rt []
   refine js ?_
   refine hK11 _ ?_
   refine eA ?_
   refine hK9 _ ?_
   refine eA ?_
   refine lf ?_
   exact nx H (wb [])
  refine jZ ?_
  refine lf ?_
  refine lx H fun hyy=>?_
  subst hyy
  have H:=Ho5
  try dsimp only at H
  refine lf ?_
  exact ⟨(),H,wb []⟩
 rintro ⟨⟩ H
 try dsimp only at H
 unfold bwu at H
 refine Sm.st (cqx.eq_1 ..) ?_
 refine rA ?_
 refine jx ?_
 refine lf ?_
 obtain rfl:=Option.some.inj H
 exact rt []
def awg (n:Nat) (s:List aj0) (s_l:Nat) (i:Int) (j:Int):Option (Nat×(List aj0)) :=
 gd ((0≤i∧i≤j∧j≤((s_l:Nat):Int)∧((s_l:Nat):Int)≤(s_l:Int))) <|
 bif (i == j) then
  some (s_l,s)
 else
  gd ((0≤i∧i≤(s.length:Int))∧(0≤j∧j≤(s_l:Int)∧(s_l:Int)≤(s.length:Int))∧((Int.toNat (i - 0))+(List.take (Int.toNat ((s_l:Int) - j)) (List.drop (Int.toNat j) s)).length)≤s.length) <|
  gd ((0≤((((Int.toNat (i - 0))+(List.take (Int.toNat ((s_l:Int) - j)) (List.drop (Int.toNat j) s)).length):Nat):Int)∧((((Int.toNat (i - 0))+(List.take (Int.toNat ((s_l:Int) - j)) (List.drop (Int.toNat j) s)).length):Nat):Int)≤((s_l:Nat):Int)∧((s_l:Nat):Int)≤(s.length:Int))∧(((Int.toNat (i - 0))+(List.take (Int.toNat ((s_l:Int) - j)) (List.drop (Int.toNat j) s)).length)+(Int.toNat (((s_l:Nat):Int) - ((((Int.toNat (i - 0))+(List.take (Int.toNat ((s_l:Int) - j)) (List.drop (Int.toNat j) s)).length):Nat):Int))))≤s.length) <|
  some (((Int.toNat (i - 0))+(List.take (Int.toNat ((s_l:Int) - j)) (List.drop (Int.toNat j) s)).length),(cj9 (cj9 s (Int.toNat (i - 0)) (List.take (Int.toNat ((s_l:Int) - j)) (List.drop (Int.toNat j) s))) ((Int.toNat (i - 0))+(List.take (Int.toNat ((s_l:Int) - j)) (List.drop (Int.toNat j) s)).length) (aqo (Int.toNat (((s_l:Nat):Int) - ((((Int.toNat (i - 0))+(List.take (Int.toNat ((s_l:Int) - j)) (List.drop (Int.toNat j) s)).length):Nat):Int))) (⟨0,0⟩:aj0))))
theorem bjy (n:Nat) (s:List aj0) (s_l:Nat) (i:Int) (j:Int) (r:Nat×(List aj0)) (H:awg n s s_l i j=some r):bjz jd 138 [.ref (.own 0 [.int .i64,.int .i64] 0 s_l),.dat (false,[.int .i64]) [.int i],.dat (false,[.int .i64]) [.int j]] [.row 80 (List.map aj2 s)] [.own 0 [.int .i64,.int .i64] 0 r.1] [.row 80 (List.map aj2 r.2)]:=by
 have hΓ:=@g0 (aj1 jd)
 refine dj6 (Tryz.f138.body.getD .skip) h00 Tryz.func138 rfl Tryz.call138 (Jg rfl) (Jg rfl) ?_
 unfold awg at H
 simp only [Tryz.f138,jt]
 refine rA ?_
 refine sX fun K2 hK2=>?_
 obtain ⟨hg3,H⟩:=aj4 H
 iterate 5 refine oX ?_
 refine oY ?_
 refine hK2 _ ?_
 refine jp fun K4 hK4=>?_
 refine rA ?_
 refine cnd H (fun h6 H=>?_) (fun h6 H=>?_)
 ·refine rA ?_
  refine jx ?_
  refine lf ?_
  obtain rfl:=Option.some.inj H
  exact rtM [some 0]
 refine js ?_
 refine hK4 _ ?_
 refine rA ?_
 obtain ⟨⟨hg14,hg15,hg16⟩,H⟩:=aj4 H
 refine rD ?_
 refine sX fun K10 hK10=>?_
 obtain ⟨⟨hg11,hg12⟩,H⟩:=aj4 H
 iterate 5 refine oX ?_
 refine oY ?_
 refine hK10 _ ?_
 refine rA ?_
 refine jx ?_
 refine lf ?_
 obtain rfl:=Option.some.inj H
 exact rtM [some 0]
abbrev czu:S:=stB [] []
def bk2 (n:Nat):Option ((List aj0)×(List aj0)×Int) :=
 some ([],[],200)
abbrev cwy (want_1:Int) (most:Int) (got:List aj0) (rest:List aj0) (rest_2:Nat) (longest:Int):S:=stB [(1,.c (.int .i64) (.int want_1)),(2,.c (.int .i64) (.int most)),(6,.own 9005 [.int .i64,.int .i64] 0 got.length),(7,.own 9006 [.int .i64,.int .i64] 0 rest_2),(9,.c (.int .i64) (.int longest))] [(9005,.row 80 (List.map aj2 got)),(9006,.row 80 (List.map aj2 rest))]
def bk5 (n:Nat) (want_1:Int) (most:Int) (got:List aj0) (rest:List aj0) (rest_2:Nat) (longest:Int):Option ((Int×(List aj0)×(List aj0)×Nat) ⊕ ((((List aj0)×(List aj0)×Int) ⊕ (Unit)))) :=
 gd ((0≤longest∧longest < (rest_2:Int))∧(Int.toNat longest) < rest.length∧(got.length+1)≤2147483648) <|
 gd ((0≤longest∧longest < (rest_2:Int))∧(Int.toNat longest) < rest.length) <|
 (awg n rest rest_2 longest (jc .i64 (longest+1))).bind fun r3 =>
 some (.inl ((jc .i64 (want_1 - ((gt rest (Int.toNat longest)).Len))),(got ++ [(gt rest (Int.toNat longest))]),r3.2,r3.1))
abbrev cz7 (want_1:Int) (most:Int) (got:List aj0) (rest:List aj0) (rest_4:Nat) (longest_2:Int) (v35:Int) (v36:Int):S:=stB [(1,.c (.int .i64) (.int want_1)),(2,.c (.int .i64) (.int most)),(6,.own 9013 [.int .i64,.int .i64] 0 got.length),(7,.own 9014 [.int .i64,.int .i64] 0 rest_4),(9,.c (.int .i64) (.int longest_2)),(34,.own 9014 [.int .i64,.int .i64] 0 rest_4),(35,.c (.int .i64) (.int v35)),(36,.c (.int .i64) (.int v36))] [(9013,.row 80 (List.map aj2 got)),(9014,.row 80 (List.map aj2 rest))]
def bqc (n:Nat) (want_1:Int) (most:Int) (got:List aj0) (rest:List aj0) (rest_4:Nat) (longest_2:Int) (v35:Int) (v36:Int):Option ((Nat×Int×Int) ⊕ ((((List aj0)×(List aj0)×Int) ⊕ (Nat×Int)))) :=
 some (.inl (rest_4,longest_2,(jc .i64 (v36+1))))
abbrev czt (want_1:Int) (most:Int) (got:List aj0) (rest:List aj0) (v35:Int) (rest_3:Nat) (longest_1:Int) (v36:Int):S:=stB [(1,.c (.int .i64) (.int want_1)),(2,.c (.int .i64) (.int most)),(6,.own 9011 [.int .i64,.int .i64] 0 got.length),(7,.own 9012 [.int .i64,.int .i64] 0 rest_3),(9,.c (.int .i64) (.int longest_1)),(34,.own 9012 [.int .i64,.int .i64] 0 rest_3),(35,.c (.int .i64) (.int v35)),(36,.c (.int .i64) (.int v36))] [(9011,.row 80 (List.map aj2 got)),(9012,.row 80 (List.map aj2 rest))]
def cwk (n:Nat) (want_1:Int) (most:Int) (got:List aj0) (rest:List aj0) (v35:Int) (rest_3:Nat) (longest_1:Int) (v36:Int):Option ((Nat×Int×Int) ⊕ ((((List aj0)×(List aj0)×Int) ⊕ (Nat×Int)))) :=
 bif (decide (v36 < v35)) then
  gd ((0≤v36∧v36 < (rest_3:Int))∧(Int.toNat v36) < rest.length) <|
  bif (decide (((gt rest (Int.toNat v36)).Len) > want_1)) then
   gd ((got.length+1)≤2147483648) <|
   gd ((0≤v36∧v36 < (rest_3:Int))∧(Int.toNat v36) < rest.length) <|
   some (.inr (.inl ((got ++ [(⟨(gt rest (Int.toNat v36)).At,want_1⟩:aj0)]),(List.take rest_3 (List.set rest (Int.toNat v36) (⟨(jc .i64 (((gt rest (Int.toNat v36)).At)+want_1)),(jc .i64 (((gt rest (Int.toNat v36)).Len) - want_1))⟩:aj0))),0)))
  else
   bif (((gt rest (Int.toNat v36)).Len) == want_1) then
    gd ((got.length+1)≤2147483648) <|
    (awg n rest rest_3 v36 (jc .i64 (v36+1))).bind fun r4 =>
    some (.inr (.inl ((got ++ [(gt rest (Int.toNat v36))]),(List.take r4.1 r4.2),0)))
   else
    gd ((0≤longest_1∧longest_1 < (rest_3:Int))∧(Int.toNat longest_1) < rest.length) <|
    bif (decide (((gt rest (Int.toNat v36)).Len) > ((gt rest (Int.toNat longest_1)).Len))) then
     bqc n want_1 most got rest rest_3 v36 v35 v36
    else
     bqc n want_1 most got rest rest_3 longest_1 v35 v36
 else
  some (.inr (.inr (rest_3,longest_1)))
abbrev cwx (most:Int) (want_1:Int) (got:List aj0) (rest:List aj0) (rest_1:Nat):S:=stB [(1,.c (.int .i64) (.int want_1)),(2,.c (.int .i64) (.int most)),(6,.own 9003 [.int .i64,.int .i64] 0 got.length),(7,.own 9004 [.int .i64,.int .i64] 0 rest_1)] [(9003,.row 80 (List.map aj2 got)),(9004,.row 80 (List.map aj2 rest))]
def czp (n:Nat) (most:Int) (want_1:Int) (got:List aj0) (rest:List aj0) (rest_1:Nat):Option ((Int×(List aj0)×(List aj0)×Nat) ⊕ ((((List aj0)×(List aj0)×Int) ⊕ (Unit)))) :=
 bif (if (decide (((got.length:Nat):Int) < most))=true then (decide (((rest_1:Nat):Int) > 0)) else false) then
  (aji (fun (x:Nat×Int×Int)=>cwk n want_1 most got rest ((rest_1:Nat):Int) x.1 x.2.1 x.2.2) n (rest_1,0,0)).bind fun y23 =>
  match y23 with
  | .inl vv =>
   some (.inr (.inl (vv.1,vv.2.1,vv.2.2)))
  | .inr vv =>
   bk5 n want_1 most got rest vv.1 vv.2
 else
  some (.inr (.inr ()))
def czy (n:Nat) (free:List aj0) (want:Int) (most:Int):Option ((List aj0)×(List aj0)×Int) :=
 (bqq n free 512).bind fun r1 =>
 bif (if (if (!r1)=true then true else (decide (want < 1)))=true then true else (decide (most < 1))) then
  some ([],[],1)
 else
  (aqy n free).bind fun r2 =>
  (aji (fun (x:Int×(List aj0)×(List aj0)×Nat)=>czp n most x.1 x.2.1 x.2.2.1 x.2.2.2) n (want,[],r2,r2.length)).bind fun y9 =>
  match y9 with
  | .inl vv =>
   some (vv.1,vv.2.1,vv.2.2)
  | .inr vv =>
   bk2 n
def dqz (n:Nat):Go.AE.Fn:=mkFn (A:=(List aj0)×Int×Int) (R:=(List aj0)×(List aj0)×Int) 85 [(false,[.slice 80]),(false,[.int .i64]),(false,[.int .i64])] true (fun xs=>(((cg (xs.getD 0 []) 0).toSl.map ajl),(cg (xs.getD 1 []) 0).toInt,(cg (xs.getD 2 []) 0).toInt)) (fun a=>[[.slice (List.map aj2 a.1)],[.int a.2.1],[.int a.2.2]]) (fun a=>czy n a.1 a.2.1 a.2.2) (fun r=>[.own 0 [.int .i64,.int .i64] 0 r.1.length,.c (.slice 80) (.slice (List.map aj2 r.2.1)),.c (.int .i64) (.int r.2.2)]) (fun r=>[.row 80 (List.map aj2 r.1)])
theorem ewv (n:Nat):aj1 jd (dqz n):=by
 have hΓ:=g1 (ew2 n) (g1 (ak0 n) (@g0 (aj1 jd)))
 have qe:=aI @ckk.eq_1 @aqq.eq_1
 refine aj7 (Tryz.f85.body.getD .skip) h00 Tryz.func85 rfl Tryz.call85 (by decide) (by intro h;cases h) ?_
 rintro ⟨free,want,most⟩ r H
 try dsimp only at H
 unfold czy at H
 simp only [Tryz.f85,jt]
 refine rA ?_
 refine Sm.scope ?_
 refine jp fun K2 hK2=>?_
 obtain ⟨r1,hr1,H⟩:=bind_some H
 have q:=aI qe hr1
 refine rAq ?_
 refine cnd H (fun h4 H=>?_) (fun h4 H=>?_)
 ·refine rA ?_
  refine jx ?_
  refine lf ?_
  obtain rfl:=Option.some.inj H
  exact rto [none]
 refine js ?_
 refine hK2 _ ?_
 obtain ⟨r2,hr2,H⟩:=bind_some H
 have q:=aI qe hr2
 refine rAq ?_
 refine jp fun K7 hK7=>?_
 refine Sm.of (Γ:=[]) h00 mixed (by simp) rfl ?_
 refine hK7 _ ?_
 refine j1 (fun (x:Unit)=>czu) (fun x=>bk2 n=some r) ?_ ?_
 ·refine jw ?_
  obtain ⟨y9,hy9,Ho9⟩:=bind_some H
  refine jW _ (fun x=>cwx most x.1 x.2.1 x.2.2.1 x.2.2.2) hy9 (wb [none,some 384]) ?_
  rintro ⟨want_1,got,rest,rest_1⟩ z9 H
  try dsimp only at H
  unfold czp at H
  refine Sm.st (cwx.eq_1 ..) ?_
  refine jp fun K10 hK10=>?_
  refine rA ?_
  refine cnd H (fun h12 H=>?_) (fun h12 H=>?_)
  ·refine js ?_
   refine hK10 _ ?_
   refine jw ?_
   refine rA ?_
   refine j1 (fun (x:Nat×Int)=>cwy want_1 most got rest x.1 x.2) (fun x=>bk5 n want_1 most got rest x.1 x.2=some z9) ?_ ?_
   ·refine rA ?_
    refine jw ?_
    obtain ⟨y23,hy23,Ho23⟩:=bind_some H
    refine jW _ (fun x=>czt want_1 most got rest ((rest_1:Nat):Int) x.1 x.2.1 x.2.2) hy23 (wb [some 9003,some 9004]) ?_
    rintro ⟨rest_3,longest_1,v36⟩ z23 H
    try dsimp only at H
    unfold cwk at H
    refine Sm.st (czt.eq_1 ..) ?_
    refine rA ?_
    refine jp fun K25 hK25=>?_
    refine cnd H (fun h26 H=>?_) (fun h26 H=>?_)
    ·refine js ?_
     refine hK25 _ ?_
     refine j1 (fun (x:Int)=>cz7 want_1 most got rest rest_3 x ((rest_1:Nat):Int) v36) (fun x=>bqc n want_1 most got rest rest_3 x ((rest_1:Nat):Int) v36=some z23) ?_ ?_
     ·refine jw ?_
      obtain ⟨⟨hg47,hg48⟩,H⟩:=aj4 H
      refine rA ?_
      refine jp fun K28 hK28=>?_
      refine rA ?_
      refine cnd H (fun h30 H=>?_) (fun h30 H=>?_)
      ·obtain ⟨hg36,H⟩:=aj4 H
       refine rA ?_
       obtain ⟨⟨hg34,hg35⟩,H⟩:=aj4 H
       refine rA ?_
       refine rA ?_
       refine jx ?_
       refine lf ?_
       refine lx H fun hyy=>?_
       subst hyy
       have H:=Ho23
       try dsimp only at H
       refine lf ?_
       refine lx H fun hyy=>?_
       subst hyy
       have H:=Ho9
       try dsimp only at H
       refine lf ?_
       obtain rfl:=Option.some.inj H
       exact rto [some 816]
      refine js ?_
      refine hK28 _ ?_
      refine jp fun K37 hK37=>?_
      refine rA ?_
      refine cnd H (fun h39 H=>?_) (fun h39 H=>?_)
      ·obtain ⟨hg42,H⟩:=aj4 H
       refine rA ?_
       refine sX fun K41 hK41=>?_
       obtain ⟨r4,hr4,H⟩:=bind_some H
       have q:=hr4
       iterate 5 refine oX ?_
       refine oMq (bjy n _ _ _ _ r4 hr4) [9012] [] ?_
       iterate 3 refine oXq ?_
       refine hK41 _ ?_
       refine jx ?_
       refine lf ?_
       refine lx H fun hyy=>?_
       subst hyy
       have H:=Ho23
       try dsimp only at H
       refine lf ?_
       refine lx H fun hyy=>?_
       subst hyy
       have H:=Ho9
       try dsimp only at H
       refine lf ?_
       obtain rfl:=Option.some.inj H
       exact rto [some 1168]
      refine js ?_
      refine hK37 _ ?_
      obtain ⟨⟨hg45,hg46⟩,H⟩:=aj4 H
      refine rD ?_
      refine cnd H (fun h44 H=>?_) (fun h44 H=>?_)
      ·refine eA ?_
       refine lf ?_
       exact ⟨_,H,wb [some 9011,some 9012]⟩
      refine js ?_
      refine lf ?_
      exact ⟨_,H,wb [some 9011,some 9012]⟩
     rintro longest_2 H
     try dsimp only at H
     unfold bqc at H
     refine Sm.st (cz7.eq_1 ..) ?_
     refine eA ?_
     refine lf ?_
     exact nx H (wb [some 9013,some 9014])
    refine jZ ?_
    refine lf ?_
    refine lx H fun hyy=>?_
    subst hyy
    have H:=Ho23
    try dsimp only at H
    refine lf ?_
    exact ⟨(rest_3,longest_1),H,wb [some 9011,some 9012]⟩
   rintro ⟨rest_2,longest⟩ H
   try dsimp only at H
   unfold bk5 at H
   refine Sm.st (cwy.eq_1 ..) ?_
   obtain ⟨⟨hg19,hg20,hg21⟩,H⟩:=aj4 H
   refine rA ?_
   obtain ⟨⟨hg17,hg18⟩,H⟩:=aj4 H
   refine rA ?_
   refine sX fun K16 hK16=>?_
   obtain ⟨r3,hr3,H⟩:=bind_some H
   have q:=hr3
   iterate 4 refine oX ?_
   refine oMq (bjy n _ _ _ _ r3 hr3) [9006] [] ?_
   refine oXq ?_
   refine hK16 _ ?_
   refine jZ ?_
   refine lf ?_
   exact nx H (wb [some 1536,some 9006])
  refine jZ ?_
  refine lf ?_
  refine lx H fun hyy=>?_
  subst hyy
  have H:=Ho9
  try dsimp only at H
  refine lf ?_
  exact ⟨(),H,wb []⟩
 rintro ⟨⟩ H
 try dsimp only at H
 unfold bk2 at H
 refine Sm.st (czu.eq_1 ..) ?_
 refine rA ?_
 refine jx ?_
 refine lf ?_
 obtain rfl:=Option.some.inj H
 exact rto [none]
abbrev bw6 (v:aja) (l:List ajc):S:=stB [(1,.box 9000 0),(2,.box 9001 0),(3,.own 9002 [.str,.int .i64,.int .i64,.bool,.bool,.int .i64,.int .i64,.int .i64,.int .i64,.slice 80,.int .i64] 0 l.length)] [(9000,.box [.c .str (.str v.Serial),.c (.int .i64) (.int v.Cyls),.c (.int .i64) (.int v.Heads),.c (.int .i64) (.int v.Size),.c (.slice 41) (.slice (List.map aj5 v.Sets))]),(9001,.box [.c .str (.str []),.c (.int .i64) (.int 0),.c (.int .i64) (.int 0),.c (.int .i64) (.int 0),.nilsl]),(9002,.row 41 (List.map aj5 l))]
def aqv (n:Nat) (v:aja) (l:List ajc):Option aja :=
 some (⟨v.Serial,v.Cyls,v.Heads,v.Size,l⟩:aja)
abbrev awq (v:aja) (v16:Int) (l_1:List ajc) (v17:Int):S:=stB [(1,.box 9006 0),(2,.box 9007 0),(3,.own 9008 [.str,.int .i64,.int .i64,.bool,.bool,.int .i64,.int .i64,.int .i64,.int .i64,.slice 80,.int .i64] 0 l_1.length),(15,.c (.slice 41) (.slice (List.map aj5 v.Sets))),(16,.c (.int .i64) (.int v16)),(17,.c (.int .i64) (.int v17))] [(9006,.box [.c .str (.str v.Serial),.c (.int .i64) (.int v.Cyls),.c (.int .i64) (.int v.Heads),.c (.int .i64) (.int v.Size),.c (.slice 41) (.slice (List.map aj5 v.Sets))]),(9007,.box [.c .str (.str []),.c (.int .i64) (.int 0),.c (.int .i64) (.int 0),.c (.int .i64) (.int 0),.nilsl]),(9008,.row 41 (List.map aj5 l_1))]
def akp (n:Nat) (v:aja) (v16:Int) (l_1:List ajc) (v17:Int):Option (((List ajc)×Int) ⊕ (((List ajc)))) :=
 bif (decide (v17 < v16)) then
  gd ((0≤v17∧v17 < (v.Sets.length:Int))) <|
  (aqy n ((gt v.Sets (Int.toNat v17)).Extents)).bind fun r1 =>
  gd ((0≤v17∧v17 < (l_1.length:Int))∧(Int.toNat v17) < l_1.length) <|
  some (.inl ((List.set l_1 (Int.toNat v17) (⟨(gt v.Sets (Int.toNat v17)).Name,((gt v.Sets (Int.toNat v17)).Dcb),r1,(gt v.Sets (Int.toNat v17)).Used⟩:ajc)),(jc .i64 (v17+1))))
 else
  some (.inr l_1)
def az9 (n:Nat) (v:aja):Option aja :=
 gd ((0≤(v.Sets.length:Int)∧(v.Sets.length:Int)≤(jc .i64 ((v.Sets.length:Int)+1))∧(jc .i64 ((v.Sets.length:Int)+1))≤2147483648)) <|
 (aji (fun (x:(List ajc)×Int)=>akp n v (v.Sets.length:Int) x.1 x.2) n ((aqo (Int.toNat (v.Sets.length:Int)) (⟨[],(⟨0,0,false,false,0,0,0,0⟩:TDcb),[],0⟩:ajc)),0)).bind fun y7 =>
 aqv n v y7
def bzb (n:Nat):Go.AE.Fn:=mkFn (A:=aja) (R:=aja) 57 [(true,[.str,.int .i64,.int .i64,.int .i64,.slice 41])] true (fun xs=>(⟨(cg (xs.getD 0 []) 0).toStr,(cg (xs.getD 0 []) 1).toInt,(cg (xs.getD 0 []) 2).toInt,(cg (xs.getD 0 []) 3).toInt,((cg (xs.getD 0 []) 4).toSl.map aql)⟩:aja)) (fun a=>[[.str a.Serial,.int a.Cyls,.int a.Heads,.int a.Size,.slice (List.map aj5 a.Sets)]]) (fun a=>az9 n a) (fun r=>[.agg [.c .str (.str r.Serial),.c (.int .i64) (.int r.Cyls),.c (.int .i64) (.int r.Heads),.c (.int .i64) (.int r.Size),.own 0 [.str,.int .i64,.int .i64,.bool,.bool,.int .i64,.int .i64,.int .i64,.int .i64,.slice 80,.int .i64] 0 r.Sets.length]]) (fun r=>[.row 41 (List.map aj5 r.Sets)])
theorem cyl (n:Nat):aj1 jd (bzb n):=by
 have hΓ:=g1 (ak0 n) (@g0 (aj1 jd))
 refine aj7 (Tryz.f57.body.getD .skip) h00 Tryz.func57 rfl Tryz.call57 (by decide) (by intro h;cases h) ?_
 rintro v r H
 try dsimp only at H
 unfold az9 at H
 simp only [Tryz.f57,jt]
 refine rA ?_
 refine sX fun K2 hK2=>?_
 obtain ⟨hg3,H⟩:=aj4 H
 iterate 7 refine oX ?_
 refine oY ?_
 refine oX ?_
 refine hK2 _ ?_
 refine j1 (fun (x:(List ajc))=>bw6 v x) (fun x=>aqv n v x=some r) ?_ ?_
 ·refine rA ?_
  refine jw ?_
  obtain ⟨y7,hy7,Ho7⟩:=bind_some H
  refine jW _ (fun x=>awq v (v.Sets.length:Int) x.1 x.2) hy7 (wb [some 16,some 32,some 208]) ?_
  rintro ⟨l_1,v17⟩ z7 H
  try dsimp only at H
  unfold akp at H
  refine Sm.st (awq.eq_1 ..) ?_
  refine rA ?_
  refine jp fun K9 hK9=>?_
  refine cnd H (fun h10 H=>?_) (fun h10 H=>?_)
  ·refine js ?_
   refine hK9 _ ?_
   refine jp fun K11 hK11=>?_
   refine jw ?_
   obtain ⟨hg16,H⟩:=aj4 H
   refine rA ?_
   obtain ⟨r1,hr1,H⟩:=bind_some H
   have q:=aI @aqq.eq_1 hr1
   refine rAq ?_
   obtain ⟨⟨hg14,hg15⟩,H⟩:=aj4 H
   refine eA ?_
   refine hK11 _ ?_
   refine eA ?_
   refine lf ?_
   exact nx H (wb [some 9006,some 9007,some 9008])
  refine jZ ?_
  refine lf ?_
  refine lx H fun hyy=>?_
  subst hyy
  have H:=Ho7
  try dsimp only at H
  refine lf ?_
  exact ⟨_,H,wb [some 9006,some 9007,some 9008]⟩
 rintro l H
 try dsimp only at H
 unfold aqv at H
 refine Sm.st (bw6.eq_1 ..) ?_
 refine rA ?_
 refine rA ?_
 refine jx ?_
 refine lf ?_
 obtain rfl:=Option.some.inj H
 exact rto [some 9002]
def bya (n:Nat) (v:aja) (d:ajc) (tracks:Int):Option (aja×Int) :=
 (awd n v).bind fun r1 =>
 bif (r1 != 0) then
  some ((⟨[],0,0,0,[]⟩:aja),r1)
 else
  (bku n d.Name).bind fun r2 =>
  gd (((!(!r2))=true→(aq5 n d.Dcb).isSome=true)) <|
  bif (if (if (!r2)=true then true else (!((aq5 n d.Dcb).getD default)))=true then true else (decide (tracks < 1))) then
   some ((⟨[],0,0,0,[]⟩:aja),1)
  else
   (bw0 n v d.Name).bind fun r3 =>
   bif r3.2 then
    some ((⟨[],0,0,0,[]⟩:aja),4)
   else
    bif ((v.Sets.length:Int) == (if (jc .i64 (14 * v.Size)) < 64 then (jc .i64 (14 * v.Size)) else 64)) then
     some ((⟨[],0,0,0,[]⟩:aja),7)
    else
     (bz2 n v).bind fun r4 =>
     (czy n r4 tracks 8).bind fun r5 =>
     bif (r5.2.2 != 0) then
      some ((⟨[],0,0,0,[]⟩:aja),r5.2.2)
     else
      (az9 n v).bind fun r6 =>
      (bz5 n r6.Sets r3.1 [(⟨d.Name,d.Dcb,r5.1,0⟩:ajc)]).bind fun r7 =>
      some ((⟨r6.Serial,r6.Cyls,r6.Heads,r6.Size,r7⟩:aja),0)
def dqo (n:Nat):Go.AE.Fn:=mkFn (A:=aja×ajc×Int) (R:=aja×Int) 41 [(true,[.str,.int .i64,.int .i64,.int .i64,.slice 41]),(true,[.str,.int .i64,.int .i64,.bool,.bool,.int .i64,.int .i64,.int .i64,.int .i64,.slice 80,.int .i64]),(false,[.int .i64])] true (fun xs=>((⟨(cg (xs.getD 0 []) 0).toStr,(cg (xs.getD 0 []) 1).toInt,(cg (xs.getD 0 []) 2).toInt,(cg (xs.getD 0 []) 3).toInt,((cg (xs.getD 0 []) 4).toSl.map aql)⟩:aja),(⟨(cg (xs.getD 1 []) 0).toStr,(⟨(cg (xs.getD 1 []) 1).toInt,(cg (xs.getD 1 []) 2).toInt,(cg (xs.getD 1 []) 3).toBool,(cg (xs.getD 1 []) 4).toBool,(cg (xs.getD 1 []) 5).toInt,(cg (xs.getD 1 []) 6).toInt,(cg (xs.getD 1 []) 7).toInt,(cg (xs.getD 1 []) 8).toInt⟩:TDcb),((cg (xs.getD 1 []) 9).toSl.map ajl),(cg (xs.getD 1 []) 10).toInt⟩:ajc),(cg (xs.getD 2 []) 0).toInt)) (fun a=>[[.str a.1.Serial,.int a.1.Cyls,.int a.1.Heads,.int a.1.Size,.slice (List.map aj5 a.1.Sets)],[.str a.2.1.Name,.int a.2.1.Dcb.Org,.int a.2.1.Dcb.Format,.bool a.2.1.Dcb.Blocked,.bool a.2.1.Dcb.Asa,.int a.2.1.Dcb.Lrecl,.int a.2.1.Dcb.Blksize,.int a.2.1.Dcb.KeyLen,.int a.2.1.Dcb.KeyPos,.slice (List.map aj2 a.2.1.Extents),.int a.2.1.Used],[.int a.2.2]]) (fun a=>bya n a.1 a.2.1 a.2.2) (fun r=>[.agg [.c .str (.str r.1.Serial),.c (.int .i64) (.int r.1.Cyls),.c (.int .i64) (.int r.1.Heads),.c (.int .i64) (.int r.1.Size),.own 0 [.str,.int .i64,.int .i64,.bool,.bool,.int .i64,.int .i64,.int .i64,.int .i64,.slice 80,.int .i64] 0 r.1.Sets.length],.c (.int .i64) (.int r.2)]) (fun r=>[.row 41 (List.map aj5 r.1.Sets)])
theorem ews (n:Nat):aj1 jd (dqo n):=by
 have hΓ:=g1 (bwy n) (g1 (ejw n) (g1 (bz7 n) (g1 (djn n) (g1 (djs n) (g1 (ewv n) (g1 (cyl n) (@g0 (aj1 jd))))))))
 have qe:=aI @ayd.eq_1 (aI @djx.eq_1 (aI @bjj.eq_1 (aI @bkf.eq_1 (aI @cwf.eq_1 (aI @dqz.eq_1 @bzb.eq_1)))))
 refine aj7 (Tryz.f41.body.getD .skip) h00 Tryz.func41 rfl Tryz.call41 (by decide) (by intro h;cases h) ?_
 rintro ⟨v,d,tracks⟩ r H
 try dsimp only at H
 unfold bya at H
 simp only [Tryz.f41,jt]
 refine rA ?_
 refine jp fun K2 hK2=>?_
 obtain ⟨r1,hr1,H⟩:=bind_some H
 have q:=aI qe hr1
 refine rAq ?_
 refine rA ?_
 refine cnd H (fun h5 H=>?_) (fun h5 H=>?_)
 ·refine rA ?_
  refine jx ?_
  refine lf ?_
  obtain rfl:=Option.some.inj H
  exact rto [none]
 refine js ?_
 refine hK2 _ ?_
 refine jp fun K7 hK7=>?_
 obtain ⟨r2,hr2,H⟩:=bind_some H
 obtain ⟨hg28,H⟩:=aj4 H
 have q:=aI qe hr2
 refine rAq ?_
 refine cnd H (fun h9 H=>?_) (fun h9 H=>?_)
 ·refine rA ?_
  refine jx ?_
  refine lf ?_
  obtain rfl:=Option.some.inj H
  exact rto [none]
 refine js ?_
 refine hK7 _ ?_
 obtain ⟨r3,hr3,H⟩:=bind_some H
 have q:=aI qe hr3
 refine rAq ?_
 refine jp fun K12 hK12=>?_
 refine rA ?_
 refine cnd H (fun h14 H=>?_) (fun h14 H=>?_)
 ·refine rA ?_
  refine jx ?_
  refine lf ?_
  obtain rfl:=Option.some.inj H
  exact rto [none]
 refine js ?_
 refine hK12 _ ?_
 refine jp fun K16 hK16=>?_
 refine rA ?_
 refine cnd H (fun h18 H=>?_) (fun h18 H=>?_)
 ·refine rA ?_
  refine jx ?_
  refine lf ?_
  obtain rfl:=Option.some.inj H
  exact rto [none]
 refine js ?_
 refine hK16 _ ?_
 obtain ⟨r4,hr4,H⟩:=bind_some H
 obtain ⟨r5,hr5,H⟩:=bind_some H
 have q:=aI qe (aI hr4 hr5)
 refine rAq ?_
 refine jp fun K21 hK21=>?_
 refine rA ?_
 refine cnd H (fun h23 H=>?_) (fun h23 H=>?_)
 ·refine rA ?_
  refine jx ?_
  refine lf ?_
  obtain rfl:=Option.some.inj H
  exact rto [none]
 refine js ?_
 refine hK21 _ ?_
 obtain ⟨r6,hr6,H⟩:=bind_some H
 have q:=aI qe hr6
 refine rAq ?_
 refine sX fun K26 hK26=>?_
 obtain ⟨r7,hr7,H⟩:=bind_some H
 have q:=hr7
 iterate 10 refine oX ?_
 refine oMq (dwj n _ _ _ r7 hr7) [1072,1232] [1248] ?_
 iterate 2 refine oXq ?_
 refine hK26 _ ?_
 refine rA ?_
 refine jx ?_
 refine lf ?_
 obtain rfl:=Option.some.inj H
 exact rto [some 1248]
abbrev byx:S:=stB [] []
def bw4 (n:Nat):Option Bool :=
 some true
abbrev cj2 (a:List aj0) (b:List aj0) (k:Int):S:=stB [(0,.c (.slice 80) (.slice (List.map aj2 a))),(1,.c (.slice 80) (.slice (List.map aj2 b))),(5,.c (.int .i64) (.int k))] []
def bys (n:Nat) (a:List aj0) (b:List aj0) (k:Int):Option ((Int) ⊕ (((Bool) ⊕ (Unit)))) :=
 bif (decide (k < (a.length:Int))) then
  gd ((0≤k∧k < (a.length:Int))∧(0≤k∧k < (b.length:Int))) <|
  bif (!((((gt a (Int.toNat k)).At) == ((gt b (Int.toNat k)).At)) && (((gt a (Int.toNat k)).Len) == ((gt b (Int.toNat k)).Len)))) then
   some (.inr (.inl false))
  else
   some (.inl (jc .i64 (k+1)))
 else
  some (.inr (.inr ()))
def bjc (n:Nat) (a:List aj0) (b:List aj0):Option Bool :=
 bif ((a.length:Int) != (b.length:Int)) then
  some false
 else
  (aji (fun (x:Int)=>bys n a b x) n 0).bind fun y8 =>
  match y8 with
  | .inl vv =>
   some vv
  | .inr vv =>
   bw4 n
def czr (n:Nat):Go.AE.Fn:=mkFn (A:=(List aj0)×(List aj0)) (R:=Bool) 49 [(false,[.slice 80]),(false,[.slice 80])] false (fun xs=>(((cg (xs.getD 0 []) 0).toSl.map ajl),((cg (xs.getD 1 []) 0).toSl.map ajl))) (fun a=>[[.slice (List.map aj2 a.1)],[.slice (List.map aj2 a.2)]]) (fun a=>bjc n a.1 a.2) (fun r=>[.c .bool (.bool r)]) (fun r=>[])
theorem dyb (n:Nat):aj1 jd (czr n):=by
 have hΓ:=@g0 (aj1 jd)
 refine aj7 (Tryz.f49.body.getD .skip) h00 Tryz.func49 rfl Tryz.call49 (by decide) (by intro _ r;exact ⟨rfl,by simp⟩) ?_
 rintro ⟨a,b⟩ r H
 try dsimp only at H
 unfold bjc at H
 simp only [Tryz.f49,jt]
 refine rA ?_
 refine jp fun K2 hK2=>?_
 refine rA ?_
 refine cnd H (fun h4 H=>?_) (fun h4 H=>?_)
 ·refine rA ?_
  refine jx ?_
  refine lf ?_
  obtain rfl:=Option.some.inj H
  exact rt []
 refine js ?_
 refine hK2 _ ?_
 refine j1 (fun (x:Unit)=>byx) (fun x=>bw4 n=some r) ?_ ?_
 ·refine rA ?_
  refine jw ?_
  obtain ⟨y8,hy8,Ho8⟩:=bind_some H
  refine jW _ (fun x=>cj2 a b x) hy8 (wb []) ?_
  rintro k z8 H
  try dsimp only at H
  unfold bys at H
  refine Sm.st (cj2.eq_1 ..) ?_
  refine jp fun K9 hK9=>?_
  refine rA ?_
  refine cnd H (fun h11 H=>?_) (fun h11 H=>?_)
  ·refine js ?_
   refine hK9 _ ?_
   refine jp fun K12 hK12=>?_
   refine jw ?_
   obtain ⟨⟨hg16,hg17⟩,H⟩:=aj4 H
   refine rD ?_
   refine cnd H (fun h14 H=>?_) (fun h14 H=>?_)
   ·refine rA ?_
    refine jx ?_
    refine lf ?_
    refine lx H fun hyy=>?_
    subst hyy
    have H:=Ho8
    try dsimp only at H
    refine lf ?_
    obtain rfl:=Option.some.inj H
    exact rt []
   refine js ?_
   refine hK12 _ ?_
   refine eA ?_
   refine lf ?_
   exact nx H (wb [])
  refine jZ ?_
  refine lf ?_
  refine lx H fun hyy=>?_
  subst hyy
  have H:=Ho8
  try dsimp only at H
  refine lf ?_
  exact ⟨(),H,wb []⟩
 rintro ⟨⟩ H
 try dsimp only at H
 unfold bw4 at H
 refine Sm.st (byx.eq_1 ..) ?_
 refine rA ?_
 refine jx ?_
 refine lf ?_
 obtain rfl:=Option.some.inj H
 exact rt []
def bym (n:Nat):Option Bool :=
 (eq4 n [86,49] 4 2 1).bind fun r1 =>
 (byg n).bind fun r2 =>
 (bya n (⟨r1.1.Serial,r1.1.Cyls,r1.1.Heads,r1.1.Size,[]⟩:aja) (⟨[65],r2,[],0⟩:ajc) 3).bind fun r3 =>
 (byg n).bind fun r4 =>
 (bya n r3.1 (⟨[66],r4,[],0⟩:ajc) 2).bind fun r5 =>
 (bz2 n r5.1).bind fun r6 =>
 gd (((if (if (if (r1.2 == 0)=true then (r3.2 == 0) else false)=true then (r5.2 == 0) else false)=true then (((r5.1.Sets.length:Nat):Int) == 2) else false)=true→0 < (r5.1.Sets.length:Int))∧((if (if (if (r1.2 == 0)=true then (r3.2 == 0) else false)=true then (r5.2 == 0) else false)=true then (((r5.1.Sets.length:Nat):Int) == 2) else false)=true→0 < r5.1.Sets.length)) <|
 bif (if (if (if (r1.2 == 0)=true then (r3.2 == 0) else false)=true then (r5.2 == 0) else false)=true then (((r5.1.Sets.length:Nat):Int) == 2) else false) then
  gd ((if (if (if (r1.2 == 0)=true then (r3.2 == 0) else false)=true then (r5.2 == 0) else false)=true then (((r5.1.Sets.length:Nat):Int) == 2) else false)=true∧(if (if (if (r1.2 == 0)=true then (r3.2 == 0) else false)=true then (r5.2 == 0) else false)=true then (((r5.1.Sets.length:Nat):Int) == 2) else false)=true) <|
  (bjc n ((gt r5.1.Sets 0).Extents) [(⟨2,3⟩:aj0)]).bind fun r7 =>
  gd ((r7=true→1 < (r5.1.Sets.length:Int))∧(r7=true→1 < r5.1.Sets.length)) <|
  bif r7 then
   gd (r7=true∧r7=true) <|
   (bjc n ((gt r5.1.Sets 1).Extents) [(⟨5,2⟩:aj0)]).bind fun r8 =>
   bif r8 then
    gd (r8=true∧r8=true) <|
    (bjc n r6 [(⟨7,1⟩:aj0)]).bind fun r9 =>
    some r9
   else
    some false
  else
   some false
 else
  some false
def dqs (n:Nat):Go.AE.Fn:=mkFn (A:=Unit) (R:=Bool) 14 [] false (fun xs=>()) (fun a=>[]) (fun a=>bym n) (fun r=>[.c .bool (.bool r)]) (fun r=>[])
theorem ekc (n:Nat):aj1 jd (dqs n):=by
 have hΓ:=g1 (gqh n) (g1 (ezm n) (g1 (ews n) (g1 (djs n) (g1 (dyb n) (@g0 (aj1 jd))))))
 have qe:=aI @ezq.eq_1 (aI @dql.eq_1 (aI @dqo.eq_1 (aI @cwf.eq_1 @czr.eq_1)))
 refine aj7 (Tryz.f14.body.getD .skip) h00 Tryz.func14 rfl Tryz.call14 (by decide) (by intro _ r;exact ⟨rfl,by simp⟩) ?_
 rintro ⟨⟩ r H
 try dsimp only at H
 unfold bym at H
 simp only [Tryz.f14,jt]
 refine rA ?_
 obtain ⟨r1,hr1,H⟩:=bind_some H
 have q:=aI qe hr1
 refine rAq ?_
 obtain ⟨r2,hr2,H⟩:=bind_some H
 obtain ⟨r3,hr3,H⟩:=bind_some H
 refine sQ [0,1,2,3,4,5,6,7,8] [(none,[16],[]),(none,[],[207,206,205,204,203,202,201,200,199,198,197,196,195,194,193,192]),(none,[],[]),(none,[],[239,238,237,236,235,234,233,232,231,230,229,228,227,226,225,224]),(none,[],[]),(none,[],[]),(none,[],[]),(none,[16,224],[16]),(none,[],[])] fun K3 hK3=>?_
 have q:=aI qe (aI hr2 hr3)
 iterate 9 refine oQq ?_
 refine ck2 ?_
 refine hK3 _ ?_
 obtain ⟨r4,hr4,H⟩:=bind_some H
 obtain ⟨r5,hr5,H⟩:=bind_some H
 refine sQ [0,1,2,3,4,5,6,7,8] [(none,[16],[]),(none,[],[319,318,317,316,315,314,313,312,311,310,309,308,307,306,305,304]),(none,[],[]),(none,[224],[351,350,349,348,347,346,345,344,343,342,341,340,339,338,337,336,224]),(none,[],[]),(none,[],[]),(none,[],[]),(none,[16,336],[16]),(none,[],[])] fun K4 hK4=>?_
 have q:=aI qe (aI hr4 hr5)
 iterate 9 refine oQq ?_
 refine ck2 ?_
 refine hK4 _ ?_
 obtain ⟨r6,hr6,H⟩:=bind_some H
 have q:=aI qe hr6
 refine rAq ?_
 refine sX fun K6 hK6=>?_
 obtain ⟨⟨hg7,hg8⟩,H⟩:=aj4 H
 have q:=qe
 iterate 23 refine oXq ?_
 refine bqo H (fun hs9 H=>?_) (fun hs9 H=>?_)
 ·try simp only [hs9,jY,jQ,jl,true_implies,false_implies,forall_const] at hg7
  try simp only [hs9,jY,jQ,jl,true_implies,false_implies,forall_const] at hg8
  obtain ⟨⟨hg10,hg11⟩,H⟩:=aj4 H
  obtain ⟨r7,hr7,H⟩:=bind_some H
  obtain ⟨⟨hg12,hg13⟩,H⟩:=aj4 H
  have q:=aI qe (aI hs9 hr7)
  refine oTG ?_
  refine oTG ?_
  refine oPl ?_
  iterate 7 refine oXq ?_
  refine bqo H (fun hs14 H=>?_) (fun hs14 H=>?_)
  ·try simp only [z,seval,hs9,hr7] at hs14
   try simp only [hs14,jY,jQ,jl,true_implies,false_implies,forall_const] at hg12
   try simp only [hs14,jY,jQ,jl,true_implies,false_implies,forall_const] at hg13
   obtain ⟨⟨hg15,hg16⟩,H⟩:=aj4 H
   obtain ⟨r8,hr8,H⟩:=bind_some H
   have q:=aI qe (aI hs9 (aI hr7 (aI hs14 hr8)))
   refine oTG ?_
   refine oTG ?_
   refine oPl ?_
   iterate 3 refine oXq ?_
   refine bqo H (fun hs17 H=>?_) (fun hs17 H=>?_)
   ·try simp only [z,seval,hs9,hr7,hs14,hr8] at hs17
    obtain ⟨⟨hg18,hg19⟩,H⟩:=aj4 H
    obtain ⟨r9,hr9,H⟩:=bind_some H
    have q:=aI qe (aI hs9 (aI hr7 (aI hs14 (aI hr8 (aI hs17 hr9)))))
    refine oTG ?_
    refine oTG ?_
    refine oPl ?_
    refine oXq ?_
    refine hK6 _ ?_
    refine jx ?_
    refine lf ?_
    obtain rfl:=Option.some.inj H
    exact rt []
   try simp only [z,seval,hs9,hr7,hs14,hr8] at hs17
   have q:=aI qe (aI hs9 (aI hr7 (aI hs14 (aI hr8 hs17))))
   refine oFq ?_
   refine oFq ?_
   refine oPr ?_
   refine oXq ?_
   refine hK6 _ ?_
   refine jx ?_
   refine lf ?_
   obtain rfl:=Option.some.inj H
   exact rt []
  try simp only [z,seval,hs9,hr7] at hs14
  try simp only [hs14,jY,jQ,jl,true_implies,false_implies,forall_const] at hg12
  try simp only [hs14,jY,jQ,jl,true_implies,false_implies,forall_const] at hg13
  have q:=aI qe (aI hs9 (aI hr7 hs14))
  refine oFq ?_
  refine oFq ?_
  refine oPr ?_
  refine oXq ?_
  refine oFq ?_
  refine oFq ?_
  refine oFq ?_
  refine oFq ?_
  refine oPr ?_
  refine oXq ?_
  refine hK6 _ ?_
  refine jx ?_
  refine lf ?_
  obtain rfl:=Option.some.inj H
  exact rt []
 try simp only [hs9,jY,jQ,jl,true_implies,false_implies,forall_const] at hg7
 try simp only [hs9,jY,jQ,jl,true_implies,false_implies,forall_const] at hg8
 have q:=aI qe hs9
 refine oFq ?_
 refine oFq ?_
 refine oPr ?_
 refine oXq ?_
 refine oFq ?_
 refine oFq ?_
 refine oFq ?_
 refine oFq ?_
 refine oFq ?_
 refine oFq ?_
 refine oFq ?_
 refine oFq ?_
 refine oPr ?_
 refine oXq ?_
 refine oFq ?_
 refine oFq ?_
 refine oFq ?_
 refine oFq ?_
 refine oPr ?_
 refine oXq ?_
 refine hK6 _ ?_
 refine jx ?_
 refine lf ?_
 obtain rfl:=Option.some.inj H
 exact rt []
abbrev czc (v:aja):S:=stB [(1,.box 9000 0)] [(9000,.box [.c .str (.str v.Serial),.c (.int .i64) (.int v.Cyls),.c (.int .i64) (.int v.Heads),.c (.int .i64) (.int v.Size),.c (.slice 41) (.slice (List.map aj5 v.Sets))])]
def bqa (n:Nat) (v:aja):Option Bool :=
 some (if (decide ((v.Sets.length:Int)≤70))=true then (decide ((v.Serial.length:Int)≤100)) else false)
abbrev cze (v:aja) (k:Int):S:=stB [(1,.box 9002 0),(3,.c (.int .i64) (.int k))] [(9002,.box [.c .str (.str v.Serial),.c (.int .i64) (.int v.Cyls),.c (.int .i64) (.int v.Heads),.c (.int .i64) (.int v.Size),.c (.slice 41) (.slice (List.map aj5 v.Sets))])]
def akv (n:Nat) (v:aja) (k:Int):Option ((Int) ⊕ (((Bool) ⊕ (Unit)))) :=
 bif (decide (k < (v.Sets.length:Int))) then
  gd ((0≤k∧k < (v.Sets.length:Int))∧((!(decide ((((gt v.Sets (Int.toNat k)).Name).length:Int) > 100)))=true→(0≤k∧k < (v.Sets.length:Int)))) <|
  bif (if (decide ((((gt v.Sets (Int.toNat k)).Name).length:Int) > 100))=true then true else (decide ((((gt v.Sets (Int.toNat k)).Extents).length:Int) > 20))) then
   some (.inr (.inl false))
  else
   some (.inl (jc .i64 (k+1)))
 else
  some (.inr (.inr ()))
def bq5 (n:Nat) (v:aja):Option Bool :=
 (aji (fun (x:Int)=>akv n v x) n 0).bind fun y4 =>
 match y4 with
 | .inl vv =>
  some vv
 | .inr vv =>
  bqa n v
def dw1 (n:Nat):Go.AE.Fn:=mkFn (A:=aja) (R:=Bool) 21 [(true,[.str,.int .i64,.int .i64,.int .i64,.slice 41])] false (fun xs=>(⟨(cg (xs.getD 0 []) 0).toStr,(cg (xs.getD 0 []) 1).toInt,(cg (xs.getD 0 []) 2).toInt,(cg (xs.getD 0 []) 3).toInt,((cg (xs.getD 0 []) 4).toSl.map aql)⟩:aja)) (fun a=>[[.str a.Serial,.int a.Cyls,.int a.Heads,.int a.Size,.slice (List.map aj5 a.Sets)]]) (fun a=>bq5 n a) (fun r=>[.c .bool (.bool r)]) (fun r=>[])
theorem ezx (n:Nat):aj1 jd (dw1 n):=by
 have hΓ:=@g0 (aj1 jd)
 refine aj7 (Tryz.f21.body.getD .skip) h00 Tryz.func21 rfl Tryz.call21 (by decide) (by intro _ r;exact ⟨rfl,by simp⟩) ?_
 rintro v r H
 try dsimp only at H
 unfold bq5 at H
 simp only [Tryz.f21,jt]
 refine rA ?_
 refine j1 (fun (x:Unit)=>czc v) (fun x=>bqa n v=some r) ?_ ?_
 ·refine rA ?_
  refine jw ?_
  obtain ⟨y4,hy4,Ho4⟩:=bind_some H
  refine jW _ (fun x=>cze v x) hy4 (wb [some 16]) ?_
  rintro k z4 H
  try dsimp only at H
  unfold akv at H
  refine Sm.st (cze.eq_1 ..) ?_
  refine jp fun K5 hK5=>?_
  refine rA ?_
  refine cnd H (fun h7 H=>?_) (fun h7 H=>?_)
  ·refine js ?_
   refine hK5 _ ?_
   refine jp fun K8 hK8=>?_
   refine jw ?_
   obtain ⟨⟨hg12,hg13⟩,H⟩:=aj4 H
   refine rA ?_
   refine cnd H (fun h10 H=>?_) (fun h10 H=>?_)
   ·refine rA ?_
    refine jx ?_
    refine lf ?_
    refine lx H fun hyy=>?_
    subst hyy
    have H:=Ho4
    try dsimp only at H
    refine lf ?_
    obtain rfl:=Option.some.inj H
    exact rt []
   refine js ?_
   refine hK8 _ ?_
   refine eA ?_
   refine lf ?_
   exact nx H (wb [some 9002])
  refine jZ ?_
  refine lf ?_
  refine lx H fun hyy=>?_
  subst hyy
  have H:=Ho4
  try dsimp only at H
  refine lf ?_
  exact ⟨(),H,wb [some 9002]⟩
 rintro ⟨⟩ H
 try dsimp only at H
 unfold bqa at H
 refine Sm.st (czc.eq_1 ..) ?_
 refine rA ?_
 refine jx ?_
 refine lf ?_
 obtain rfl:=Option.some.inj H
 exact rt []
abbrev dqd (v:aja) (w:List ajc):S:=stB [(2,.box 9000 0),(3,.box 9001 0)] [(9000,.box [.c .str (.str []),.c (.int .i64) (.int 0),.c (.int .i64) (.int 0),.c (.int .i64) (.int 0),.nilsl]),(9001,.box [.c .str (.str v.Serial),.c (.int .i64) (.int v.Cyls),.c (.int .i64) (.int v.Heads),.c (.int .i64) (.int v.Size),.own 9002 [.str,.int .i64,.int .i64,.bool,.bool,.int .i64,.int .i64,.int .i64,.int .i64,.slice 80,.int .i64] 0 w.length]),(9002,.row 41 (List.map aj5 w))]
def bzo (n:Nat) (v:aja) (w:List ajc):Option aja :=
 some (⟨v.Serial,v.Cyls,v.Heads,v.Size,w⟩:aja)
abbrev dwd (v:aja) (w_1:List ajc) (k:Int):S:=stB [(1,.box 9010 0),(2,.box 9011 0),(3,.box 9012 0),(4,.c (.int .i64) (.int k))] [(9010,.box [.c .str (.str v.Serial),.c (.int .i64) (.int v.Cyls),.c (.int .i64) (.int v.Heads),.c (.int .i64) (.int v.Size),.c (.slice 41) (.slice (List.map aj5 v.Sets))]),(9011,.box [.c .str (.str []),.c (.int .i64) (.int 0),.c (.int .i64) (.int 0),.c (.int .i64) (.int 0),.nilsl]),(9012,.box [.c .str (.str v.Serial),.c (.int .i64) (.int v.Cyls),.c (.int .i64) (.int v.Heads),.c (.int .i64) (.int v.Size),.own 9013 [.str,.int .i64,.int .i64,.bool,.bool,.int .i64,.int .i64,.int .i64,.int .i64,.slice 80,.int .i64] 0 w_1.length]),(9013,.row 41 (List.map aj5 w_1))]
def ayr (n:Nat) (v:aja) (w_1:List ajc) (k:Int):Option (((List ajc)×Int) ⊕ (((List ajc)))) :=
 bif (decide (k < (v.Sets.length:Int))) then
  gd ((0≤k∧k < (v.Sets.length:Int))) <|
  gd (((gt v.Sets (Int.toNat k)).Extents).length≤2147483648) <|
  gd ((w_1.length+1)≤2147483648) <|
  some (.inl ((w_1 ++ [(gt v.Sets (Int.toNat k))]),(jc .i64 (k+1))))
 else
  some (.inr w_1)
def bkp (n:Nat) (v:aja):Option aja :=
 (aji (fun (x:(List ajc)×Int)=>ayr n v x.1 x.2) n ([],0)).bind fun y5 =>
 bzo n v y5
def dyy (n:Nat):Go.AE.Fn:=mkFn (A:=aja) (R:=aja) 20 [(true,[.str,.int .i64,.int .i64,.int .i64,.slice 41])] true (fun xs=>(⟨(cg (xs.getD 0 []) 0).toStr,(cg (xs.getD 0 []) 1).toInt,(cg (xs.getD 0 []) 2).toInt,(cg (xs.getD 0 []) 3).toInt,((cg (xs.getD 0 []) 4).toSl.map aql)⟩:aja)) (fun a=>[[.str a.Serial,.int a.Cyls,.int a.Heads,.int a.Size,.slice (List.map aj5 a.Sets)]]) (fun a=>bkp n a) (fun r=>[.agg [.c .str (.str r.Serial),.c (.int .i64) (.int r.Cyls),.c (.int .i64) (.int r.Heads),.c (.int .i64) (.int r.Size),.own 0 [.str,.int .i64,.int .i64,.bool,.bool,.int .i64,.int .i64,.int .i64,.int .i64,.slice 80,.int .i64] 0 r.Sets.length]]) (fun r=>[.row 41 (List.map aj5 r.Sets)])
theorem fzl (n:Nat):aj1 jd (dyy n):=by
 have hΓ:=@g0 (aj1 jd)
 refine aj7 (Tryz.f20.body.getD .skip) h00 Tryz.func20 rfl Tryz.call20 (by decide) (by intro h;cases h) ?_
 rintro v r H
 try dsimp only at H
 unfold bkp at H
 simp only [Tryz.f20,jt]
 refine rA ?_
 refine rA ?_
 refine j1 (fun (x:(List ajc))=>dqd v x) (fun x=>bzo n v x=some r) ?_ ?_
 ·refine rA ?_
  refine jw ?_
  obtain ⟨y5,hy5,Ho5⟩:=bind_some H
  refine jW _ (fun x=>dwd v x.1 x.2) hy5 (wb [some 16,some 32,some 48,none]) ?_
  rintro ⟨w_1,k⟩ z5 H
  try dsimp only at H
  unfold ayr at H
  refine Sm.st (dwd.eq_1 ..) ?_
  refine jp fun K6 hK6=>?_
  refine rA ?_
  refine cnd H (fun h8 H=>?_) (fun h8 H=>?_)
  ·refine js ?_
   refine hK6 _ ?_
   refine jp fun K9 hK9=>?_
   refine jw ?_
   obtain ⟨hg14,H⟩:=aj4 H
   refine rA ?_
   obtain ⟨hg13,H⟩:=aj4 H
   refine rA ?_
   obtain ⟨hg12,H⟩:=aj4 H
   refine eA ?_
   refine hK9 _ ?_
   refine eA ?_
   refine lf ?_
   exact nx H (wb [some 9010,some 9011,some 9012,some 576])
  refine jZ ?_
  refine lf ?_
  refine lx H fun hyy=>?_
  subst hyy
  have H:=Ho5
  try dsimp only at H
  refine lf ?_
  exact ⟨_,H,wb [some 9011,some 9012,some 9013]⟩
 rintro w H
 try dsimp only at H
 unfold bzo at H
 refine Sm.st (dqd.eq_1 ..) ?_
 refine rA ?_
 refine jx ?_
 refine lf ?_
 obtain rfl:=Option.some.inj H
 exact rto [some 9002]
def bqw (n:Nat) (c:Int):Option Bool :=
 some (if (decide (c ≥ 65))=true then (decide (c≤90)) else false)
def byl (n:Nat):Go.AE.Fn:=mkFn (A:=Int) (R:=Bool) 114 [(false,[.int .u8])] false (fun xs=>(cg (xs.getD 0 []) 0).toInt) (fun a=>[[.int a]]) (fun a=>bqw n a) (fun r=>[.c .bool (.bool r)]) (fun r=>[])
theorem ckx (n:Nat):aj1 jd (byl n):=by
 have hΓ:=@g0 (aj1 jd)
 refine aj7 (Tryz.f114.body.getD .skip) h00 Tryz.func114 rfl Tryz.call114 (by decide) (by intro _ r;exact ⟨rfl,by simp⟩) ?_
 rintro c r H
 try dsimp only at H
 unfold bqw at H
 simp only [Tryz.f114,jt]
 refine rA ?_
 refine rA ?_
 refine jx ?_
 refine lf ?_
 obtain rfl:=Option.some.inj H
 exact rt []
def ayk (n:Nat) (c:Int):Option Bool :=
 some (if (decide (c ≥ 48))=true then (decide (c≤57)) else false)
def cjr (n:Nat):Go.AE.Fn:=mkFn (A:=Int) (R:=Bool) 115 [(false,[.int .u8])] false (fun xs=>(cg (xs.getD 0 []) 0).toInt) (fun a=>[[.int a]]) (fun a=>ayk n a) (fun r=>[.c .bool (.bool r)]) (fun r=>[])
theorem dqh (n:Nat):aj1 jd (cjr n):=by
 have hΓ:=@g0 (aj1 jd)
 refine aj7 (Tryz.f115.body.getD .skip) h00 Tryz.func115 rfl Tryz.call115 (by decide) (by intro _ r;exact ⟨rfl,by simp⟩) ?_
 rintro c r H
 try dsimp only at H
 unfold ayk at H
 simp only [Tryz.f115,jt]
 refine rA ?_
 refine rA ?_
 refine jx ?_
 refine lf ?_
 obtain rfl:=Option.some.inj H
 exact rt []
def ajj (n:Nat) (n_:Int) (lo:Int) (hi:Int):Option Bool :=
 some (if (decide (n_ ≥ lo))=true then (decide (n_≤hi)) else false)
def cji (n:Nat):Go.AE.Fn:=mkFn (A:=Int×Int×Int) (R:=Bool) 71 [(false,[.int .i64]),(false,[.int .i64]),(false,[.int .i64])] false (fun xs=>((cg (xs.getD 0 []) 0).toInt,(cg (xs.getD 1 []) 0).toInt,(cg (xs.getD 2 []) 0).toInt)) (fun a=>[[.int a.1],[.int a.2.1],[.int a.2.2]]) (fun a=>ajj n a.1 a.2.1 a.2.2) (fun r=>[.c .bool (.bool r)]) (fun r=>[])
theorem cy5 (n:Nat):aj1 jd (cji n):=by
 have hΓ:=@g0 (aj1 jd)
 refine aj7 (Tryz.f71.body.getD .skip) h00 Tryz.func71 rfl Tryz.call71 (by decide) (by intro _ r;exact ⟨rfl,by simp⟩) ?_
 rintro ⟨n_,lo,hi⟩ r H
 try dsimp only at H
 unfold ajj at H
 simp only [Tryz.f71,jt]
 refine rA ?_
 refine rA ?_
 refine jx ?_
 refine lf ?_
 obtain rfl:=Option.some.inj H
 exact rt []
abbrev cjz (s:List UInt8):S:=stB [(0,.c .str (.str s))] []
def bjl (n:Nat) (s:List UInt8):Option Bool :=
 (ajj n (s.length:Int) 1 6).bind fun r1 =>
 some r1
abbrev cqi (s:List UInt8) (i:Int):S:=stB [(0,.c .str (.str s)),(3,.c (.int .i64) (.int i))] []
def ak7 (n:Nat) (s:List UInt8) (i:Int):Option ((Int) ⊕ (((Bool) ⊕ (Unit)))) :=
 bif (decide (i < (s.length:Int))) then
  gd ((0≤i∧i < (s.length:Int))) <|
  (bqw n (((s.getD (Int.toNat i) 0).toNat:Nat):Int)).bind fun r2 =>
  gd (((!r2)=true→(0≤i∧i < (s.length:Int)))∧((!r2)=true→(ayk n (((s.getD (Int.toNat i) 0).toNat:Nat):Int)).isSome=true)) <|
  bif (if (!r2)=true then (!((ayk n (((s.getD (Int.toNat i) 0).toNat:Nat):Int)).getD default)) else false) then
   some (.inr (.inl false))
  else
   some (.inl (jc .i64 (i+1)))
 else
  some (.inr (.inr ()))
def bqu (n:Nat) (s:List UInt8):Option Bool :=
 (aji (fun (x:Int)=>ak7 n s x) n 0).bind fun y4 =>
 match y4 with
 | .inl vv =>
  some vv
 | .inr vv =>
  bjl n s
def cyh (n:Nat):Go.AE.Fn:=mkFn (A:=(List UInt8)) (R:=Bool) 70 [(false,[.str])] false (fun xs=>(cg (xs.getD 0 []) 0).toStr) (fun a=>[[.str a]]) (fun a=>bqu n a) (fun r=>[.c .bool (.bool r)]) (fun r=>[])
theorem ew0 (n:Nat):aj1 jd (cyh n):=by
 have hΓ:=g1 (ckx n) (g1 (dqh n) (g1 (cy5 n) (@g0 (aj1 jd))))
 have qe:=aI @byl.eq_1 (aI @cjr.eq_1 @cji.eq_1)
 refine aj7 (Tryz.f70.body.getD .skip) h00 Tryz.func70 rfl Tryz.call70 (by decide) (by intro _ r;exact ⟨rfl,by simp⟩) ?_
 rintro s r H
 try dsimp only at H
 unfold bqu at H
 simp only [Tryz.f70,jt]
 refine rA ?_
 refine j1 (fun (x:Unit)=>cjz s) (fun x=>bjl n s=some r) ?_ ?_
 ·refine rA ?_
  refine jw ?_
  obtain ⟨y4,hy4,Ho4⟩:=bind_some H
  refine jW _ (fun x=>cqi s x) hy4 (wb []) ?_
  rintro i z4 H
  try dsimp only at H
  unfold ak7 at H
  refine Sm.st (cqi.eq_1 ..) ?_
  refine jp fun K5 hK5=>?_
  refine rA ?_
  refine cnd H (fun h7 H=>?_) (fun h7 H=>?_)
  ·refine js ?_
   refine hK5 _ ?_
   refine jp fun K8 hK8=>?_
   refine jw ?_
   obtain ⟨hg12,H⟩:=aj4 H
   obtain ⟨r2,hr2,H⟩:=bind_some H
   obtain ⟨⟨hg13,hg14⟩,H⟩:=aj4 H
   have q:=aI qe hr2
   refine rAq ?_
   refine cnd H (fun h10 H=>?_) (fun h10 H=>?_)
   ·refine rA ?_
    refine jx ?_
    refine lf ?_
    refine lx H fun hyy=>?_
    subst hyy
    have H:=Ho4
    try dsimp only at H
    refine lf ?_
    obtain rfl:=Option.some.inj H
    exact rt []
   refine js ?_
   refine hK8 _ ?_
   refine eA ?_
   refine lf ?_
   exact nx H (wb [])
  refine jZ ?_
  refine lf ?_
  refine lx H fun hyy=>?_
  subst hyy
  have H:=Ho4
  try dsimp only at H
  refine lf ?_
  exact ⟨(),H,wb []⟩
 rintro ⟨⟩ H
 try dsimp only at H
 unfold bjl at H
 refine Sm.st (cjz.eq_1 ..) ?_
 obtain ⟨r1,hr1,H⟩:=bind_some H
 have q:=aI qe hr1
 refine rAq ?_
 refine jx ?_
 refine lf ?_
 obtain rfl:=Option.some.inj H
 exact rt []
abbrev cw0 (s:List UInt8):S:=stB [(0,.c .str (.str s))] []
def aww (n:Nat) (s:List UInt8):Option Bool :=
 some (if (decide ((s.length:Int) ≥ 1))=true then (decide ((s.length:Int)≤8)) else false)
abbrev cjk (s:List UInt8) (i:Int):S:=stB [(0,.c .str (.str s)),(3,.c (.int .i64) (.int i))] []
def az0 (n:Nat) (s:List UInt8) (i:Int):Option ((Int) ⊕ (((Bool) ⊕ (Unit)))) :=
 bif (decide (i < (s.length:Int))) then
  gd ((0≤i∧i < (s.length:Int))∧((!((((s.getD (Int.toNat i) 0).toNat:Nat):Int) == 64))=true→(0≤i∧i < (s.length:Int)))∧((!(if ((((s.getD (Int.toNat i) 0).toNat:Nat):Int) == 64)=true then true else ((((s.getD (Int.toNat i) 0).toNat:Nat):Int) == 35)))=true→(0≤i∧i < (s.length:Int)))) <|
  gd ((0≤i∧i < (s.length:Int))) <|
  (bqw n (((s.getD (Int.toNat i) 0).toNat:Nat):Int)).bind fun r1 =>
  gd ((((if (!r1)=true then (!(if (if ((((s.getD (Int.toNat i) 0).toNat:Nat):Int) == 64)=true then true else ((((s.getD (Int.toNat i) 0).toNat:Nat):Int) == 35))=true then true else ((((s.getD (Int.toNat i) 0).toNat:Nat):Int) == 36))) else false) && (!(i == 0)))=true→(0≤i∧i < (s.length:Int)))∧(((if (!r1)=true then (!(if (if ((((s.getD (Int.toNat i) 0).toNat:Nat):Int) == 64)=true then true else ((((s.getD (Int.toNat i) 0).toNat:Nat):Int) == 35))=true then true else ((((s.getD (Int.toNat i) 0).toNat:Nat):Int) == 36))) else false) && (!(i == 0)))=true→(ayk n (((s.getD (Int.toNat i) 0).toNat:Nat):Int)).isSome=true)∧(((if (!r1)=true then (!(if (if ((((s.getD (Int.toNat i) 0).toNat:Nat):Int) == 64)=true then true else ((((s.getD (Int.toNat i) 0).toNat:Nat):Int) == 35))=true then true else ((((s.getD (Int.toNat i) 0).toNat:Nat):Int) == 36))) else false) && !(i == 0))=true→((if (!r1)=true then (!(if (if ((((s.getD (Int.toNat i) 0).toNat:Nat):Int) == 64)=true then true else ((((s.getD (Int.toNat i) 0).toNat:Nat):Int) == 35))=true then true else ((((s.getD (Int.toNat i) 0).toNat:Nat):Int) == 36))) else false) && (!(i == 0)))=true)) <|
  bif (if (if (!r1)=true then (!(if (if ((((s.getD (Int.toNat i) 0).toNat:Nat):Int) == 64)=true then true else ((((s.getD (Int.toNat i) 0).toNat:Nat):Int) == 35))=true then true else ((((s.getD (Int.toNat i) 0).toNat:Nat):Int) == 36))) else false)=true then (if (i == 0)=true then true else (!((ayk n (((s.getD (Int.toNat i) 0).toNat:Nat):Int)).getD default))) else false) then
   some (.inr (.inl false))
  else
   some (.inl (jc .i64 (i+1)))
 else
  some (.inr (.inr ()))
def bqx (n:Nat) (s:List UInt8):Option Bool :=
 (aji (fun (x:Int)=>az0 n s x) n 0).bind fun y4 =>
 match y4 with
 | .inl vv =>
  some vv
 | .inr vv =>
  aww n s
def dj1 (n:Nat):Go.AE.Fn:=mkFn (A:=(List UInt8)) (R:=Bool) 55 [(false,[.str])] false (fun xs=>(cg (xs.getD 0 []) 0).toStr) (fun a=>[[.str a]]) (fun a=>bqx n a) (fun r=>[.c .bool (.bool r)]) (fun r=>[])
theorem ew7 (n:Nat):aj1 jd (dj1 n):=by
 have hΓ:=g1 (ckx n) (g1 (dqh n) (@g0 (aj1 jd)))
 refine aj7 (Tryz.f55.body.getD .skip) h00 Tryz.func55 rfl Tryz.call55 (by decide) (by intro _ r;exact ⟨rfl,by simp⟩) ?_
 rintro s r H
 try dsimp only at H
 unfold bqx at H
 simp only [Tryz.f55,jt]
 refine rA ?_
 refine j1 (fun (x:Unit)=>cw0 s) (fun x=>aww n s=some r) ?_ ?_
 ·refine rA ?_
  refine jw ?_
  obtain ⟨y4,hy4,Ho4⟩:=bind_some H
  refine jW _ (fun x=>cjk s x) hy4 (wb []) ?_
  rintro i z4 H
  try dsimp only at H
  unfold az0 at H
  refine Sm.st (cjk.eq_1 ..) ?_
  refine jp fun K5 hK5=>?_
  refine rA ?_
  refine cnd H (fun h7 H=>?_) (fun h7 H=>?_)
  ·refine js ?_
   refine hK5 _ ?_
   refine jp fun K8 hK8=>?_
   refine jw ?_
   obtain ⟨⟨hg17,hg18,hg19⟩,H⟩:=aj4 H
   refine rA ?_
   obtain ⟨hg13,H⟩:=aj4 H
   obtain ⟨r1,hr1,H⟩:=bind_some H
   obtain ⟨⟨hg14,hg15,hg16⟩,H⟩:=aj4 H
   have q:=aI @byl.eq_1 (aI @cjr.eq_1 hr1)
   refine rAq ?_
   refine cnd H (fun h11 H=>?_) (fun h11 H=>?_)
   ·refine rA ?_
    refine jx ?_
    refine lf ?_
    refine lx H fun hyy=>?_
    subst hyy
    have H:=Ho4
    try dsimp only at H
    refine lf ?_
    obtain rfl:=Option.some.inj H
    exact rt []
   refine js ?_
   refine hK8 _ ?_
   refine eA ?_
   refine lf ?_
   exact nx H (wb [])
  refine jZ ?_
  refine lf ?_
  refine lx H fun hyy=>?_
  subst hyy
  have H:=Ho4
  try dsimp only at H
  refine lf ?_
  exact ⟨(),H,wb []⟩
 rintro ⟨⟩ H
 try dsimp only at H
 unfold aww at H
 refine Sm.st (cw0.eq_1 ..) ?_
 refine rA ?_
 refine jx ?_
 refine lf ?_
 obtain rfl:=Option.some.inj H
 exact rt []
abbrev ckq (s:List UInt8):S:=stB [(0,.c .str (.str s))] []
def bwa (n:Nat) (s:List UInt8):Option Bool :=
 some (decide ((s.length:Int)≤44))
abbrev cyj (s:List UInt8) (from__1:Int) (i:Int):S:=stB [(0,.c .str (.str s)),(3,.c (.int .i64) (.int from__1)),(4,.c (.int .i64) (.int i))] []
def azi (n:Nat) (s:List UInt8) (from__1:Int) (i:Int):Option ((Int×Int) ⊕ (((Bool) ⊕ (Unit)))) :=
 some (.inl (from__1,(jc .i64 (i+1))))
abbrev cyu (s:List UInt8) (from_:Int) (i:Int):S:=stB [(0,.c .str (.str s)),(3,.c (.int .i64) (.int from_)),(4,.c (.int .i64) (.int i))] []
def aqi (n:Nat) (s:List UInt8) (from_:Int) (i:Int):Option ((Int×Int) ⊕ (((Bool) ⊕ (Unit)))) :=
 bif (decide (i≤(s.length:Int))) then
  gd (((!(i == (s.length:Int)))=true→(0≤i∧i < (s.length:Int)))) <|
  bif (if (i == (s.length:Int))=true then true else ((((s.getD (Int.toNat i) 0).toNat:Nat):Int) == 46)) then
   gd ((0≤from_∧from_≤i∧i≤(s.length:Int))) <|
   (bqx n (List.drop (Int.toNat from_) (List.take (Int.toNat i) s))).bind fun r1 =>
   bif (!r1) then
    some (.inr (.inl false))
   else
    azi n s (jc .i64 (i+1)) i
  else
   azi n s from_ i
 else
  some (.inr (.inr ()))
def bky (n:Nat) (s:List UInt8):Option Bool :=
 (aji (fun (x:Int×Int)=>aqi n s x.1 x.2) n (0,0)).bind fun y5 =>
 match y5 with
 | .inl vv =>
  some vv
 | .inr vv =>
  bwa n s
def dk1 (n:Nat):Go.AE.Fn:=mkFn (A:=(List UInt8)) (R:=Bool) 18 [(false,[.str])] false (fun xs=>(cg (xs.getD 0 []) 0).toStr) (fun a=>[[.str a]]) (fun a=>bky n a) (fun r=>[.c .bool (.bool r)]) (fun r=>[])
theorem fjl (n:Nat):aj1 jd (dk1 n):=by
 have hΓ:=g1 (ew7 n) (@g0 (aj1 jd))
 refine aj7 (Tryz.f18.body.getD .skip) h00 Tryz.func18 rfl Tryz.call18 (by decide) (by intro _ r;exact ⟨rfl,by simp⟩) ?_
 rintro s r H
 try dsimp only at H
 unfold bky at H
 simp only [Tryz.f18,jt]
 refine rA ?_
 refine rA ?_
 refine j1 (fun (x:Unit)=>ckq s) (fun x=>bwa n s=some r) ?_ ?_
 ·refine rA ?_
  refine jw ?_
  obtain ⟨y5,hy5,Ho5⟩:=bind_some H
  refine jW _ (fun x=>cyu s x.1 x.2) hy5 (wb []) ?_
  rintro ⟨from_,i⟩ z5 H
  try dsimp only at H
  unfold aqi at H
  refine Sm.st (cyu.eq_1 ..) ?_
  refine jp fun K6 hK6=>?_
  refine rA ?_
  refine cnd H (fun h8 H=>?_) (fun h8 H=>?_)
  ·refine js ?_
   refine hK6 _ ?_
   refine j1 (fun (x:Int)=>cyj s x i) (fun x=>azi n s x i=some z5) ?_ ?_
   ·refine jw ?_
    obtain ⟨hg16,H⟩:=aj4 H
    refine rA ?_
    refine cnd H (fun h10 H=>?_) (fun h10 H=>?_)
    ·refine jp fun K11 hK11=>?_
     obtain ⟨hg15,H⟩:=aj4 H
     obtain ⟨r1,hr1,H⟩:=bind_some H
     have q:=aI @dj1.eq_1 hr1
     refine rAq ?_
     refine cnd H (fun h13 H=>?_) (fun h13 H=>?_)
     ·refine rA ?_
      refine jx ?_
      refine lf ?_
      refine lx H fun hyy=>?_
      subst hyy
      have H:=Ho5
      try dsimp only at H
      refine lf ?_
      obtain rfl:=Option.some.inj H
      exact rt []
     refine js ?_
     refine hK11 _ ?_
     refine eA ?_
     refine lf ?_
     exact ⟨_,H,wb []⟩
    refine js ?_
    refine lf ?_
    exact ⟨_,H,wb []⟩
   rintro from__1 H
   try dsimp only at H
   unfold azi at H
   refine Sm.st (cyj.eq_1 ..) ?_
   refine eA ?_
   refine lf ?_
   exact nx H (wb [])
  refine jZ ?_
  refine lf ?_
  refine lx H fun hyy=>?_
  subst hyy
  have H:=Ho5
  try dsimp only at H
  refine lf ?_
  exact ⟨(),H,wb []⟩
 rintro ⟨⟩ H
 try dsimp only at H
 unfold bwa at H
 refine Sm.st (ckq.eq_1 ..) ?_
 refine rA ?_
 refine jx ?_
 refine lf ?_
 obtain rfl:=Option.some.inj H
 exact rt []
def aq4 (n:Nat) (d:TDcb):Option Bool :=
 (ajj n d.Org 1 3).bind fun r1 =>
 gd ((r1=true→(ajj n d.Format 1 3).isSome=true)∧((if r1=true then ((ajj n d.Format 1 3).getD default) else false)=true→(ajj n d.Lrecl 0 1024).isSome=true)∧((if (if r1=true then ((ajj n d.Format 1 3).getD default) else false)=true then ((ajj n d.Lrecl 0 1024).getD default) else false)=true→(ajj n d.Blksize 0 1024).isSome=true)∧((if (if (if r1=true then ((ajj n d.Format 1 3).getD default) else false)=true then ((ajj n d.Lrecl 0 1024).getD default) else false)=true then ((ajj n d.Blksize 0 1024).getD default) else false)=true→(ajj n d.KeyPos 0 1024).isSome=true)∧((if (if (if (if r1=true then ((ajj n d.Format 1 3).getD default) else false)=true then ((ajj n d.Lrecl 0 1024).getD default) else false)=true then ((ajj n d.Blksize 0 1024).getD default) else false)=true then ((ajj n d.KeyPos 0 1024).getD default) else false)=true→(ajj n d.KeyLen 0 64).isSome=true)) <|
 some (if (if (if (if (if r1=true then ((ajj n d.Format 1 3).getD default) else false)=true then ((ajj n d.Lrecl 0 1024).getD default) else false)=true then ((ajj n d.Blksize 0 1024).getD default) else false)=true then ((ajj n d.KeyPos 0 1024).getD default) else false)=true then ((ajj n d.KeyLen 0 64).getD default) else false)
def byy (n:Nat):Go.AE.Fn:=mkFn (A:=TDcb) (R:=Bool) 127 [(true,[.int .i64,.int .i64,.bool,.bool,.int .i64,.int .i64,.int .i64,.int .i64])] false (fun xs=>(⟨(cg (xs.getD 0 []) 0).toInt,(cg (xs.getD 0 []) 1).toInt,(cg (xs.getD 0 []) 2).toBool,(cg (xs.getD 0 []) 3).toBool,(cg (xs.getD 0 []) 4).toInt,(cg (xs.getD 0 []) 5).toInt,(cg (xs.getD 0 []) 6).toInt,(cg (xs.getD 0 []) 7).toInt⟩:TDcb)) (fun a=>[[.int a.Org,.int a.Format,.bool a.Blocked,.bool a.Asa,.int a.Lrecl,.int a.Blksize,.int a.KeyLen,.int a.KeyPos]]) (fun a=>aq4 n a) (fun r=>[.c .bool (.bool r)]) (fun r=>[])
theorem dwq (n:Nat):aj1 jd (byy n):=by
 have hΓ:=g1 (cy5 n) (@g0 (aj1 jd))
 refine aj7 (Tryz.f127.body.getD .skip) h00 Tryz.func127 rfl Tryz.call127 (by decide) (by intro _ r;exact ⟨rfl,by simp⟩) ?_
 rintro d r H
 try dsimp only at H
 unfold aq4 at H
 simp only [Tryz.f127,jt]
 refine rA ?_
 obtain ⟨r1,hr1,H⟩:=bind_some H
 obtain ⟨⟨hg3,hg4,hg5,hg6,hg7⟩,H⟩:=aj4 H
 have q:=aI @cji.eq_1 hr1
 refine rAq ?_
 refine jx ?_
 refine lf ?_
 obtain rfl:=Option.some.inj H
 exact rt []
def cqo (n:Nat) (x_:aj0):Option Bool :=
 some (if (if (if (decide (x_.At ≥ 0))=true then (decide (x_.Len ≥ 1)) else false)=true then (decide (x_.At < 512)) else false)=true then (decide (x_.Len≤(jc .i64 (512 - x_.At)))) else false)
def ejq (n:Nat):Go.AE.Fn:=mkFn (A:=aj0) (R:=Bool) 161 [(true,[.int .i64,.int .i64])] false (fun xs=>(⟨(cg (xs.getD 0 []) 0).toInt,(cg (xs.getD 0 []) 1).toInt⟩:aj0)) (fun a=>[[.int a.At,.int a.Len]]) (fun a=>cqo n a) (fun r=>[.c .bool (.bool r)]) (fun r=>[])
theorem fw9 (n:Nat):aj1 jd (ejq n):=by
 have hΓ:=@g0 (aj1 jd)
 refine aj7 (Tryz.f161.body.getD .skip) h00 Tryz.func161 rfl Tryz.call161 (by decide) (by intro _ r;exact ⟨rfl,by simp⟩) ?_
 rintro x_ r H
 try dsimp only at H
 unfold cqo at H
 simp only [Tryz.f161,jt]
 refine rA ?_
 refine rA ?_
 refine jx ?_
 refine lf ?_
 obtain rfl:=Option.some.inj H
 exact rt []
abbrev cjw (out:List Int):S:=stB [(5,.own 9000 [.int .i64] 0 out.length)] [(9000,.row 3 (List.map ajz out))]
def bz4 (n:Nat) (out:List Int):Option ((List Int)×Bool) :=
 some (out,true)
abbrev cqd (l:List aj0) (seen_1:List Bool) (out_2:List Int) (i:Int):S:=stB [(0,.c (.slice 80) (.slice (List.map aj2 l))),(4,.elt 9006 1 [.bool] 0 0),(5,.own 9007 [.int .i64] 0 out_2.length),(6,.c (.int .i64) (.int i))] [(9006,.row 4 (List.map aze seen_1)),(9007,.row 3 (List.map ajz out_2))]
def bj6 (n:Nat) (l:List aj0) (seen_1:List Bool) (out_2:List Int) (i:Int):Option (((List Bool)×(List Int)×Int) ⊕ ((((List Int)×Bool) ⊕ ((List Int))))) :=
 some (.inl (seen_1,out_2,(jc .i64 (i+1))))
abbrev cjh (l:List aj0) (i:Int) (seen_2:List Bool) (out_3:List Int) (k:Int):S:=stB [(0,.c (.slice 80) (.slice (List.map aj2 l))),(4,.elt 9010 1 [.bool] 0 0),(5,.own 9011 [.int .i64] 0 out_3.length),(6,.c (.int .i64) (.int i)),(7,.c (.int .i64) (.int k))] [(9010,.row 4 (List.map aze seen_2)),(9011,.row 3 (List.map ajz out_3))]
def awr (n:Nat) (l:List aj0) (i:Int) (seen_2:List Bool) (out_3:List Int) (k:Int):Option (((List Bool)×(List Int)×Int) ⊕ ((((List Int)×Bool) ⊕ ((List Bool)×(List Int))))) :=
 gd ((0≤i∧i < (l.length:Int))∧(0≤i∧i < (l.length:Int))) <|
 bif (decide (k < (jc .i64 (((gt l (Int.toNat i)).At)+((gt l (Int.toNat i)).Len))))) then
  gd ((0≤k∧k < 512∧seen_2.length=512)∧(Int.toNat k) < seen_2.length) <|
  bif (gt seen_2 (Int.toNat k)) then
   some (.inr (.inl ([],false)))
  else
   gd ((0≤k∧k < 512∧seen_2.length=512)∧(Int.toNat k) < seen_2.length) <|
   gd ((out_3.length+1)≤2147483648) <|
   some (.inl ((List.set seen_2 (Int.toNat k) true),(out_3 ++ [k]),(jc .i64 (k+1))))
 else
  some (.inr (.inr (seen_2,out_3)))
abbrev cqk (l:List aj0) (seen:List Bool) (out_1:List Int) (i:Int):S:=stB [(0,.c (.slice 80) (.slice (List.map aj2 l))),(4,.elt 9004 1 [.bool] 0 0),(5,.own 9005 [.int .i64] 0 out_1.length),(6,.c (.int .i64) (.int i))] [(9004,.row 4 (List.map aze seen)),(9005,.row 3 (List.map ajz out_1))]
def az4 (n:Nat) (l:List aj0) (seen:List Bool) (out_1:List Int) (i:Int):Option (((List Bool)×(List Int)×Int) ⊕ ((((List Int)×Bool) ⊕ ((List Int))))) :=
 bif (decide (i < (l.length:Int))) then
  gd ((0≤i∧i < (l.length:Int))) <|
  (cqo n (gt l (Int.toNat i))).bind fun r1 =>
  bif (!r1) then
   some (.inr (.inl ([],false)))
  else
   gd ((0≤i∧i < (l.length:Int))) <|
   (aji (fun (x:(List Bool)×(List Int)×Int)=>awr n l i x.1 x.2.1 x.2.2) n (seen,out_1,(gt l (Int.toNat i)).At)).bind fun y15 =>
   match y15 with
   | .inl vv =>
    some (.inr (.inl (vv.1,vv.2)))
   | .inr vv =>
    bj6 n l vv.1 vv.2 i
 else
  some (.inr (.inr out_1))
def azd (n:Nat) (l:List aj0):Option ((List Int)×Bool) :=
 (aji (fun (x:(List Bool)×(List Int)×Int)=>az4 n l x.1 x.2.1 x.2.2) n ((aqo 512 false),[],0)).bind fun y6 =>
 match y6 with
 | .inl vv =>
  some (vv.1,vv.2)
 | .inr vv =>
  bz4 n vv
def bw8 (n:Nat):Go.AE.Fn:=mkFn (A:=(List aj0)) (R:=(List Int)×Bool) 120 [(false,[.slice 80])] false (fun xs=>((cg (xs.getD 0 []) 0).toSl.map ajl)) (fun a=>[[.slice (List.map aj2 a)]]) (fun a=>azd n a) (fun r=>[.own 0 [.int .i64] 0 r.1.length,.c .bool (.bool r.2)]) (fun r=>[.row 3 (List.map ajz r.1)])
theorem by0 (n:Nat):aj1 jd (bw8 n):=by
 have hΓ:=g1 (fw9 n) (@g0 (aj1 jd))
 refine aj7 (Tryz.f120.body.getD .skip) h00 Tryz.func120 rfl Tryz.call120 (by decide) (fun _ r=>⟨rfl,m1 ⟨3,_,_,rfl,ty3,rfl⟩ m0⟩) ?_
 rintro l r H
 try dsimp only at H
 unfold azd at H
 simp only [Tryz.f120,jt]
 refine rA ?_
 refine sX fun K2 hK2=>?_
 refine oY ?_
 refine hK2 _ ?_
 refine rA ?_
 refine j1 (fun (x:(List Int))=>cjw x) (fun x=>bz4 n x=some r) ?_ ?_
 ·refine rA ?_
  refine jw ?_
  obtain ⟨y6,hy6,Ho6⟩:=bind_some H
  refine jW _ (fun x=>cqk l x.1 x.2.1 x.2.2) hy6 (wb [some 64,none]) ?_
  rintro ⟨seen,out_1,i⟩ z6 H
  try dsimp only at H
  unfold az4 at H
  refine Sm.st (cqk.eq_1 ..) ?_
  refine jp fun K7 hK7=>?_
  refine rA ?_
  refine cnd H (fun h9 H=>?_) (fun h9 H=>?_)
  ·refine js ?_
   refine hK7 _ ?_
   refine j1 (fun (x:(List Bool)×(List Int))=>cqd l x.1 x.2 i) (fun x=>bj6 n l x.1 x.2 i=some z6) ?_ ?_
   ·refine jw ?_
    refine jp fun K10 hK10=>?_
    obtain ⟨hg33,H⟩:=aj4 H
    obtain ⟨r1,hr1,H⟩:=bind_some H
    have q:=aI @ejq.eq_1 hr1
    refine rAq ?_
    refine cnd H (fun h12 H=>?_) (fun h12 H=>?_)
    ·refine rA ?_
     refine jx ?_
     refine lf ?_
     refine lx H fun hyy=>?_
     subst hyy
     have H:=Ho6
     try dsimp only at H
     refine lf ?_
     obtain rfl:=Option.some.inj H
     exact rto [none]
    refine js ?_
    refine hK10 _ ?_
    obtain ⟨hg32,H⟩:=aj4 H
    refine rA ?_
    refine jw ?_
    obtain ⟨y15,hy15,Ho15⟩:=bind_some H
    refine jW _ (fun x=>cjh l i x.1 x.2.1 x.2.2) hy15 (wb [some 9004,some 9005]) ?_
    rintro ⟨seen_2,out_3,k⟩ z15 H
    try dsimp only at H
    unfold awr at H
    refine Sm.st (cjh.eq_1 ..) ?_
    refine jp fun K16 hK16=>?_
    obtain ⟨⟨hg30,hg31⟩,H⟩:=aj4 H
    refine rD ?_
    refine cnd H (fun h18 H=>?_) (fun h18 H=>?_)
    ·refine js ?_
     refine hK16 _ ?_
     refine jp fun K19 hK19=>?_
     refine jw ?_
     refine jp fun K20 hK20=>?_
     obtain ⟨⟨hg28,hg29⟩,H⟩:=aj4 H
     refine rA ?_
     refine cnd H (fun h22 H=>?_) (fun h22 H=>?_)
     ·refine rA ?_
      refine jx ?_
      refine lf ?_
      refine lx H fun hyy=>?_
      subst hyy
      have H:=Ho15
      try dsimp only at H
      refine lf ?_
      refine lx H fun hyy=>?_
      subst hyy
      have H:=Ho6
      try dsimp only at H
      refine lf ?_
      obtain rfl:=Option.some.inj H
      exact rto [none]
     refine js ?_
     refine hK20 _ ?_
     obtain ⟨⟨hg26,hg27⟩,H⟩:=aj4 H
     refine rA ?_
     obtain ⟨hg25,H⟩:=aj4 H
     refine eA ?_
     refine hK19 _ ?_
     refine eA ?_
     refine lf ?_
     exact nx H (wb [some 9010,some 768])
    refine jZ ?_
    refine lf ?_
    refine lx H fun hyy=>?_
    subst hyy
    have H:=Ho15
    try dsimp only at H
    refine lf ?_
    exact ⟨(seen_2,out_3),H,wb [some 9010,some 9011]⟩
   rintro ⟨seen_1,out_2⟩ H
   try dsimp only at H
   unfold bj6 at H
   refine Sm.st (cqd.eq_1 ..) ?_
   refine eA ?_
   refine lf ?_
   exact nx H (wb [some 9006,some 9007])
  refine jZ ?_
  refine lf ?_
  refine lx H fun hyy=>?_
  subst hyy
  have H:=Ho6
  try dsimp only at H
  refine lf ?_
  exact ⟨_,H,wb [some 9005]⟩
 rintro out H
 try dsimp only at H
 unfold bz4 at H
 refine Sm.st (cjw.eq_1 ..) ?_
 refine rA ?_
 refine jx ?_
 refine lf ?_
 obtain rfl:=Option.some.inj H
 exact rto [some 9000]
def awm (n:Nat) (l:List aj0):Option Bool :=
 (azd n l).bind fun r1 =>
 some r1.2
def bze (n:Nat):Go.AE.Fn:=mkFn (A:=(List aj0)) (R:=Bool) 73 [(false,[.slice 80])] false (fun xs=>((cg (xs.getD 0 []) 0).toSl.map ajl)) (fun a=>[[.slice (List.map aj2 a)]]) (fun a=>awm n a) (fun r=>[.c .bool (.bool r)]) (fun r=>[])
theorem cjt (n:Nat):aj1 jd (bze n):=by
 have hΓ:=g1 (by0 n) (@g0 (aj1 jd))
 refine aj7 (Tryz.f73.body.getD .skip) h00 Tryz.func73 rfl Tryz.call73 (by decide) (by intro _ r;exact ⟨rfl,by simp⟩) ?_
 rintro l r H
 try dsimp only at H
 unfold awm at H
 simp only [Tryz.f73,jt]
 refine rA ?_
 obtain ⟨r1,hr1,H⟩:=bind_some H
 have q:=aI @bw8.eq_1 hr1
 refine rAq ?_
 refine rA ?_
 refine jx ?_
 refine lf ?_
 obtain rfl:=Option.some.inj H
 exact rt []
def ayj (n:Nat) (l:List aj0):Option Int :=
 (azd n l).bind fun r1 =>
 some ((r1.1.length:Nat):Int)
def dw8 (n:Nat):Go.AE.Fn:=mkFn (A:=(List aj0)) (R:=Int) 128 [(false,[.slice 80])] false (fun xs=>((cg (xs.getD 0 []) 0).toSl.map ajl)) (fun a=>[[.slice (List.map aj2 a)]]) (fun a=>ayj n a) (fun r=>[.c (.int .i64) (.int r)]) (fun r=>[])
theorem ewt (n:Nat):aj1 jd (dw8 n):=by
 have hΓ:=g1 (by0 n) (@g0 (aj1 jd))
 refine aj7 (Tryz.f128.body.getD .skip) h00 Tryz.func128 rfl Tryz.call128 (by decide) (by intro _ r;exact ⟨rfl,by simp⟩) ?_
 rintro l r H
 try dsimp only at H
 unfold ayj at H
 simp only [Tryz.f128,jt]
 refine rA ?_
 obtain ⟨r1,hr1,H⟩:=bind_some H
 have q:=aI @bw8.eq_1 hr1
 refine rAq ?_
 refine rA ?_
 refine jx ?_
 refine lf ?_
 obtain rfl:=Option.some.inj H
 exact rt []
abbrev cww (d:ajc):S:=stB [(3,.box 9000 0)] [(9000,.box [.c .str (.str d.Name),.c (.int .i64) (.int d.Dcb.Org),.c (.int .i64) (.int d.Dcb.Format),.c .bool (.bool d.Dcb.Blocked),.c .bool (.bool d.Dcb.Asa),.c (.int .i64) (.int d.Dcb.Lrecl),.c (.int .i64) (.int d.Dcb.Blksize),.c (.int .i64) (.int d.Dcb.KeyLen),.c (.int .i64) (.int d.Dcb.KeyPos),.c (.slice 80) (.slice (List.map aj2 d.Extents)),.c (.int .i64) (.int d.Used)])]
def bqj (n:Nat) (d:ajc):Option Bool :=
 (bky n d.Name).bind fun r1 =>
 gd ((r1=true→(aq4 n d.Dcb).isSome=true)∧((if r1=true then ((aq4 n d.Dcb).getD default) else false)=true→(ajj n (d.Extents.length:Int) 1 8).isSome=true)∧((if (if r1=true then ((aq4 n d.Dcb).getD default) else false)=true then ((ajj n (d.Extents.length:Int) 1 8).getD default) else false)=true→(awm n d.Extents).isSome=true)∧((if (if (if r1=true then ((aq4 n d.Dcb).getD default) else false)=true then ((ajj n (d.Extents.length:Int) 1 8).getD default) else false)=true then ((awm n d.Extents).getD default) else false)=true→(ayj n d.Extents).isSome=true)∧((if (if (if r1=true then ((aq4 n d.Dcb).getD default) else false)=true then ((ajj n (d.Extents.length:Int) 1 8).getD default) else false)=true then ((awm n d.Extents).getD default) else false)=true→(ajj n d.Used 0 ((ayj n d.Extents).getD default)).isSome=true)) <|
 some (if (if (if (if r1=true then ((aq4 n d.Dcb).getD default) else false)=true then ((ajj n (d.Extents.length:Int) 1 8).getD default) else false)=true then ((awm n d.Extents).getD default) else false)=true then ((ajj n d.Used 0 ((ayj n d.Extents).getD default)).getD default) else false)
abbrev cz8 (v:aja) (d:ajc) (k:Int):S:=stB [(2,.box 9003 0),(3,.box 9004 0),(5,.c (.int .i64) (.int k))] [(9003,.box [.c .str (.str v.Serial),.c (.int .i64) (.int v.Cyls),.c (.int .i64) (.int v.Heads),.c (.int .i64) (.int v.Size),.c (.slice 41) (.slice (List.map aj5 v.Sets))]),(9004,.box [.c .str (.str d.Name),.c (.int .i64) (.int d.Dcb.Org),.c (.int .i64) (.int d.Dcb.Format),.c .bool (.bool d.Dcb.Blocked),.c .bool (.bool d.Dcb.Asa),.c (.int .i64) (.int d.Dcb.Lrecl),.c (.int .i64) (.int d.Dcb.Blksize),.c (.int .i64) (.int d.Dcb.KeyLen),.c (.int .i64) (.int d.Dcb.KeyPos),.c (.slice 80) (.slice (List.map aj2 d.Extents)),.c (.int .i64) (.int d.Used)])]
def ay2 (n:Nat) (v:aja) (d:ajc) (k:Int):Option ((Int) ⊕ (((Bool) ⊕ (Unit)))) :=
 bif (decide (k < (d.Extents.length:Int))) then
  gd ((0≤k∧k < (d.Extents.length:Int))) <|
  bif (if (decide (((gt d.Extents (Int.toNat k)).At)≤v.Size))=true then true else (decide ((jc .i64 (((gt d.Extents (Int.toNat k)).At)+((gt d.Extents (Int.toNat k)).Len))) > (jc .i64 (v.Cyls * v.Heads))))) then
   some (.inr (.inl false))
  else
   some (.inl (jc .i64 (k+1)))
 else
  some (.inr (.inr ()))
def bww (n:Nat) (v:aja) (d:ajc):Option Bool :=
 (aji (fun (x:Int)=>ay2 n v d x) n 0).bind fun y9 =>
 match y9 with
 | .inl vv =>
  some vv
 | .inr vv =>
  bqj n d
def dqt (n:Nat):Go.AE.Fn:=mkFn (A:=aja×ajc) (R:=Bool) 72 [(true,[.str,.int .i64,.int .i64,.int .i64,.slice 41]),(true,[.str,.int .i64,.int .i64,.bool,.bool,.int .i64,.int .i64,.int .i64,.int .i64,.slice 80,.int .i64])] false (fun xs=>((⟨(cg (xs.getD 0 []) 0).toStr,(cg (xs.getD 0 []) 1).toInt,(cg (xs.getD 0 []) 2).toInt,(cg (xs.getD 0 []) 3).toInt,((cg (xs.getD 0 []) 4).toSl.map aql)⟩:aja),(⟨(cg (xs.getD 1 []) 0).toStr,(⟨(cg (xs.getD 1 []) 1).toInt,(cg (xs.getD 1 []) 2).toInt,(cg (xs.getD 1 []) 3).toBool,(cg (xs.getD 1 []) 4).toBool,(cg (xs.getD 1 []) 5).toInt,(cg (xs.getD 1 []) 6).toInt,(cg (xs.getD 1 []) 7).toInt,(cg (xs.getD 1 []) 8).toInt⟩:TDcb),((cg (xs.getD 1 []) 9).toSl.map ajl),(cg (xs.getD 1 []) 10).toInt⟩:ajc))) (fun a=>[[.str a.1.Serial,.int a.1.Cyls,.int a.1.Heads,.int a.1.Size,.slice (List.map aj5 a.1.Sets)],[.str a.2.Name,.int a.2.Dcb.Org,.int a.2.Dcb.Format,.bool a.2.Dcb.Blocked,.bool a.2.Dcb.Asa,.int a.2.Dcb.Lrecl,.int a.2.Dcb.Blksize,.int a.2.Dcb.KeyLen,.int a.2.Dcb.KeyPos,.slice (List.map aj2 a.2.Extents),.int a.2.Used]]) (fun a=>bww n a.1 a.2) (fun r=>[.c .bool (.bool r)]) (fun r=>[])
theorem ek5 (n:Nat):aj1 jd (dqt n):=by
 have hΓ:=g1 (fjl n) (g1 (dwq n) (g1 (cy5 n) (g1 (cjt n) (g1 (ewt n) (@g0 (aj1 jd))))))
 refine aj7 (Tryz.f72.body.getD .skip) h00 Tryz.func72 rfl Tryz.call72 (by decide) (by intro _ r;exact ⟨rfl,by simp⟩) ?_
 rintro ⟨v,d⟩ r H
 try dsimp only at H
 unfold bww at H
 simp only [Tryz.f72,jt]
 refine rA ?_
 refine j1 (fun (x:Unit)=>cww d) (fun x=>bqj n d=some r) ?_ ?_
 ·refine rA ?_
  refine jw ?_
  obtain ⟨y9,hy9,Ho9⟩:=bind_some H
  refine jW _ (fun x=>cz8 v d x) hy9 (wb [some 32,some 48]) ?_
  rintro k z9 H
  try dsimp only at H
  unfold ay2 at H
  refine Sm.st (cz8.eq_1 ..) ?_
  refine jp fun K10 hK10=>?_
  refine rA ?_
  refine cnd H (fun h12 H=>?_) (fun h12 H=>?_)
  ·refine js ?_
   refine hK10 _ ?_
   refine jp fun K13 hK13=>?_
   refine jw ?_
   obtain ⟨hg18,H⟩:=aj4 H
   refine rA ?_
   refine rA ?_
   refine cnd H (fun h16 H=>?_) (fun h16 H=>?_)
   ·refine rA ?_
    refine jx ?_
    refine lf ?_
    refine lx H fun hyy=>?_
    subst hyy
    have H:=Ho9
    try dsimp only at H
    refine lf ?_
    obtain rfl:=Option.some.inj H
    exact rt []
   refine js ?_
   refine hK13 _ ?_
   refine eA ?_
   refine lf ?_
   exact nx H (wb [some 9003,some 9004])
  refine jZ ?_
  refine lf ?_
  refine lx H fun hyy=>?_
  subst hyy
  have H:=Ho9
  try dsimp only at H
  refine lf ?_
  exact ⟨(),H,wb [some 9004]⟩
 rintro ⟨⟩ H
 try dsimp only at H
 unfold bqj at H
 refine Sm.st (cww.eq_1 ..) ?_
 obtain ⟨r1,hr1,H⟩:=bind_some H
 obtain ⟨⟨hg3,hg4,hg5,hg6,hg7⟩,H⟩:=aj4 H
 have q:=aI @dk1.eq_1 (aI @byy.eq_1 (aI @cji.eq_1 (aI @bze.eq_1 (aI @dw8.eq_1 hr1))))
 refine rDq ?_
 refine jx ?_
 refine lf ?_
 obtain rfl:=Option.some.inj H
 exact rt []
abbrev dqi (l:List aj0):S:=stB [(3,.own 9000 [.int .i64,.int .i64] 0 l.length)] [(9000,.row 80 (List.map aj2 l))]
def bzt (n:Nat) (l:List aj0):Option (List aj0) :=
 some l
abbrev dqg (v:aja) (l_1:List aj0) (k:Int):S:=stB [(1,.box 9004 0),(3,.own 9005 [.int .i64,.int .i64] 0 l_1.length),(4,.c (.int .i64) (.int k))] [(9004,.box [.c .str (.str v.Serial),.c (.int .i64) (.int v.Cyls),.c (.int .i64) (.int v.Heads),.c (.int .i64) (.int v.Size),.c (.slice 41) (.slice (List.map aj5 v.Sets))]),(9005,.row 80 (List.map aj2 l_1))]
def ays (n:Nat) (v:aja) (l_1:List aj0) (k:Int):Option (((List aj0)×Int) ⊕ (((List aj0)))) :=
 bif (decide (k < (v.Sets.length:Int))) then
  gd ((0≤k∧k < (v.Sets.length:Int))∧(l_1.length+((gt v.Sets (Int.toNat k)).Extents).length)≤2147483648) <|
  some (.inl ((l_1 ++ (gt v.Sets (Int.toNat k)).Extents),(jc .i64 (k+1))))
 else
  some (.inr l_1)
def bko (n:Nat) (v:aja):Option (List aj0) :=
 (aji (fun (x:(List aj0)×Int)=>ays n v x.1 x.2) n ([],0)).bind fun y5 =>
 bzt n y5
def djq (n:Nat):Go.AE.Fn:=mkFn (A:=aja) (R:=(List aj0)) 74 [(true,[.str,.int .i64,.int .i64,.int .i64,.slice 41])] false (fun xs=>(⟨(cg (xs.getD 0 []) 0).toStr,(cg (xs.getD 0 []) 1).toInt,(cg (xs.getD 0 []) 2).toInt,(cg (xs.getD 0 []) 3).toInt,((cg (xs.getD 0 []) 4).toSl.map aql)⟩:aja)) (fun a=>[[.str a.Serial,.int a.Cyls,.int a.Heads,.int a.Size,.slice (List.map aj5 a.Sets)]]) (fun a=>bko n a) (fun r=>[.own 0 [.int .i64,.int .i64] 0 r.length]) (fun r=>[.row 80 (List.map aj2 r)])
theorem ej5 (n:Nat):aj1 jd (djq n):=by
 have hΓ:=@g0 (aj1 jd)
 refine aj7 (Tryz.f74.body.getD .skip) h00 Tryz.func74 rfl Tryz.call74 (by decide) (fun _ r=>⟨rfl,m1 ⟨80,_,_,rfl,ty80,rfl⟩ m0⟩) ?_
 rintro v r H
 try dsimp only at H
 unfold bko at H
 simp only [Tryz.f74,jt]
 refine rA ?_
 refine rA ?_
 refine j1 (fun (x:(List aj0))=>dqi x) (fun x=>bzt n x=some r) ?_ ?_
 ·refine rA ?_
  refine jw ?_
  obtain ⟨y5,hy5,Ho5⟩:=bind_some H
  refine jW _ (fun x=>dqg v x.1 x.2) hy5 (wb [some 16,none]) ?_
  rintro ⟨l_1,k⟩ z5 H
  try dsimp only at H
  unfold ays at H
  refine Sm.st (dqg.eq_1 ..) ?_
  refine jp fun K6 hK6=>?_
  refine rA ?_
  refine cnd H (fun h8 H=>?_) (fun h8 H=>?_)
  ·refine js ?_
   refine hK6 _ ?_
   refine jp fun K9 hK9=>?_
   refine jw ?_
   obtain ⟨⟨hg10,hg11⟩,H⟩:=aj4 H
   refine eA ?_
   refine hK9 _ ?_
   refine eA ?_
   refine lf ?_
   exact nx H (wb [some 9004,some 304])
  refine jZ ?_
  refine lf ?_
  refine lx H fun hyy=>?_
  subst hyy
  have H:=Ho5
  try dsimp only at H
  refine lf ?_
  exact ⟨_,H,wb [some 9005]⟩
 rintro l H
 try dsimp only at H
 unfold bzt at H
 refine Sm.st (dqi.eq_1 ..) ?_
 refine rA ?_
 refine jx ?_
 refine lf ?_
 obtain rfl:=Option.some.inj H
 exact rto [some 9000]
abbrev cwt (v:aja):S:=stB [(1,.box 9000 0)] [(9000,.box [.c .str (.str v.Serial),.c (.int .i64) (.int v.Cyls),.c (.int .i64) (.int v.Heads),.c (.int .i64) (.int v.Size),.c (.slice 41) (.slice (List.map aj5 v.Sets))])]
def bqk (n:Nat) (v:aja):Option Bool :=
 (bko n v).bind fun r2 =>
 (awm n r2).bind fun r3 =>
 some r3
abbrev czl (v:aja) (k:Int):S:=stB [(1,.box 9002 0),(3,.c (.int .i64) (.int k))] [(9002,.box [.c .str (.str v.Serial),.c (.int .i64) (.int v.Cyls),.c (.int .i64) (.int v.Heads),.c (.int .i64) (.int v.Size),.c (.slice 41) (.slice (List.map aj5 v.Sets))])]
def awn (n:Nat) (v:aja) (k:Int):Option ((Int) ⊕ (((Bool) ⊕ (Unit)))) :=
 bif (decide (k < (v.Sets.length:Int))) then
  gd ((0≤k∧k < (v.Sets.length:Int))) <|
  (bww n v (gt v.Sets (Int.toNat k))).bind fun r4 =>
  gd ((((!(!r4)) && (decide (k > 0)))=true→(0≤(jc .i64 (k - 1))∧(jc .i64 (k - 1)) < (v.Sets.length:Int)))∧(((!(!r4)) && (decide (k > 0)))=true→(0≤k∧k < (v.Sets.length:Int)))) <|
  bif (if (!r4)=true then true else (if (decide (k > 0))=true then (!Op.bytesLess ((gt v.Sets (Int.toNat (jc .i64 (k - 1)))).Name) ((gt v.Sets (Int.toNat k)).Name)) else false)) then
   some (.inr (.inl false))
  else
   some (.inl (jc .i64 (k+1)))
 else
  some (.inr (.inr ()))
def ayl (n:Nat) (v:aja):Option Bool :=
 (bqu n v.Serial).bind fun r1 =>
 gd (((!(!r1))=true→(ajj n v.Cyls 1 64).isSome=true)∧((!(if (!r1)=true then true else (!((ajj n v.Cyls 1 64).getD default))))=true→(ajj n v.Heads 1 8).isSome=true)∧((!(if (if (!r1)=true then true else (!((ajj n v.Cyls 1 64).getD default)))=true then true else (!((ajj n v.Heads 1 8).getD default))))=true→(ajj n v.Size 1 (jc .i64 ((jc .i64 (v.Cyls * v.Heads)) - 1))).isSome=true)) <|
 bif (if (if (if (if (if (!r1)=true then true else (!((ajj n v.Cyls 1 64).getD default)))=true then true else (!((ajj n v.Heads 1 8).getD default)))=true then true else (!((ajj n v.Size 1 (jc .i64 ((jc .i64 (v.Cyls * v.Heads)) - 1))).getD default)))=true then true else (decide ((v.Sets.length:Int) > 64)))=true then true else (decide ((v.Sets.length:Int) > (jc .i64 (14 * v.Size))))) then
  some false
 else
  (aji (fun (x:Int)=>awn n v x) n 0).bind fun y8 =>
  match y8 with
  | .inl vv =>
   some vv
  | .inr vv =>
   bqk n v
def bzr (n:Nat):Go.AE.Fn:=mkFn (A:=aja) (R:=Bool) 31 [(true,[.str,.int .i64,.int .i64,.int .i64,.slice 41])] false (fun xs=>(⟨(cg (xs.getD 0 []) 0).toStr,(cg (xs.getD 0 []) 1).toInt,(cg (xs.getD 0 []) 2).toInt,(cg (xs.getD 0 []) 3).toInt,((cg (xs.getD 0 []) 4).toSl.map aql)⟩:aja)) (fun a=>[[.str a.Serial,.int a.Cyls,.int a.Heads,.int a.Size,.slice (List.map aj5 a.Sets)]]) (fun a=>ayl n a) (fun r=>[.c .bool (.bool r)]) (fun r=>[])
theorem cjq (n:Nat):aj1 jd (bzr n):=by
 have hΓ:=g1 (ew0 n) (g1 (cy5 n) (g1 (ek5 n) (g1 (ej5 n) (g1 (cjt n) (@g0 (aj1 jd))))))
 have qe:=aI @cyh.eq_1 (aI @cji.eq_1 (aI @dqt.eq_1 (aI @djq.eq_1 @bze.eq_1)))
 refine aj7 (Tryz.f31.body.getD .skip) h00 Tryz.func31 rfl Tryz.call31 (by decide) (by intro _ r;exact ⟨rfl,by simp⟩) ?_
 rintro v r H
 try dsimp only at H
 unfold ayl at H
 simp only [Tryz.f31,jt]
 refine rA ?_
 refine jp fun K2 hK2=>?_
 obtain ⟨r1,hr1,H⟩:=bind_some H
 obtain ⟨⟨hg19,hg20,hg21⟩,H⟩:=aj4 H
 have q:=aI qe hr1
 refine rAq ?_
 refine cnd H (fun h4 H=>?_) (fun h4 H=>?_)
 ·refine rA ?_
  refine jx ?_
  refine lf ?_
  obtain rfl:=Option.some.inj H
  exact rt []
 refine js ?_
 refine hK2 _ ?_
 refine j1 (fun (x:Unit)=>cwt v) (fun x=>bqk n v=some r) ?_ ?_
 ·refine rA ?_
  refine jw ?_
  obtain ⟨y8,hy8,Ho8⟩:=bind_some H
  refine jW _ (fun x=>czl v x) hy8 (wb [some 16]) ?_
  rintro k z8 H
  try dsimp only at H
  unfold awn at H
  refine Sm.st (czl.eq_1 ..) ?_
  refine jp fun K9 hK9=>?_
  refine rA ?_
  refine cnd H (fun h11 H=>?_) (fun h11 H=>?_)
  ·refine js ?_
   refine hK9 _ ?_
   refine jp fun K12 hK12=>?_
   refine jw ?_
   obtain ⟨hg16,H⟩:=aj4 H
   obtain ⟨r4,hr4,H⟩:=bind_some H
   obtain ⟨⟨hg17,hg18⟩,H⟩:=aj4 H
   have q:=aI qe hr4
   refine rDq ?_
   refine cnd H (fun h14 H=>?_) (fun h14 H=>?_)
   ·refine rA ?_
    refine jx ?_
    refine lf ?_
    refine lx H fun hyy=>?_
    subst hyy
    have H:=Ho8
    try dsimp only at H
    refine lf ?_
    obtain rfl:=Option.some.inj H
    exact rt []
   refine js ?_
   refine hK12 _ ?_
   refine eA ?_
   refine lf ?_
   exact nx H (wb [some 9002])
  refine jZ ?_
  refine lf ?_
  refine lx H fun hyy=>?_
  subst hyy
  have H:=Ho8
  try dsimp only at H
  refine lf ?_
  exact ⟨(),H,wb [some 9002]⟩
 rintro ⟨⟩ H
 try dsimp only at H
 unfold bqk at H
 refine Sm.st (cwt.eq_1 ..) ?_
 obtain ⟨r2,hr2,H⟩:=bind_some H
 obtain ⟨r3,hr3,H⟩:=bind_some H
 have q:=aI qe (aI hr2 hr3)
 refine rAq ?_
 refine jx ?_
 refine lf ?_
 obtain rfl:=Option.some.inj H
 exact rt []
def ck8 (n:Nat):Option (List Int) :=
 some [64,90,127,123,91,108,80,125,77,93,92,78,107,96,75,97,240,241,242,243,244,245,246,247,248,249,122,94,76,126,110,111,124,193,194,195,196,197,198,199,200,201,209,210,211,212,213,214,215,216,217,226,227,228,229,230,231,232,233,186,224,187,176,109,121,129,130,131,132,133,134,135,136,137,145,146,147,148,149,150,151,152,153,162,163,164,165,166,167,168,169,192,79,208,161]
def dqy (n:Nat):Go.AE.Fn:=mkFn (A:=Unit) (R:=(List Int)) 195 [] false (fun xs=>()) (fun a=>[]) (fun a=>ck8 n) (fun r=>[.own 0 [.int .u8] 0 r.length]) (fun r=>[.row 5 (List.map ajz r)])
theorem ezs (n:Nat):aj1 jd (dqy n):=by
 have hΓ:=@g0 (aj1 jd)
 refine aj7 (Tryz.f195.body.getD .skip) h00 Tryz.func195 rfl Tryz.call195 (by decide) (fun _ r=>⟨rfl,m1 ⟨5,_,_,rfl,ty5,rfl⟩ m0⟩) ?_
 rintro ⟨⟩ r H
 try dsimp only at H
 unfold ck8 at H
 simp only [Tryz.f195,jt]
 refine rA ?_
 refine rA ?_
 refine jx ?_
 refine lf ?_
 obtain rfl:=Option.some.inj H
 exact rto [some 16]
def bkj (n:Nat) (c:Int):Option (Int×Bool) :=
 bif (if (decide (c < 32))=true then true else (decide (c > 126))) then
  some (0,false)
 else
  (ck8 n).bind fun r1 =>
  gd ((0≤(jc .u8 (c - 32))∧(jc .u8 (c - 32)) < (r1.length:Int))∧(Int.toNat (jc .u8 (c - 32))) < r1.length) <|
  some ((gt r1 (Int.toNat (jc .u8 (c - 32)))),true)
def dz4 (n:Nat):Go.AE.Fn:=mkFn (A:=Int) (R:=Int×Bool) 163 [(false,[.int .u8])] false (fun xs=>(cg (xs.getD 0 []) 0).toInt) (fun a=>[[.int a]]) (fun a=>bkj n a) (fun r=>[.c (.int .u8) (.int r.1),.c .bool (.bool r.2)]) (fun r=>[])
theorem eyj (n:Nat):aj1 jd (dz4 n):=by
 have hΓ:=g1 (ezs n) (@g0 (aj1 jd))
 refine aj7 (Tryz.f163.body.getD .skip) h00 Tryz.func163 rfl Tryz.call163 (by decide) (by intro _ r;exact ⟨rfl,by simp⟩) ?_
 rintro c r H
 try dsimp only at H
 unfold bkj at H
 simp only [Tryz.f163,jt]
 refine rA ?_
 refine jp fun K2 hK2=>?_
 refine rA ?_
 refine cnd H (fun h4 H=>?_) (fun h4 H=>?_)
 ·refine rA ?_
  refine jx ?_
  refine lf ?_
  obtain rfl:=Option.some.inj H
  exact rt []
 refine js ?_
 refine hK2 _ ?_
 obtain ⟨r1,hr1,H⟩:=bind_some H
 obtain ⟨⟨hg7,hg8⟩,H⟩:=aj4 H
 have q:=aI @dqy.eq_1 hr1
 refine rAq ?_
 refine jx ?_
 refine lf ?_
 obtain rfl:=Option.some.inj H
 exact rt []
abbrev cq4 (out:List Int):S:=stB [(4,.own 9000 [.int .u8] 0 out.length)] [(9000,.row 5 (List.map ajz out))]
def bjr (n:Nat) (out:List Int):Option ((List Int)×Int) :=
 some (out,0)
abbrev cql (s:List UInt8) (out_1:List Int) (i:Int):S:=stB [(0,.c .str (.str s)),(4,.own 9002 [.int .u8] 0 out_1.length),(5,.c (.int .i64) (.int i))] [(9002,.row 5 (List.map ajz out_1))]
def az8 (n:Nat) (s:List UInt8) (out_1:List Int) (i:Int):Option (((List Int)×Int) ⊕ ((((List Int)×Int) ⊕ ((List Int))))) :=
 bif (decide (i < (s.length:Int))) then
  gd ((0≤i∧i < (s.length:Int))) <|
  (bkj n (((s.getD (Int.toNat i) 0).toNat:Nat):Int)).bind fun r1 =>
  bif (!r1.2) then
   some (.inr (.inl ([],20)))
  else
   gd ((out_1.length+1)≤2147483648) <|
   some (.inl ((out_1 ++ [r1.1]),(jc .i64 (i+1))))
 else
  some (.inr (.inr out_1))
def bzq (n:Nat) (s:List UInt8):Option ((List Int)×Int) :=
 (aji (fun (x:(List Int)×Int)=>az8 n s x.1 x.2) n ([],0)).bind fun y5 =>
 match y5 with
 | .inl vv =>
  some (vv.1,vv.2)
 | .inr vv =>
  bjr n vv
def ckl (n:Nat):Go.AE.Fn:=mkFn (A:=(List UInt8)) (R:=(List Int)×Int) 123 [(false,[.str])] false (fun xs=>(cg (xs.getD 0 []) 0).toStr) (fun a=>[[.str a]]) (fun a=>bzq n a) (fun r=>[.own 0 [.int .u8] 0 r.1.length,.c (.int .i64) (.int r.2)]) (fun r=>[.row 5 (List.map ajz r.1)])
theorem eqf (n:Nat):aj1 jd (ckl n):=by
 have hΓ:=g1 (eyj n) (@g0 (aj1 jd))
 refine aj7 (Tryz.f123.body.getD .skip) h00 Tryz.func123 rfl Tryz.call123 (by decide) (fun _ r=>⟨rfl,m1 ⟨5,_,_,rfl,ty5,rfl⟩ m0⟩) ?_
 rintro s r H
 try dsimp only at H
 unfold bzq at H
 simp only [Tryz.f123,jt]
 refine rA ?_
 refine rA ?_
 refine j1 (fun (x:(List Int))=>cq4 x) (fun x=>bjr n x=some r) ?_ ?_
 ·refine rA ?_
  refine jw ?_
  obtain ⟨y5,hy5,Ho5⟩:=bind_some H
  refine jW _ (fun x=>cql s x.1 x.2) hy5 (wb [none]) ?_
  rintro ⟨out_1,i⟩ z5 H
  try dsimp only at H
  unfold az8 at H
  refine Sm.st (cql.eq_1 ..) ?_
  refine jp fun K6 hK6=>?_
  refine rA ?_
  refine cnd H (fun h8 H=>?_) (fun h8 H=>?_)
  ·refine js ?_
   refine hK6 _ ?_
   refine jp fun K9 hK9=>?_
   refine jw ?_
   obtain ⟨hg16,H⟩:=aj4 H
   obtain ⟨r1,hr1,H⟩:=bind_some H
   have q:=aI @dz4.eq_1 hr1
   refine rAq ?_
   refine jp fun K11 hK11=>?_
   refine rA ?_
   refine cnd H (fun h13 H=>?_) (fun h13 H=>?_)
   ·refine rA ?_
    refine jx ?_
    refine lf ?_
    refine lx H fun hyy=>?_
    subst hyy
    have H:=Ho5
    try dsimp only at H
    refine lf ?_
    obtain rfl:=Option.some.inj H
    exact rto [none]
   refine js ?_
   refine hK11 _ ?_
   obtain ⟨hg15,H⟩:=aj4 H
   refine eA ?_
   refine hK9 _ ?_
   refine eA ?_
   refine lf ?_
   exact nx H (wb [some 416])
  refine jZ ?_
  refine lf ?_
  refine lx H fun hyy=>?_
  subst hyy
  have H:=Ho5
  try dsimp only at H
  refine lf ?_
  exact ⟨_,H,wb [some 9002]⟩
 rintro out H
 try dsimp only at H
 unfold bjr at H
 refine Sm.st (cq4.eq_1 ..) ?_
 refine rA ?_
 refine jx ?_
 refine lf ?_
 obtain rfl:=Option.some.inj H
 exact rto [some 9000]
abbrev cye (b:List Int):S:=stB [(5,.own 9000 [.int .u8] 0 b.length)] [(9000,.row 5 (List.map ajz b))]
def bwg (n:Nat) (b:List Int):Option (List Int) :=
 some b
abbrev cym (n_:Int) (b_1:List Int):S:=stB [(1,.c (.int .i64) (.int n_)),(5,.own 9001 [.int .u8] 0 b_1.length)] [(9001,.row 5 (List.map ajz b_1))]
def bjt (n:Nat) (n_:Int) (b_1:List Int):Option (((List Int)) ⊕ (((List Int)))) :=
 bif (decide (((b_1.length:Nat):Int) < n_)) then
  gd ((b_1.length+1)≤2147483648) <|
  some (.inl (b_1 ++ [64]))
 else
  some (.inr b_1)
def akm (n:Nat) (s:List UInt8) (n_:Int):Option (List Int) :=
 (bzq n s).bind fun r1 =>
 (aji (fun (x:(List Int))=>bjt n n_ x) n r1.1).bind fun y4 =>
 bwg n y4
def ck7 (n:Nat):Go.AE.Fn:=mkFn (A:=(List UInt8)×Int) (R:=(List Int)) 64 [(false,[.str]),(false,[.int .i64])] false (fun xs=>((cg (xs.getD 0 []) 0).toStr,(cg (xs.getD 1 []) 0).toInt)) (fun a=>[[.str a.1],[.int a.2]]) (fun a=>akm n a.1 a.2) (fun r=>[.own 0 [.int .u8] 0 r.length]) (fun r=>[.row 5 (List.map ajz r)])
theorem dz6 (n:Nat):aj1 jd (ck7 n):=by
 have hΓ:=g1 (eqf n) (@g0 (aj1 jd))
 refine aj7 (Tryz.f64.body.getD .skip) h00 Tryz.func64 rfl Tryz.call64 (by decide) (fun _ r=>⟨rfl,m1 ⟨5,_,_,rfl,ty5,rfl⟩ m0⟩) ?_
 rintro ⟨s,n_⟩ r H
 try dsimp only at H
 unfold akm at H
 simp only [Tryz.f64,jt]
 refine rA ?_
 obtain ⟨r1,hr1,H⟩:=bind_some H
 have q:=aI @ckl.eq_1 hr1
 refine rAq ?_
 refine j1 (fun (x:(List Int))=>cye x) (fun x=>bwg n x=some r) ?_ ?_
 ·refine jw ?_
  obtain ⟨y4,hy4,Ho4⟩:=bind_some H
  refine jW _ (fun x=>cym n_ x) hy4 (wb [some 144]) ?_
  rintro b_1 z4 H
  try dsimp only at H
  unfold bjt at H
  refine Sm.st (cym.eq_1 ..) ?_
  refine jp fun K5 hK5=>?_
  refine rA ?_
  refine cnd H (fun h7 H=>?_) (fun h7 H=>?_)
  ·refine js ?_
   refine hK5 _ ?_
   refine jw ?_
   obtain ⟨hg8,H⟩:=aj4 H
   refine eA ?_
   refine lf ?_
   exact nx H (wb [some 288])
  refine jZ ?_
  refine lf ?_
  refine lx H fun hyy=>?_
  subst hyy
  have H:=Ho4
  try dsimp only at H
  refine lf ?_
  exact ⟨_,H,wb [some 9001]⟩
 rintro b H
 try dsimp only at H
 unfold bwg at H
 refine Sm.st (cye.eq_1 ..) ?_
 refine rA ?_
 refine jx ?_
 refine lf ?_
 obtain rfl:=Option.some.inj H
 exact rto [some 9000]
def ayu (n:Nat) (n_:Int):Option (List Int) :=
 some [(jc .u8 ((jc .i64 (Int.tdiv n_ 256)))),(jc .u8 ((Int.tmod n_ 256)))]
def ck6 (n:Nat):Go.AE.Fn:=mkFn (A:=Int) (R:=(List Int)) 65 [(false,[.int .i64])] false (fun xs=>(cg (xs.getD 0 []) 0).toInt) (fun a=>[[.int a]]) (fun a=>ayu n a) (fun r=>[.own 0 [.int .u8] 0 r.length]) (fun r=>[.row 5 (List.map ajz r)])
theorem dzd (n:Nat):aj1 jd (ck6 n):=by
 have hΓ:=@g0 (aj1 jd)
 refine aj7 (Tryz.f65.body.getD .skip) h00 Tryz.func65 rfl Tryz.call65 (by decide) (fun _ r=>⟨rfl,m1 ⟨5,_,_,rfl,ty5,rfl⟩ m0⟩) ?_
 rintro n_ r H
 try dsimp only at H
 unfold ayu at H
 simp only [Tryz.f65,jt]
 refine rA ?_
 refine rA ?_
 refine jx ?_
 refine lf ?_
 obtain rfl:=Option.some.inj H
 exact rto [some 144]
def akc (n:Nat) (is:Bool) (n_:Int):Option Int :=
 bif is then
  some (jc .u8 (n_))
 else
  some 0
def dzx (n:Nat):Go.AE.Fn:=mkFn (A:=Bool×Int) (R:=Int) 124 [(false,[.bool]),(false,[.int .i64])] false (fun xs=>((cg (xs.getD 0 []) 0).toBool,(cg (xs.getD 1 []) 0).toInt)) (fun a=>[[.bool a.1],[.int a.2]]) (fun a=>akc n a.1 a.2) (fun r=>[.c (.int .u8) (.int r)]) (fun r=>[])
theorem fjm (n:Nat):aj1 jd (dzx n):=by
 have hΓ:=@g0 (aj1 jd)
 refine aj7 (Tryz.f124.body.getD .skip) h00 Tryz.func124 rfl Tryz.call124 (by decide) (by intro _ r;exact ⟨rfl,by simp⟩) ?_
 rintro ⟨is,n_⟩ r H
 try dsimp only at H
 unfold akc at H
 simp only [Tryz.f124,jt]
 refine rA ?_
 refine jp fun K2 hK2=>?_
 refine rA ?_
 refine cnd H (fun h4 H=>?_) (fun h4 H=>?_)
 ·refine rA ?_
  refine jx ?_
  refine lf ?_
  obtain rfl:=Option.some.inj H
  exact rt []
 refine js ?_
 refine hK2 _ ?_
 refine rA ?_
 refine jx ?_
 refine lf ?_
 obtain rfl:=Option.some.inj H
 exact rt []
abbrev cqm (n_:Int) (d:ajc) (b_1:List Int):S:=stB [(0,.c (.int .i64) (.int n_)),(3,.box 9003 0),(4,.box 9004 0),(6,.own 9005 [.int .u8] 0 b_1.length)] [(9003,.box [.c .str (.str d.Name),.c (.int .i64) (.int d.Dcb.Org),.c (.int .i64) (.int d.Dcb.Format),.c .bool (.bool d.Dcb.Blocked),.c .bool (.bool d.Dcb.Asa),.c (.int .i64) (.int d.Dcb.Lrecl),.c (.int .i64) (.int d.Dcb.Blksize),.c (.int .i64) (.int d.Dcb.KeyLen),.c (.int .i64) (.int d.Dcb.KeyPos),.c (.slice 80) (.slice (List.map aj2 d.Extents)),.c (.int .i64) (.int d.Used)]),(9004,.box [.c (.int .i64) (.int 0),.nilsl,.nilsl,.c .bool (.bool false)]),(9005,.row 5 (List.map ajz b_1))]
def bj9 (n:Nat) (n_:Int) (d:ajc) (b_1:List Int):Option TRec :=
 (akm n d.Name 44).bind fun r3 =>
 some (⟨n_,r3,b_1,false⟩:TRec)
abbrev cqh (n_:Int) (d:ajc) (b_3:List Int) (k:Int):S:=stB [(0,.c (.int .i64) (.int n_)),(3,.box 9012 0),(4,.box 9013 0),(6,.own 9014 [.int .u8] 0 b_3.length),(9,.c (.int .i64) (.int k))] [(9012,.box [.c .str (.str d.Name),.c (.int .i64) (.int d.Dcb.Org),.c (.int .i64) (.int d.Dcb.Format),.c .bool (.bool d.Dcb.Blocked),.c .bool (.bool d.Dcb.Asa),.c (.int .i64) (.int d.Dcb.Lrecl),.c (.int .i64) (.int d.Dcb.Blksize),.c (.int .i64) (.int d.Dcb.KeyLen),.c (.int .i64) (.int d.Dcb.KeyPos),.c (.slice 80) (.slice (List.map aj2 d.Extents)),.c (.int .i64) (.int d.Used)]),(9013,.box [.c (.int .i64) (.int 0),.nilsl,.nilsl,.c .bool (.bool false)]),(9014,.row 5 (List.map ajz b_3))]
def ak4 (n:Nat) (n_:Int) (d:ajc) (b_3:List Int) (k:Int):Option (((List Int)×Int) ⊕ (((List Int)))) :=
 some (.inl (b_3,(jc .i64 (k+1))))
abbrev cqe (n_:Int) (d:ajc) (b_2:List Int) (k:Int) (x_:Int) (x__1:Int):S:=stB [(0,.c (.int .i64) (.int n_)),(3,.box 9015 0),(4,.box 9016 0),(6,.own 9017 [.int .u8] 0 b_2.length),(9,.c (.int .i64) (.int k)),(10,.box 9018 0)] [(9015,.box [.c .str (.str d.Name),.c (.int .i64) (.int d.Dcb.Org),.c (.int .i64) (.int d.Dcb.Format),.c .bool (.bool d.Dcb.Blocked),.c .bool (.bool d.Dcb.Asa),.c (.int .i64) (.int d.Dcb.Lrecl),.c (.int .i64) (.int d.Dcb.Blksize),.c (.int .i64) (.int d.Dcb.KeyLen),.c (.int .i64) (.int d.Dcb.KeyPos),.c (.slice 80) (.slice (List.map aj2 d.Extents)),.c (.int .i64) (.int d.Used)]),(9016,.box [.c (.int .i64) (.int 0),.nilsl,.nilsl,.c .bool (.bool false)]),(9017,.row 5 (List.map ajz b_2)),(9018,.box [.c (.int .i64) (.int x_),.c (.int .i64) (.int x__1)])]
def awu (n:Nat) (n_:Int) (d:ajc) (b_2:List Int) (k:Int) (x_:Int) (x__1:Int):Option (((List Int)×Int) ⊕ (((List Int)))) :=
 (ayu n x_).bind fun r4 =>
 gd ((b_2.length+r4.length)≤2147483648) <|
 (ayu n x__1).bind fun r5 =>
 gd (((b_2.length+r4.length)+r5.length)≤2147483648) <|
 ak4 n n_ d ((b_2 ++ r4) ++ r5) k
abbrev cqf (n_:Int) (d:ajc) (b_2:List Int) (k:Int):S:=stB [(0,.c (.int .i64) (.int n_)),(3,.box 9009 0),(4,.box 9010 0),(6,.own 9011 [.int .u8] 0 b_2.length),(9,.c (.int .i64) (.int k))] [(9009,.box [.c .str (.str d.Name),.c (.int .i64) (.int d.Dcb.Org),.c (.int .i64) (.int d.Dcb.Format),.c .bool (.bool d.Dcb.Blocked),.c .bool (.bool d.Dcb.Asa),.c (.int .i64) (.int d.Dcb.Lrecl),.c (.int .i64) (.int d.Dcb.Blksize),.c (.int .i64) (.int d.Dcb.KeyLen),.c (.int .i64) (.int d.Dcb.KeyPos),.c (.slice 80) (.slice (List.map aj2 d.Extents)),.c (.int .i64) (.int d.Used)]),(9010,.box [.c (.int .i64) (.int 0),.nilsl,.nilsl,.c .bool (.bool false)]),(9011,.row 5 (List.map ajz b_2))]
def az1 (n:Nat) (n_:Int) (d:ajc) (b_2:List Int) (k:Int):Option (((List Int)×Int) ⊕ (((List Int)))) :=
 bif (decide (k < 8)) then
  bif (decide (k < (d.Extents.length:Int))) then
   gd ((0≤k∧k < (d.Extents.length:Int))) <|
   awu n n_ d b_2 k ((gt d.Extents (Int.toNat k)).At) ((gt d.Extents (Int.toNat k)).Len)
  else
   awu n n_ d b_2 k 0 0
 else
  some (.inr b_2)
abbrev cjf (n_:Int) (d:ajc) (b:List Int):S:=stB [(0,.c (.int .i64) (.int n_)),(3,.box 9000 0),(4,.box 9001 0),(6,.own 9002 [.int .u8] 0 b.length)] [(9000,.box [.c .str (.str d.Name),.c (.int .i64) (.int d.Dcb.Org),.c (.int .i64) (.int d.Dcb.Format),.c .bool (.bool d.Dcb.Blocked),.c .bool (.bool d.Dcb.Asa),.c (.int .i64) (.int d.Dcb.Lrecl),.c (.int .i64) (.int d.Dcb.Blksize),.c (.int .i64) (.int d.Dcb.KeyLen),.c (.int .i64) (.int d.Dcb.KeyPos),.c (.slice 80) (.slice (List.map aj2 d.Extents)),.c (.int .i64) (.int d.Used)]),(9001,.box [.c (.int .i64) (.int 0),.nilsl,.nilsl,.c .bool (.bool false)]),(9002,.row 5 (List.map ajz b))]
def bjg (n:Nat) (n_:Int) (d:ajc) (b:List Int):Option TRec :=
 gd ((b.length+1)≤2147483648) <|
 (aji (fun (x:(List Int)×Int)=>az1 n n_ d x.1 x.2) n ((b ++ [(jc .u8 ((d.Extents.length:Int)))]),0)).bind fun y8 =>
 bj9 n n_ d y8
abbrev cq3 (n_:Int) (d:ajc) (l:List Int) (b_4:List Int) (k_1:Int):S:=stB [(0,.c (.int .i64) (.int n_)),(3,.box 9023 0),(4,.box 9024 0),(6,.own 9025 [.int .u8] 0 b_4.length),(7,.own 9026 [.int .i64] 0 l.length),(8,.c (.int .i64) (.int k_1))] [(9023,.box [.c .str (.str d.Name),.c (.int .i64) (.int d.Dcb.Org),.c (.int .i64) (.int d.Dcb.Format),.c .bool (.bool d.Dcb.Blocked),.c .bool (.bool d.Dcb.Asa),.c (.int .i64) (.int d.Dcb.Lrecl),.c (.int .i64) (.int d.Dcb.Blksize),.c (.int .i64) (.int d.Dcb.KeyLen),.c (.int .i64) (.int d.Dcb.KeyPos),.c (.slice 80) (.slice (List.map aj2 d.Extents)),.c (.int .i64) (.int d.Used)]),(9024,.box [.c (.int .i64) (.int 0),.nilsl,.nilsl,.c .bool (.bool false)]),(9025,.row 5 (List.map ajz b_4)),(9026,.row 3 (List.map ajz l))]
def ak6 (n:Nat) (n_:Int) (d:ajc) (l:List Int) (b_4:List Int) (k_1:Int):Option (((List Int)×Int) ⊕ (((List Int)))) :=
 bif (decide (k_1 < 4)) then
  gd ((0≤k_1∧k_1 < (l.length:Int))∧(Int.toNat k_1) < l.length) <|
  (ayu n (gt l (Int.toNat k_1))).bind fun r6 =>
  gd ((b_4.length+r6.length)≤2147483648) <|
  some (.inl ((b_4 ++ r6),(jc .i64 (k_1+1))))
 else
  some (.inr b_4)
def bqv (n:Nat) (n_:Int) (d:ajc):Option TRec :=
 (akc n d.Dcb.Blocked 128).bind fun r1 =>
 (akc n d.Dcb.Asa 64).bind fun r2 =>
 (aji (fun (x:(List Int)×Int)=>ak6 n n_ d [d.Dcb.Lrecl,d.Dcb.Blksize,d.Dcb.KeyPos,d.Used] x.1 x.2) n ([(jc .u8 (d.Dcb.Org)),(jc .u8 (d.Dcb.Format)),(jc .u8 (r1+r2)),(jc .u8 (d.Dcb.KeyLen))],0)).bind fun y21 =>
 bjg n n_ d y21
def cy7 (n:Nat):Go.AE.Fn:=mkFn (A:=Int×ajc) (R:=TRec) 66 [(false,[.int .i64]),(true,[.str,.int .i64,.int .i64,.bool,.bool,.int .i64,.int .i64,.int .i64,.int .i64,.slice 80,.int .i64])] false (fun xs=>((cg (xs.getD 0 []) 0).toInt,(⟨(cg (xs.getD 1 []) 0).toStr,(⟨(cg (xs.getD 1 []) 1).toInt,(cg (xs.getD 1 []) 2).toInt,(cg (xs.getD 1 []) 3).toBool,(cg (xs.getD 1 []) 4).toBool,(cg (xs.getD 1 []) 5).toInt,(cg (xs.getD 1 []) 6).toInt,(cg (xs.getD 1 []) 7).toInt,(cg (xs.getD 1 []) 8).toInt⟩:TDcb),((cg (xs.getD 1 []) 9).toSl.map ajl),(cg (xs.getD 1 []) 10).toInt⟩:ajc))) (fun a=>[[.int a.1],[.str a.2.Name,.int a.2.Dcb.Org,.int a.2.Dcb.Format,.bool a.2.Dcb.Blocked,.bool a.2.Dcb.Asa,.int a.2.Dcb.Lrecl,.int a.2.Dcb.Blksize,.int a.2.Dcb.KeyLen,.int a.2.Dcb.KeyPos,.slice (List.map aj2 a.2.Extents),.int a.2.Used]]) (fun a=>bqv n a.1 a.2) (fun r=>[.agg [.c (.int .i64) (.int r.R),.own 0 [.int .u8] 0 r.Key.length,.own 1 [.int .u8] 0 r.Data.length,.c .bool (.bool r.Bad)]]) (fun r=>[.row 5 (List.map ajz r.Key),.row 5 (List.map ajz r.Data)])
theorem eqe (n:Nat):aj1 jd (cy7 n):=by
 have hΓ:=g1 (fjm n) (g1 (dzd n) (g1 (dz6 n) (@g0 (aj1 jd))))
 have qe:=aI @dzx.eq_1 (aI @ck6.eq_1 @ck7.eq_1)
 refine aj7 (Tryz.f66.body.getD .skip) h00 Tryz.func66 rfl Tryz.call66 (by decide) (fun _ r=>⟨rfl,m1 ⟨5,_,_,rfl,ty5,rfl⟩ (m1 ⟨5,_,_,rfl,ty5,rfl⟩ m0)⟩) ?_
 rintro ⟨n_,d⟩ r H
 try dsimp only at H
 unfold bqv at H
 simp only [Tryz.f66,jt]
 refine rA ?_
 refine rA ?_
 obtain ⟨r1,hr1,H⟩:=bind_some H
 obtain ⟨r2,hr2,H⟩:=bind_some H
 have q:=aI qe (aI hr1 hr2)
 refine rDq ?_
 refine rA ?_
 refine j1 (fun (x:(List Int))=>cjf n_ d x) (fun x=>bjg n n_ d x=some r) ?_ ?_
 ·refine rA ?_
  refine jw ?_
  obtain ⟨y21,hy21,Ho21⟩:=bind_some H
  refine jW _ (fun x=>cq3 n_ d [d.Dcb.Lrecl,d.Dcb.Blksize,d.Dcb.KeyPos,d.Used] x.1 x.2) hy21 (wb [some 48,some 64,some 464,some 608]) ?_
  rintro ⟨b_4,k_1⟩ z21 H
  try dsimp only at H
  unfold ak6 at H
  refine Sm.st (cq3.eq_1 ..) ?_
  refine jp fun K22 hK22=>?_
  refine rA ?_
  refine cnd H (fun h24 H=>?_) (fun h24 H=>?_)
  ·refine js ?_
   refine hK22 _ ?_
   refine jp fun K25 hK25=>?_
   refine jw ?_
   obtain ⟨⟨hg26,hg27⟩,H⟩:=aj4 H
   obtain ⟨r6,hr6,H⟩:=bind_some H
   obtain ⟨hg28,H⟩:=aj4 H
   have q:=aI qe hr6
   refine eAq ?_
   refine hK25 _ ?_
   refine eA ?_
   refine lf ?_
   exact nx H (wb [some 9023,some 9024,some 784,some 9026])
  refine jZ ?_
  refine lf ?_
  refine lx H fun hyy=>?_
  subst hyy
  have H:=Ho21
  try dsimp only at H
  refine lf ?_
  exact ⟨_,H,wb [some 9023,some 9024,some 9025]⟩
 rintro b H
 try dsimp only at H
 unfold bjg at H
 refine Sm.st (cjf.eq_1 ..) ?_
 obtain ⟨hg19,H⟩:=aj4 H
 refine rA ?_
 refine j1 (fun (x:(List Int))=>cqm n_ d x) (fun x=>bj9 n n_ d x=some r) ?_ ?_
 ·refine rA ?_
  refine jw ?_
  obtain ⟨y8,hy8,Ho8⟩:=bind_some H
  refine jW _ (fun x=>cqf n_ d x.1 x.2) hy8 (wb [some 9000,some 9001,some 896]) ?_
  rintro ⟨b_2,k⟩ z8 H
  try dsimp only at H
  unfold az1 at H
  refine Sm.st (cqf.eq_1 ..) ?_
  refine jp fun K9 hK9=>?_
  refine rA ?_
  refine cnd H (fun h11 H=>?_) (fun h11 H=>?_)
  ·refine js ?_
   refine hK9 _ ?_
   refine j1 (fun (x:(List Int))=>cqh n_ d x k) (fun x=>ak4 n n_ d x k=some z8) ?_ ?_
   ·refine jw ?_
    refine rA ?_
    refine j1 (fun (x:Int×Int)=>cqe n_ d b_2 k x.1 x.2) (fun x=>awu n n_ d b_2 k x.1 x.2=some z8) ?_ ?_
    ·refine rA ?_
     refine cnd H (fun h17 H=>?_) (fun h17 H=>?_)
     ·obtain ⟨hg18,H⟩:=aj4 H
      refine eA ?_
      refine lf ?_
      exact ⟨(((gt d.Extents (Int.toNat k)).At),((gt d.Extents (Int.toNat k)).Len)),H,wb [some 9009,some 9010,some 9011,some 160]⟩
     refine js ?_
     refine lf ?_
     exact ⟨(0,0),H,wb [some 9009,some 9010,some 9011,some 160]⟩
    rintro ⟨x_,x__1⟩ H
    try dsimp only at H
    unfold awu at H
    refine Sm.st (cqe.eq_1 ..) ?_
    obtain ⟨r4,hr4,H⟩:=bind_some H
    obtain ⟨hg15,H⟩:=aj4 H
    have q:=aI qe hr4
    refine rAq ?_
    obtain ⟨r5,hr5,H⟩:=bind_some H
    obtain ⟨hg14,H⟩:=aj4 H
    have q:=aI qe hr5
    refine eAq ?_
    refine lf ?_
    exact ⟨_,H,wb [some 9015,some 9016,some 1296]⟩
   rintro b_3 H
   try dsimp only at H
   unfold ak4 at H
   refine Sm.st (cqh.eq_1 ..) ?_
   refine eA ?_
   refine lf ?_
   exact nx H (wb [some 9012,some 9013,some 9014])
  refine jZ ?_
  refine lf ?_
  refine lx H fun hyy=>?_
  subst hyy
  have H:=Ho8
  try dsimp only at H
  refine lf ?_
  exact ⟨_,H,wb [some 9009,some 9010,some 9011]⟩
 rintro b_1 H
 try dsimp only at H
 unfold bj9 at H
 refine Sm.st (cqm.eq_1 ..) ?_
 obtain ⟨r3,hr3,H⟩:=bind_some H
 have q:=aI qe hr3
 refine rAq ?_
 refine jx ?_
 refine lf ?_
 obtain rfl:=Option.some.inj H
 exact rto [some 1360,some 9005]
abbrev cqq (out:List (List TRec)):S:=stB [(7,.own 9002 [.slice 87] 0 out.length)] [(9002,.row 84 (List.map aq7 out))]
def bwz (n:Nat) (out:List (List TRec)):Option ((List (List TRec))×Int) :=
 some (out,0)
abbrev cjo (v:aja) (out_2:List (List TRec)) (n_:Int):S:=stB [(1,.box 9007 0),(7,.own 9008 [.slice 87] 0 out_2.length),(8,.c (.int .i64) (.int n_))] [(9007,.box [.c .str (.str v.Serial),.c (.int .i64) (.int v.Cyls),.c (.int .i64) (.int v.Heads),.c (.int .i64) (.int v.Size),.c (.slice 41) (.slice (List.map aj5 v.Sets))]),(9008,.row 84 (List.map aq7 out_2))]
def bj0 (n:Nat) (v:aja) (out_2:List (List TRec)) (n_:Int):Option (((List (List TRec))×Int) ⊕ (((List (List TRec))))) :=
 some (.inl (out_2,(jc .i64 (n_+1))))
abbrev cqs (v:aja) (out_1:List (List TRec)) (n_:Int) (t:List TRec):S:=stB [(1,.box 9009 0),(7,.own 9010 [.slice 87] 0 out_1.length),(8,.c (.int .i64) (.int n_)),(9,.own 9011 [.int .i64,.slice 5,.slice 5,.bool] 0 t.length)] [(9009,.box [.c .str (.str v.Serial),.c (.int .i64) (.int v.Cyls),.c (.int .i64) (.int v.Heads),.c (.int .i64) (.int v.Size),.c (.slice 41) (.slice (List.map aj5 v.Sets))]),(9010,.row 84 (List.map aq7 out_1)),(9011,.row 87 (List.map aqp t))]
def bje (n:Nat) (v:aja) (out_1:List (List TRec)) (n_:Int) (t:List TRec):Option (((List (List TRec))×Int) ⊕ (((List (List TRec))))) :=
 gd ((out_1.length+1)≤2147483648) <|
 bj0 n v (out_1 ++ [t]) n_
abbrev cjj (v:aja) (out_1:List (List TRec)) (n_:Int) (t_1:List TRec) (k:Int):S:=stB [(1,.box 9017 0),(7,.own 9018 [.slice 87] 0 out_1.length),(8,.c (.int .i64) (.int n_)),(9,.own 9019 [.int .i64,.slice 5,.slice 5,.bool] 0 t_1.length),(10,.c (.int .i64) (.int k))] [(9017,.box [.c .str (.str v.Serial),.c (.int .i64) (.int v.Cyls),.c (.int .i64) (.int v.Heads),.c (.int .i64) (.int v.Size),.c (.slice 41) (.slice (List.map aj5 v.Sets))]),(9018,.row 84 (List.map aq7 out_1)),(9019,.row 87 (List.map aqp t_1))]
def az6 (n:Nat) (v:aja) (out_1:List (List TRec)) (n_:Int) (t_1:List TRec) (k:Int):Option (((List TRec)×Int) ⊕ (((List TRec)))) :=
 bif (if (decide (k < 14))=true then (decide ((jc .i64 ((jc .i64 (n_ * 14))+k)) < (v.Sets.length:Int))) else false) then
  gd ((0≤(jc .i64 ((jc .i64 (n_ * 14))+k))∧(jc .i64 ((jc .i64 (n_ * 14))+k)) < (v.Sets.length:Int))) <|
  (bqv n (jc .i64 (k+1)) (gt v.Sets (Int.toNat (jc .i64 ((jc .i64 (n_ * 14))+k))))).bind fun r6 =>
  gd ((t_1.length+1)≤2147483648) <|
  some (.inl ((t_1 ++ [r6]),(jc .i64 (k+1))))
 else
  some (.inr t_1)
abbrev cje (v:aja) (out_1:List (List TRec)) (n_:Int):S:=stB [(1,.box 9005 0),(7,.own 9006 [.slice 87] 0 out_1.length),(8,.c (.int .i64) (.int n_))] [(9005,.box [.c .str (.str v.Serial),.c (.int .i64) (.int v.Cyls),.c (.int .i64) (.int v.Heads),.c (.int .i64) (.int v.Size),.c (.slice 41) (.slice (List.map aj5 v.Sets))]),(9006,.row 84 (List.map aq7 out_1))]
def az5 (n:Nat) (v:aja) (out_1:List (List TRec)) (n_:Int):Option (((List (List TRec))×Int) ⊕ (((List (List TRec))))) :=
 bif (decide (n_ < v.Size)) then
  (aji (fun (x:(List TRec)×Int)=>az6 n v out_1 n_ x.1 x.2) n ([],0)).bind fun y20 =>
  bje n v out_1 n_ y20
 else
  some (.inr out_1)
abbrev cju (v:aja) (b:List Int):S:=stB [(1,.box 9000 0),(4,.own 9001 [.int .u8] 0 b.length)] [(9000,.box [.c .str (.str v.Serial),.c (.int .i64) (.int v.Cyls),.c (.int .i64) (.int v.Heads),.c (.int .i64) (.int v.Size),.c (.slice 41) (.slice (List.map aj5 v.Sets))]),(9001,.row 5 (List.map ajz b))]
def bj2 (n:Nat) (v:aja) (b:List Int):Option ((List (List TRec))×Int) :=
 (akm n [] 64).bind fun r4 =>
 gd ((b.length+r4.length)≤2147483648) <|
 (akm n [86,79,76,49] 4).bind fun r5 =>
 (aji (fun (x:(List (List TRec))×Int)=>az5 n v x.1 x.2) n ([[(⟨3,r5,(b ++ r4),false⟩:TRec)]],0)).bind fun y13 =>
 bwz n y13
abbrev cjl (v:aja) (l:List Int) (b_1:List Int) (k_1:Int):S:=stB [(1,.box 9023 0),(4,.own 9024 [.int .u8] 0 b_1.length),(5,.own 9025 [.int .i64] 0 l.length),(6,.c (.int .i64) (.int k_1))] [(9023,.box [.c .str (.str v.Serial),.c (.int .i64) (.int v.Cyls),.c (.int .i64) (.int v.Heads),.c (.int .i64) (.int v.Size),.c (.slice 41) (.slice (List.map aj5 v.Sets))]),(9024,.row 5 (List.map ajz b_1)),(9025,.row 3 (List.map ajz l))]
def ak5 (n:Nat) (v:aja) (l:List Int) (b_1:List Int) (k_1:Int):Option (((List Int)×Int) ⊕ (((List Int)))) :=
 bif (decide (k_1 < 3)) then
  gd ((0≤k_1∧k_1 < (l.length:Int))∧(Int.toNat k_1) < l.length) <|
  (ayu n (gt l (Int.toNat k_1))).bind fun r7 =>
  gd ((b_1.length+r7.length)≤2147483648) <|
  some (.inl ((b_1 ++ r7),(jc .i64 (k_1+1))))
 else
  some (.inr b_1)
def bqt (n:Nat) (v:aja):Option ((List (List TRec))×Int) :=
 (ayl n v).bind fun r1 =>
 bif (!r1) then
  some ([],5)
 else
  (akm n [86,79,76,49] 4).bind fun r2 =>
  (akm n v.Serial 6).bind fun r3 =>
  gd ((r2.length+r3.length)≤2147483648) <|
  (aji (fun (x:(List Int)×Int)=>ak5 n v [v.Cyls,v.Heads,v.Size] x.1 x.2) n ((r2 ++ r3),0)).bind fun y29 =>
  bj2 n v y29
def djf (n:Nat):Go.AE.Fn:=mkFn (A:=aja) (R:=(List (List TRec))×Int) 29 [(true,[.str,.int .i64,.int .i64,.int .i64,.slice 41])] true (fun xs=>(⟨(cg (xs.getD 0 []) 0).toStr,(cg (xs.getD 0 []) 1).toInt,(cg (xs.getD 0 []) 2).toInt,(cg (xs.getD 0 []) 3).toInt,((cg (xs.getD 0 []) 4).toSl.map aql)⟩:aja)) (fun a=>[[.str a.Serial,.int a.Cyls,.int a.Heads,.int a.Size,.slice (List.map aj5 a.Sets)]]) (fun a=>bqt n a) (fun r=>[.own 0 [.slice 87] 0 r.1.length,.c (.int .i64) (.int r.2)]) (fun r=>[.row 84 (List.map aq7 r.1)])
theorem ewe (n:Nat):aj1 jd (djf n):=by
 have hΓ:=g1 (cjq n) (g1 (dz6 n) (g1 (dzd n) (g1 (eqe n) (@g0 (aj1 jd)))))
 have qe:=aI @bzr.eq_1 (aI @ck7.eq_1 (aI @ck6.eq_1 @cy7.eq_1))
 refine aj7 (Tryz.f29.body.getD .skip) h00 Tryz.func29 rfl Tryz.call29 (by decide) (by intro h;cases h) ?_
 rintro v r H
 try dsimp only at H
 unfold bqt at H
 simp only [Tryz.f29,jt]
 refine rA ?_
 refine jp fun K2 hK2=>?_
 obtain ⟨r1,hr1,H⟩:=bind_some H
 have q:=aI qe hr1
 refine rAq ?_
 refine cnd H (fun h4 H=>?_) (fun h4 H=>?_)
 ·refine rA ?_
  refine jx ?_
  refine lf ?_
  obtain rfl:=Option.some.inj H
  exact rto [none]
 refine js ?_
 refine hK2 _ ?_
 obtain ⟨r2,hr2,H⟩:=bind_some H
 obtain ⟨r3,hr3,H⟩:=bind_some H
 obtain ⟨hg7,H⟩:=aj4 H
 refine sQ [0,1,2,3,4,5] [(none,[],[239,238,237,236,235,234,233,232,231,230,229,228,227,226,225,224]),(none,[16],[]),(none,[16],[]),(none,[],[287,286,285,284,283,282,281,280,279,278,277,276,275,274,273,272]),(none,[224,272],[288,224]),(none,[],[])] fun K6 hK6=>?_
 have q:=aI qe (aI hr2 hr3)
 iterate 6 refine oQq ?_
 refine ck2 ?_
 refine hK6 _ ?_
 refine rA ?_
 refine j1 (fun (x:(List Int))=>cju v x) (fun x=>bj2 n v x=some r) ?_ ?_
 ·refine rA ?_
  refine jw ?_
  obtain ⟨y29,hy29,Ho29⟩:=bind_some H
  refine jW _ (fun x=>cjl v [v.Cyls,v.Heads,v.Size] x.1 x.2) hy29 (wb [some 16,some 288,some 400]) ?_
  rintro ⟨b_1,k_1⟩ z29 H
  try dsimp only at H
  unfold ak5 at H
  refine Sm.st (cjl.eq_1 ..) ?_
  refine jp fun K30 hK30=>?_
  refine rA ?_
  refine cnd H (fun h32 H=>?_) (fun h32 H=>?_)
  ·refine js ?_
   refine hK30 _ ?_
   refine jp fun K33 hK33=>?_
   refine jw ?_
   obtain ⟨⟨hg34,hg35⟩,H⟩:=aj4 H
   obtain ⟨r7,hr7,H⟩:=bind_some H
   obtain ⟨hg36,H⟩:=aj4 H
   have q:=aI qe hr7
   refine eAq ?_
   refine hK33 _ ?_
   refine eA ?_
   refine lf ?_
   exact nx H (wb [some 9023,some 576,some 9025])
  refine jZ ?_
  refine lf ?_
  refine lx H fun hyy=>?_
  subst hyy
  have H:=Ho29
  try dsimp only at H
  refine lf ?_
  exact ⟨_,H,wb [some 9023,some 9024]⟩
 rintro b H
 try dsimp only at H
 unfold bj2 at H
 refine Sm.st (cju.eq_1 ..) ?_
 obtain ⟨r4,hr4,H⟩:=bind_some H
 obtain ⟨hg27,H⟩:=aj4 H
 have q:=aI qe hr4
 refine rAq ?_
 obtain ⟨r5,hr5,H⟩:=bind_some H
 have q:=aI qe hr5
 refine rAq ?_
 refine j1 (fun (x:(List (List TRec)))=>cqq x) (fun x=>bwz n x=some r) ?_ ?_
 ·refine rA ?_
  refine jw ?_
  obtain ⟨y13,hy13,Ho13⟩:=bind_some H
  refine jW _ (fun x=>cje v x.1 x.2) hy13 (wb [some 9000,some 704]) ?_
  rintro ⟨out_1,n_⟩ z13 H
  try dsimp only at H
  unfold az5 at H
  refine Sm.st (cje.eq_1 ..) ?_
  refine jp fun K14 hK14=>?_
  refine rA ?_
  refine cnd H (fun h16 H=>?_) (fun h16 H=>?_)
  ·refine js ?_
   refine hK14 _ ?_
   refine j1 (fun (x:(List (List TRec)))=>cjo v x n_) (fun x=>bj0 n v x n_=some z13) ?_ ?_
   ·refine jw ?_
    refine rA ?_
    refine j1 (fun (x:(List TRec))=>cqs v out_1 n_ x) (fun x=>bje n v out_1 n_ x=some z13) ?_ ?_
    ·refine rA ?_
     refine jw ?_
     obtain ⟨y20,hy20,Ho20⟩:=bind_some H
     refine jW _ (fun x=>cjj v out_1 n_ x.1 x.2) hy20 (wb [some 9005,some 9006,none]) ?_
     rintro ⟨t_1,k⟩ z20 H
     try dsimp only at H
     unfold az6 at H
     refine Sm.st (cjj.eq_1 ..) ?_
     refine jp fun K21 hK21=>?_
     refine rA ?_
     refine cnd H (fun h23 H=>?_) (fun h23 H=>?_)
     ·refine js ?_
      refine hK21 _ ?_
      refine jp fun K24 hK24=>?_
      refine jw ?_
      obtain ⟨hg25,H⟩:=aj4 H
      obtain ⟨r6,hr6,H⟩:=bind_some H
      obtain ⟨hg26,H⟩:=aj4 H
      have q:=aI qe hr6
      refine eAq ?_
      refine hK24 _ ?_
      refine eA ?_
      refine lf ?_
      exact nx H (wb [some 9017,some 9018,some 1248])
     refine jZ ?_
     refine lf ?_
     refine lx H fun hyy=>?_
     subst hyy
     have H:=Ho20
     try dsimp only at H
     refine lf ?_
     exact ⟨_,H,wb [some 9017,some 9018,some 9019]⟩
    rintro t H
    try dsimp only at H
    unfold bje at H
    refine Sm.st (cqs.eq_1 ..) ?_
    obtain ⟨hg18,H⟩:=aj4 H
    refine eA ?_
    refine lf ?_
    exact ⟨_,H,wb [some 9009,some 1312]⟩
   rintro out_2 H
   try dsimp only at H
   unfold bj0 at H
   refine Sm.st (cjo.eq_1 ..) ?_
   refine eA ?_
   refine lf ?_
   exact nx H (wb [some 9007,some 9008])
  refine jZ ?_
  refine lf ?_
  refine lx H fun hyy=>?_
  subst hyy
  have H:=Ho13
  try dsimp only at H
  refine lf ?_
  exact ⟨_,H,wb [some 9006]⟩
 rintro out H
 try dsimp only at H
 unfold bwz at H
 refine Sm.st (cqq.eq_1 ..) ?_
 refine rA ?_
 refine jx ?_
 refine lf ?_
 obtain rfl:=Option.some.inj H
 exact rto [some 9002]
def bjs (n:Nat) (a:TRec) (b:TRec):Option Bool :=
 bif (if (a.R == b.R)=true then (a.Bad == b.Bad) else false) then
  gd ((if (a.R == b.R)=true then (a.Bad == b.Bad) else false)=true) <|
  bif ((bzm a.Key) == (bzm b.Key)) then
   gd (((bzm a.Key) == (bzm b.Key))=true) <|
   some ((bzm a.Data) == (bzm b.Data))
  else
   some false
 else
  some false
def czw (n:Nat):Go.AE.Fn:=mkFn (A:=TRec×TRec) (R:=Bool) 129 [(true,[.int .i64,.slice 5,.slice 5,.bool]),(true,[.int .i64,.slice 5,.slice 5,.bool])] false (fun xs=>((⟨(cg (xs.getD 0 []) 0).toInt,((cg (xs.getD 0 []) 1).toSl.map dy7),((cg (xs.getD 0 []) 2).toSl.map dy7),(cg (xs.getD 0 []) 3).toBool⟩:TRec),(⟨(cg (xs.getD 1 []) 0).toInt,((cg (xs.getD 1 []) 1).toSl.map dy7),((cg (xs.getD 1 []) 2).toSl.map dy7),(cg (xs.getD 1 []) 3).toBool⟩:TRec))) (fun a=>[[.int a.1.R,.slice (List.map ajz a.1.Key),.slice (List.map ajz a.1.Data),.bool a.1.Bad],[.int a.2.R,.slice (List.map ajz a.2.Key),.slice (List.map ajz a.2.Data),.bool a.2.Bad]]) (fun a=>bjs n a.1 a.2) (fun r=>[.c .bool (.bool r)]) (fun r=>[])
theorem dyk (n:Nat):aj1 jd (czw n):=by
 have hΓ:=@g0 (aj1 jd)
 refine aj7 (Tryz.f129.body.getD .skip) h00 Tryz.func129 rfl Tryz.call129 (by decide) (by intro _ r;exact ⟨rfl,by simp⟩) ?_
 rintro ⟨a,b⟩ r H
 try dsimp only at H
 unfold bjs at H
 simp only [Tryz.f129,jt]
 refine rA ?_
 refine sX fun K2 hK2=>?_
 iterate 15 refine oX ?_
 refine bqo H (fun hs3 H=>?_) (fun hs3 H=>?_)
 ·obtain ⟨hg4,H⟩:=aj4 H
  have q:=hs3
  refine oTE ay5 ?_
  refine oTG ?_
  refine oTG ?_
  refine oTE ay5 ?_
  refine oTG ?_
  refine oPl ?_
  iterate 3 refine oXq ?_
  refine bqo H (fun hs5 H=>?_) (fun hs5 H=>?_)
  ·try simp only [z,seval,hs3] at hs5
   obtain ⟨hg6,H⟩:=aj4 H
   have q:=aI hs3 hs5
   refine oTE ay5 ?_
   refine oTG ?_
   refine oTG ?_
   refine oTE ay5 ?_
   refine oTG ?_
   refine oPl ?_
   refine oXq ?_
   refine hK2 _ ?_
   refine jx ?_
   refine lf ?_
   obtain rfl:=Option.some.inj H
   exact rt []
  try simp only [z,seval,hs3] at hs5
  have q:=aI hs3 hs5
  refine oFq ?_
  refine oFq ?_
  refine oFq ?_
  refine oFq ?_
  refine oFq ?_
  refine oPr ?_
  refine oXq ?_
  refine hK2 _ ?_
  refine jx ?_
  refine lf ?_
  obtain rfl:=Option.some.inj H
  exact rt []
 have q:=hs3
 refine oFq ?_
 refine oFq ?_
 refine oFq ?_
 refine oFq ?_
 refine oFq ?_
 refine oPr ?_
 refine oXq ?_
 refine oFq ?_
 refine oFq ?_
 refine oFq ?_
 refine oFq ?_
 refine oFq ?_
 refine oFq ?_
 refine oFq ?_
 refine oPr ?_
 refine oXq ?_
 refine hK2 _ ?_
 refine jx ?_
 refine lf ?_
 obtain rfl:=Option.some.inj H
 exact rt []
abbrev cyd:S:=stB [] []
def by9 (n:Nat):Option Bool :=
 some true
abbrev cyi (a:List TRec) (b:List TRec) (i:Int):S:=stB [(0,.c (.slice 87) (.slice (List.map aqp a))),(1,.c (.slice 87) (.slice (List.map aqp b))),(5,.c (.int .i64) (.int i))] []
def bju (n:Nat) (a:List TRec) (b:List TRec) (i:Int):Option ((Int) ⊕ (((Bool) ⊕ (Unit)))) :=
 bif (decide (i < (a.length:Int))) then
  gd ((0≤i∧i < (a.length:Int))∧(0≤i∧i < (b.length:Int))) <|
  (bjs n (gt a (Int.toNat i)) (gt b (Int.toNat i))).bind fun r1 =>
  bif (!r1) then
   some (.inr (.inl false))
  else
   some (.inl (jc .i64 (i+1)))
 else
  some (.inr (.inr ()))
def bks (n:Nat) (a:List TRec) (b:List TRec):Option Bool :=
 bif ((a.length:Int) != (b.length:Int)) then
  some false
 else
  (aji (fun (x:Int)=>bju n a b x) n 0).bind fun y8 =>
  match y8 with
  | .inl vv =>
   some vv
  | .inr vv =>
   by9 n
def dks (n:Nat):Go.AE.Fn:=mkFn (A:=(List TRec)×(List TRec)) (R:=Bool) 75 [(false,[.slice 87]),(false,[.slice 87])] false (fun xs=>(((cg (xs.getD 0 []) 0).toSl.map dy4),((cg (xs.getD 1 []) 0).toSl.map dy4))) (fun a=>[[.slice (List.map aqp a.1)],[.slice (List.map aqp a.2)]]) (fun a=>bks n a.1 a.2) (fun r=>[.c .bool (.bool r)]) (fun r=>[])
theorem fji (n:Nat):aj1 jd (dks n):=by
 have hΓ:=g1 (dyk n) (@g0 (aj1 jd))
 refine aj7 (Tryz.f75.body.getD .skip) h00 Tryz.func75 rfl Tryz.call75 (by decide) (by intro _ r;exact ⟨rfl,by simp⟩) ?_
 rintro ⟨a,b⟩ r H
 try dsimp only at H
 unfold bks at H
 simp only [Tryz.f75,jt]
 refine rA ?_
 refine jp fun K2 hK2=>?_
 refine rA ?_
 refine cnd H (fun h4 H=>?_) (fun h4 H=>?_)
 ·refine rA ?_
  refine jx ?_
  refine lf ?_
  obtain rfl:=Option.some.inj H
  exact rt []
 refine js ?_
 refine hK2 _ ?_
 refine j1 (fun (x:Unit)=>cyd) (fun x=>by9 n=some r) ?_ ?_
 ·refine rA ?_
  refine jw ?_
  obtain ⟨y8,hy8,Ho8⟩:=bind_some H
  refine jW _ (fun x=>cyi a b x) hy8 (wb []) ?_
  rintro i z8 H
  try dsimp only at H
  unfold bju at H
  refine Sm.st (cyi.eq_1 ..) ?_
  refine jp fun K9 hK9=>?_
  refine rA ?_
  refine cnd H (fun h11 H=>?_) (fun h11 H=>?_)
  ·refine js ?_
   refine hK9 _ ?_
   refine jp fun K12 hK12=>?_
   refine jw ?_
   obtain ⟨⟨hg16,hg17⟩,H⟩:=aj4 H
   obtain ⟨r1,hr1,H⟩:=bind_some H
   have q:=aI @czw.eq_1 hr1
   refine rDq ?_
   refine cnd H (fun h14 H=>?_) (fun h14 H=>?_)
   ·refine rA ?_
    refine jx ?_
    refine lf ?_
    refine lx H fun hyy=>?_
    subst hyy
    have H:=Ho8
    try dsimp only at H
    refine lf ?_
    obtain rfl:=Option.some.inj H
    exact rt []
   refine js ?_
   refine hK12 _ ?_
   refine eA ?_
   refine lf ?_
   exact nx H (wb [])
  refine jZ ?_
  refine lf ?_
  refine lx H fun hyy=>?_
  subst hyy
  have H:=Ho8
  try dsimp only at H
  refine lf ?_
  exact ⟨(),H,wb []⟩
 rintro ⟨⟩ H
 try dsimp only at H
 unfold by9 at H
 refine Sm.st (cyd.eq_1 ..) ?_
 refine rA ?_
 refine jx ?_
 refine lf ?_
 obtain rfl:=Option.some.inj H
 exact rt []
abbrev bz8:S:=stB [] []
def aya (n:Nat):Option Bool :=
 some true
abbrev bwq (a:List (List TRec)) (b:List (List TRec)) (i:Int):S:=stB [(0,.c (.slice 84) (.slice (List.map aq7 a))),(1,.c (.slice 84) (.slice (List.map aq7 b))),(5,.c (.int .i64) (.int i))] []
def aw1 (n:Nat) (a:List (List TRec)) (b:List (List TRec)) (i:Int):Option ((Int) ⊕ (((Bool) ⊕ (Unit)))) :=
 bif (decide (i < (a.length:Int))) then
  gd ((0≤i∧i < (a.length:Int))∧(0≤i∧i < (b.length:Int))) <|
  (bks n (gt a (Int.toNat i)) (gt b (Int.toNat i))).bind fun r1 =>
  bif (!r1) then
   some (.inr (.inl false))
  else
   some (.inl (jc .i64 (i+1)))
 else
  some (.inr (.inr ()))
def awe (n:Nat) (a:List (List TRec)) (b:List (List TRec)):Option Bool :=
 bif ((a.length:Int) != (b.length:Int)) then
  some false
 else
  (aji (fun (x:Int)=>aw1 n a b x) n 0).bind fun y8 =>
  match y8 with
  | .inl vv =>
   some vv
  | .inr vv =>
   aya n
def bkw (n:Nat):Go.AE.Fn:=mkFn (A:=(List (List TRec))×(List (List TRec))) (R:=Bool) 32 [(false,[.slice 84]),(false,[.slice 84])] false (fun xs=>(((cg (xs.getD 0 []) 0).toSl.map dq5),((cg (xs.getD 1 []) 0).toSl.map dq5))) (fun a=>[[.slice (List.map aq7 a.1)],[.slice (List.map aq7 a.2)]]) (fun a=>awe n a.1 a.2) (fun r=>[.c .bool (.bool r)]) (fun r=>[])
theorem djo (n:Nat):aj1 jd (bkw n):=by
 have hΓ:=g1 (fji n) (@g0 (aj1 jd))
 refine aj7 (Tryz.f32.body.getD .skip) h00 Tryz.func32 rfl Tryz.call32 (by decide) (by intro _ r;exact ⟨rfl,by simp⟩) ?_
 rintro ⟨a,b⟩ r H
 try dsimp only at H
 unfold awe at H
 simp only [Tryz.f32,jt]
 refine rA ?_
 refine jp fun K2 hK2=>?_
 refine rA ?_
 refine cnd H (fun h4 H=>?_) (fun h4 H=>?_)
 ·refine rA ?_
  refine jx ?_
  refine lf ?_
  obtain rfl:=Option.some.inj H
  exact rt []
 refine js ?_
 refine hK2 _ ?_
 refine j1 (fun (x:Unit)=>bz8) (fun x=>aya n=some r) ?_ ?_
 ·refine rA ?_
  refine jw ?_
  obtain ⟨y8,hy8,Ho8⟩:=bind_some H
  refine jW _ (fun x=>bwq a b x) hy8 (wb []) ?_
  rintro i z8 H
  try dsimp only at H
  unfold aw1 at H
  refine Sm.st (bwq.eq_1 ..) ?_
  refine jp fun K9 hK9=>?_
  refine rA ?_
  refine cnd H (fun h11 H=>?_) (fun h11 H=>?_)
  ·refine js ?_
   refine hK9 _ ?_
   refine jp fun K12 hK12=>?_
   refine jw ?_
   obtain ⟨⟨hg16,hg17⟩,H⟩:=aj4 H
   obtain ⟨r1,hr1,H⟩:=bind_some H
   have q:=aI @dks.eq_1 hr1
   refine rDq ?_
   refine cnd H (fun h14 H=>?_) (fun h14 H=>?_)
   ·refine rA ?_
    refine jx ?_
    refine lf ?_
    refine lx H fun hyy=>?_
    subst hyy
    have H:=Ho8
    try dsimp only at H
    refine lf ?_
    obtain rfl:=Option.some.inj H
    exact rt []
   refine js ?_
   refine hK12 _ ?_
   refine eA ?_
   refine lf ?_
   exact nx H (wb [])
  refine jZ ?_
  refine lf ?_
  refine lx H fun hyy=>?_
  subst hyy
  have H:=Ho8
  try dsimp only at H
  refine lf ?_
  exact ⟨(),H,wb []⟩
 rintro ⟨⟩ H
 try dsimp only at H
 unfold aya at H
 refine Sm.st (bz8.eq_1 ..) ?_
 refine rA ?_
 refine jx ?_
 refine lf ?_
 obtain rfl:=Option.some.inj H
 exact rt []
abbrev dw7 (v2:List Bool) (out:List Bool):S:=stB [(2,.elt 9000 1 [.bool] 0 0),(3,.elt 9001 1 [.bool] 0 0)] [(9000,.row 4 (List.map aze v2)),(9001,.row 4 (List.map aze out))]
def bzp (n:Nat) (v2:List Bool) (out:List Bool):Option (List Bool) :=
 gd (out.length=512∧v2.length=512) <|
 gd (out.length=512) <|
 some out
abbrev dw5 (v2_1:List Bool) (t:List Int) (out_1:List Bool) (i:Int):S:=stB [(2,.elt 9005 1 [.bool] 0 0),(3,.elt 9006 1 [.bool] 0 0),(4,.own 9007 [.int .i64] 0 t.length),(6,.c (.int .i64) (.int i))] [(9005,.row 4 (List.map aze v2_1)),(9006,.row 4 (List.map aze out_1)),(9007,.row 3 (List.map ajz t))]
def ayp (n:Nat) (v2_1:List Bool) (t:List Int) (out_1:List Bool) (i:Int):Option (((List Bool)×Int) ⊕ (((List Bool)))) :=
 bif (decide (i < ((t.length:Nat):Int))) then
  gd ((0≤i∧i < (t.length:Int))∧(Int.toNat i) < t.length∧(0≤(gt t (Int.toNat i))∧(gt t (Int.toNat i)) < 512∧out_1.length=512)∧(Int.toNat (gt t (Int.toNat i))) < out_1.length) <|
  some (.inl ((List.set out_1 (Int.toNat (gt t (Int.toNat i))) true),(jc .i64 (i+1))))
 else
  some (.inr out_1)
def cqz (n:Nat) (l:List aj0):Option (List Bool) :=
 (azd n l).bind fun r1 =>
 (aji (fun (x:(List Bool)×Int)=>ayp n (aqo 512 false) r1.1 x.1 x.2) n ((aqo 512 false),0)).bind fun y8 =>
 bzp n (aqo 512 false) y8
def ejg (n:Nat):Go.AE.Fn:=mkFn (A:=(List aj0)) (R:=(List Bool)) 130 [(false,[.slice 80])] true (fun xs=>((cg (xs.getD 0 []) 0).toSl.map ajl)) (fun a=>[[.slice (List.map aj2 a)]]) (fun a=>cqz n a) (fun r=>[.c (.arr 159) (.slice (List.map aze r))]) (fun r=>[])
theorem fk1 (n:Nat):aj1 jd (ejg n):=by
 have hΓ:=g1 (by0 n) (@g0 (aj1 jd))
 refine aj7 (Tryz.f130.body.getD .skip) h00 Tryz.func130 rfl Tryz.call130 (by decide) (by intro h;cases h) ?_
 rintro l r H
 try dsimp only at H
 unfold cqz at H
 simp only [Tryz.f130,jt]
 refine sX fun K1 hK1=>?_
 refine oY ?_
 refine hK1 _ ?_
 refine sX fun K2 hK2=>?_
 refine oY ?_
 refine hK2 _ ?_
 obtain ⟨r1,hr1,H⟩:=bind_some H
 have q:=aI @bw8.eq_1 hr1
 refine rAq ?_
 refine j1 (fun (x:(List Bool)×(List Bool))=>dw7 x.1 x.2) (fun x=>bzp n x.1 x.2=some r) ?_ ?_
 ·refine rA ?_
  refine jw ?_
  obtain ⟨y8,hy8,Ho8⟩:=bind_some H
  refine jW _ (fun x=>dw5 (aqo 512 false) r1.1 x.1 x.2) hy8 (wb [some 32,some 48,some 144]) ?_
  rintro ⟨out_1,i⟩ z8 H
  try dsimp only at H
  unfold ayp at H
  refine Sm.st (dw5.eq_1 ..) ?_
  refine jp fun K9 hK9=>?_
  refine rA ?_
  refine cnd H (fun h11 H=>?_) (fun h11 H=>?_)
  ·refine js ?_
   refine hK9 _ ?_
   refine jp fun K12 hK12=>?_
   refine jw ?_
   obtain ⟨⟨hg13,hg14,hg15,hg16⟩,H⟩:=aj4 H
   refine eA ?_
   refine hK12 _ ?_
   refine eA ?_
   refine lf ?_
   exact nx H (wb [some 9005,some 9006,some 9007])
  refine jZ ?_
  refine lf ?_
  refine lx H fun hyy=>?_
  subst hyy
  have H:=Ho8
  try dsimp only at H
  refine lf ?_
  exact ⟨((aqo 512 false),out_1),H,wb [some 9005,some 9006]⟩
 rintro ⟨v2,out⟩ H
 try dsimp only at H
 unfold bzp at H
 refine Sm.st (dw7.eq_1 ..) ?_
 refine sX fun K4 hK4=>?_
 obtain ⟨⟨hg5,hg6⟩,H⟩:=aj4 H
 iterate 2 refine oY ?_
 refine hK4 _ ?_
 refine jx ?_
 refine lf ?_
 obtain ⟨hga,H⟩:=aj4 H
 obtain rfl:=Option.some.inj H
 refine Ret.ofR [] (.inr rfl) ?_
 simp only [z,seval]
 (repeat (first | refine gcI ?_ | trivial));try trivial
abbrev cqr (out:List aj0):S:=stB [(3,.own 9000 [.int .i64,.int .i64] 0 out.length)] [(9000,.row 80 (List.map aj2 out))]
def bj4 (n:Nat) (out:List aj0):Option (List aj0) :=
 some out
abbrev cqu (in_:List Bool) (out_2:List aj0) (k:Int):S:=stB [(1,.elt 9006 1 [.bool] 0 0),(3,.own 9007 [.int .i64,.int .i64] 0 out_2.length),(4,.c (.int .i64) (.int k))] [(9006,.row 4 (List.map aze in_)),(9007,.row 80 (List.map aj2 out_2))]
def aws (n:Nat) (in_:List Bool) (out_2:List aj0) (k:Int):Option (((List aj0)×Int) ⊕ (((List aj0)))) :=
 some (.inl (out_2,(jc .i64 (k+1))))
abbrev cjc (in_:List Bool) (out_1:List aj0) (k:Int):S:=stB [(1,.elt 9004 1 [.bool] 0 0),(3,.own 9005 [.int .i64,.int .i64] 0 out_1.length),(4,.c (.int .i64) (.int k))] [(9004,.row 4 (List.map aze in_)),(9005,.row 80 (List.map aj2 out_1))]
def awz (n:Nat) (in_:List Bool) (out_1:List aj0) (k:Int):Option (((List aj0)×Int) ⊕ (((List aj0)))) :=
 bif (decide (k < 512)) then
  gd ((0≤k∧k < 512∧in_.length=512)∧(Int.toNat k) < in_.length) <|
  bif (!(gt in_ (Int.toNat k))) then
   aws n in_ out_1 k
  else
   gd (((decide (((out_1.length:Nat):Int) > 0))=true→(0≤(jc .i64 (((out_1.length:Nat):Int) - 1))∧(jc .i64 (((out_1.length:Nat):Int) - 1)) < (out_1.length:Int)))∧((decide (((out_1.length:Nat):Int) > 0))=true→(Int.toNat (jc .i64 (((out_1.length:Nat):Int) - 1))) < out_1.length)∧((decide (((out_1.length:Nat):Int) > 0))=true→(0≤(jc .i64 (((out_1.length:Nat):Int) - 1))∧(jc .i64 (((out_1.length:Nat):Int) - 1)) < (out_1.length:Int)))∧((decide (((out_1.length:Nat):Int) > 0))=true→(Int.toNat (jc .i64 (((out_1.length:Nat):Int) - 1))) < out_1.length)) <|
   bif (if (decide (((out_1.length:Nat):Int) > 0))=true then ((jc .i64 (((gt out_1 (Int.toNat (jc .i64 (((out_1.length:Nat):Int) - 1)))).At)+((gt out_1 (Int.toNat (jc .i64 (((out_1.length:Nat):Int) - 1)))).Len))) == k) else false) then
    gd ((0≤(jc .i64 (((out_1.length:Nat):Int) - 1))∧(jc .i64 (((out_1.length:Nat):Int) - 1)) < (out_1.length:Int))∧(Int.toNat (jc .i64 (((out_1.length:Nat):Int) - 1))) < out_1.length∧(0≤(jc .i64 (((out_1.length:Nat):Int) - 1))∧(jc .i64 (((out_1.length:Nat):Int) - 1)) < (out_1.length:Int))∧(Int.toNat (jc .i64 (((out_1.length:Nat):Int) - 1))) < out_1.length) <|
    aws n in_ (List.set out_1 (Int.toNat (jc .i64 (((out_1.length:Nat):Int) - 1))) (⟨(gt out_1 (Int.toNat (jc .i64 (((out_1.length:Nat):Int) - 1)))).At,(jc .i64 (((gt out_1 (Int.toNat (jc .i64 (((out_1.length:Nat):Int) - 1)))).Len)+1))⟩:aj0)) k
   else
    gd ((out_1.length+1)≤2147483648) <|
    aws n in_ (out_1 ++ [(⟨k,1⟩:aj0)]) k
 else
  some (.inr out_1)
def bqn (n:Nat) (in_:List Bool):Option (List aj0) :=
 (aji (fun (x:(List aj0)×Int)=>awz n in_ x.1 x.2) n ([],0)).bind fun y5 =>
 bj4 n y5
def cyv (n:Nat):Go.AE.Fn:=mkFn (A:=(List Bool)) (R:=(List aj0)) 131 [(false,[.arr 159])] false (fun xs=>((cg (xs.getD 0 []) 0).toSl.map eke)) (fun a=>[[.slice (List.map aze a)]]) (fun a=>bqn n a) (fun r=>[.own 0 [.int .i64,.int .i64] 0 r.length]) (fun r=>[.row 80 (List.map aj2 r)])
theorem eqn (n:Nat):aj1 jd (cyv n):=by
 have hΓ:=@g0 (aj1 jd)
 refine aj7 (Tryz.f131.body.getD .skip) h00 Tryz.func131 rfl Tryz.call131 (by decide) (fun _ r=>⟨rfl,m1 ⟨80,_,_,rfl,ty80,rfl⟩ m0⟩) ?_
 rintro in_ r H
 try dsimp only at H
 unfold bqn at H
 simp only [Tryz.f131,jt]
 refine sX fun K1 hK1=>?_
 refine oY ?_
 refine oX ?_
 refine hK1 _ ?_
 refine rA ?_
 refine j1 (fun (x:(List aj0))=>cqr x) (fun x=>bj4 n x=some r) ?_ ?_
 ·refine rA ?_
  refine jw ?_
  obtain ⟨y5,hy5,Ho5⟩:=bind_some H
  refine jW _ (fun x=>cjc in_ x.1 x.2) hy5 (wb [some 16,none]) ?_
  rintro ⟨out_1,k⟩ z5 H
  try dsimp only at H
  unfold awz at H
  refine Sm.st (cjc.eq_1 ..) ?_
  refine jp fun K6 hK6=>?_
  refine rA ?_
  refine cnd H (fun h8 H=>?_) (fun h8 H=>?_)
  ·refine js ?_
   refine hK6 _ ?_
   refine j1 (fun (x:(List aj0))=>cqu in_ x k) (fun x=>aws n in_ x k=some z5) ?_ ?_
   ·refine jw ?_
    refine jp fun K9 hK9=>?_
    obtain ⟨⟨hg24,hg25⟩,H⟩:=aj4 H
    refine rA ?_
    refine cnd H (fun h11 H=>?_) (fun h11 H=>?_)
    ·refine jZ ?_
     refine lf ?_
     exact ⟨_,H,wb [some 9004,some 9005]⟩
    refine js ?_
    refine hK9 _ ?_
    refine rA ?_
    obtain ⟨⟨hg20,hg21,hg22,hg23⟩,H⟩:=aj4 H
    refine rD ?_
    refine cnd H (fun h14 H=>?_) (fun h14 H=>?_)
    ·obtain ⟨⟨hg15,hg16,hg17,hg18⟩,H⟩:=aj4 H
     refine eA ?_
     refine lf ?_
     exact ⟨_,H,wb [some 9004,some 9005]⟩
    obtain ⟨hg19,H⟩:=aj4 H
    refine eA ?_
    refine lf ?_
    exact ⟨_,H,wb [some 9004,some 768]⟩
   rintro out_2 H
   try dsimp only at H
   unfold aws at H
   refine Sm.st (cqu.eq_1 ..) ?_
   refine eA ?_
   refine lf ?_
   exact nx H (wb [some 9006,some 9007])
  refine jZ ?_
  refine lf ?_
  refine lx H fun hyy=>?_
  subst hyy
  have H:=Ho5
  try dsimp only at H
  refine lf ?_
  exact ⟨_,H,wb [some 9005]⟩
 rintro out H
 try dsimp only at H
 unfold bj4 at H
 refine Sm.st (cqr.eq_1 ..) ?_
 refine rA ?_
 refine jx ?_
 refine lf ?_
 obtain rfl:=Option.some.inj H
 exact rto [some 9000]
abbrev cyp (out:List Bool):S:=stB [(6,.elt 9000 1 [.bool] 0 0)] [(9000,.row 4 (List.map aze out))]
def bwh (n:Nat) (out:List Bool):Option (List aj0) :=
 gd (out.length=512) <|
 (bqn n out).bind fun r3 =>
 some r3
abbrev dj3 (n_:Int) (in_:List Bool) (out_1:List Bool) (k:Int):S:=stB [(1,.c (.int .i64) (.int n_)),(5,.elt 9003 1 [.bool] 0 0),(6,.elt 9004 1 [.bool] 0 0),(7,.c (.int .i64) (.int k))] [(9003,.row 4 (List.map aze in_)),(9004,.row 4 (List.map aze out_1))]
def akj (n:Nat) (n_:Int) (in_:List Bool) (out_1:List Bool) (k:Int):Option (((List Bool)×Int) ⊕ (((List Bool)))) :=
 bif (decide (k < n_)) then
  gd ((0≤k∧k < 512∧in_.length=512)∧(Int.toNat k) < in_.length∧(0≤k∧k < 512∧out_1.length=512)∧(Int.toNat k) < out_1.length) <|
  some (.inl ((List.set out_1 (Int.toNat k) (!(gt in_ (Int.toNat k)))),(jc .i64 (k+1))))
 else
  some (.inr out_1)
def ayv (n:Nat) (used:List aj0) (n_:Int):Option (List aj0) :=
 (awm n used).bind fun r1 =>
 bif (if (if (!r1)=true then true else (decide (n_ < 0)))=true then true else (decide (n_ > 512))) then
  some []
 else
  (cqz n used).bind fun r2 =>
  gd (512=512) <|
  (aji (fun (x:(List Bool)×Int)=>akj n n_ r2 x.1 x.2) n ((aqo 512 false),0)).bind fun y12 =>
  bwh n y12
def dk8 (n:Nat):Go.AE.Fn:=mkFn (A:=(List aj0)×Int) (R:=(List aj0)) 77 [(false,[.slice 80]),(false,[.int .i64])] false (fun xs=>(((cg (xs.getD 0 []) 0).toSl.map ajl),(cg (xs.getD 1 []) 0).toInt)) (fun a=>[[.slice (List.map aj2 a.1)],[.int a.2]]) (fun a=>ayv n a.1 a.2) (fun r=>[.own 0 [.int .i64,.int .i64] 0 r.length]) (fun r=>[.row 80 (List.map aj2 r)])
theorem eyr (n:Nat):aj1 jd (dk8 n):=by
 have hΓ:=g1 (cjt n) (g1 (fk1 n) (g1 (eqn n) (@g0 (aj1 jd))))
 have qe:=aI @bze.eq_1 (aI @ejg.eq_1 @cyv.eq_1)
 refine aj7 (Tryz.f77.body.getD .skip) h00 Tryz.func77 rfl Tryz.call77 (by decide) (fun _ r=>⟨rfl,m1 ⟨80,_,_,rfl,ty80,rfl⟩ m0⟩) ?_
 rintro ⟨used,n_⟩ r H
 try dsimp only at H
 unfold ayv at H
 simp only [Tryz.f77,jt]
 refine rA ?_
 refine jp fun K2 hK2=>?_
 obtain ⟨r1,hr1,H⟩:=bind_some H
 have q:=aI qe hr1
 refine rAq ?_
 refine cnd H (fun h4 H=>?_) (fun h4 H=>?_)
 ·refine rA ?_
  refine jx ?_
  refine lf ?_
  obtain rfl:=Option.some.inj H
  exact rto [none]
 refine js ?_
 refine hK2 _ ?_
 refine sX fun K6 hK6=>?_
 obtain ⟨r2,hr2,H⟩:=bind_some H
 obtain ⟨hg7,H⟩:=aj4 H
 have q:=aI qe hr2
 iterate 2 refine oXq ?_
 iterate 2 refine oYq ?_
 refine hK6 _ ?_
 refine sX fun K8 hK8=>?_
 refine oY ?_
 refine hK8 _ ?_
 refine j1 (fun (x:(List Bool))=>cyp x) (fun x=>bwh n x=some r) ?_ ?_
 ·refine rA ?_
  refine jw ?_
  obtain ⟨y12,hy12,Ho12⟩:=bind_some H
  refine jW _ (fun x=>dj3 n_ r2 x.1 x.2) hy12 (wb [some 80,some 96]) ?_
  rintro ⟨out_1,k⟩ z12 H
  try dsimp only at H
  unfold akj at H
  refine Sm.st (dj3.eq_1 ..) ?_
  refine jp fun K13 hK13=>?_
  refine rA ?_
  refine cnd H (fun h15 H=>?_) (fun h15 H=>?_)
  ·refine js ?_
   refine hK13 _ ?_
   refine jp fun K16 hK16=>?_
   refine jw ?_
   obtain ⟨⟨hg17,hg18,hg19,hg20⟩,H⟩:=aj4 H
   refine eA ?_
   refine hK16 _ ?_
   refine eA ?_
   refine lf ?_
   exact nx H (wb [some 9003,some 9004])
  refine jZ ?_
  refine lf ?_
  refine lx H fun hyy=>?_
  subst hyy
  have H:=Ho12
  try dsimp only at H
  refine lf ?_
  exact ⟨_,H,wb [some 9004]⟩
 rintro out H
 try dsimp only at H
 unfold bwh at H
 refine Sm.st (cyp.eq_1 ..) ?_
 refine sX fun K9 hK9=>?_
 obtain ⟨hg10,H⟩:=aj4 H
 obtain ⟨r3,hr3,H⟩:=bind_some H
 have q:=aI qe hr3
 refine oYq ?_
 iterate 2 refine oXq ?_
 refine hK9 _ ?_
 refine jx ?_
 refine lf ?_
 obtain rfl:=Option.some.inj H
 exact rto [some 528]
def bkq (n:Nat) (v:aja):Option (List aj0) :=
 (ayl n v).bind fun r1 =>
 bif (!r1) then
  some []
 else
  (bko n v).bind fun r2 =>
  gd ((r2.length+1)≤2147483648) <|
  (ayv n (r2 ++ [(⟨0,(jc .i64 (v.Size+1))⟩:aj0)]) (jc .i64 (v.Cyls * v.Heads))).bind fun r3 =>
  some r3
def dza (n:Nat):Go.AE.Fn:=mkFn (A:=aja) (R:=(List aj0)) 35 [(true,[.str,.int .i64,.int .i64,.int .i64,.slice 41])] false (fun xs=>(⟨(cg (xs.getD 0 []) 0).toStr,(cg (xs.getD 0 []) 1).toInt,(cg (xs.getD 0 []) 2).toInt,(cg (xs.getD 0 []) 3).toInt,((cg (xs.getD 0 []) 4).toSl.map aql)⟩:aja)) (fun a=>[[.str a.Serial,.int a.Cyls,.int a.Heads,.int a.Size,.slice (List.map aj5 a.Sets)]]) (fun a=>bkq n a) (fun r=>[.own 0 [.int .i64,.int .i64] 0 r.length]) (fun r=>[.row 80 (List.map aj2 r)])
theorem eyi (n:Nat):aj1 jd (dza n):=by
 have hΓ:=g1 (cjq n) (g1 (ej5 n) (g1 (eyr n) (@g0 (aj1 jd))))
 have qe:=aI @bzr.eq_1 (aI @djq.eq_1 @dk8.eq_1)
 refine aj7 (Tryz.f35.body.getD .skip) h00 Tryz.func35 rfl Tryz.call35 (by decide) (fun _ r=>⟨rfl,m1 ⟨80,_,_,rfl,ty80,rfl⟩ m0⟩) ?_
 rintro v r H
 try dsimp only at H
 unfold bkq at H
 simp only [Tryz.f35,jt]
 refine rA ?_
 refine jp fun K2 hK2=>?_
 obtain ⟨r1,hr1,H⟩:=bind_some H
 have q:=aI qe hr1
 refine rAq ?_
 refine cnd H (fun h4 H=>?_) (fun h4 H=>?_)
 ·refine rA ?_
  refine jx ?_
  refine lf ?_
  obtain rfl:=Option.some.inj H
  exact rto [none]
 refine js ?_
 refine hK2 _ ?_
 obtain ⟨r2,hr2,H⟩:=bind_some H
 obtain ⟨hg7,H⟩:=aj4 H
 obtain ⟨r3,hr3,H⟩:=bind_some H
 refine sQ [0,1,2,3,4,5,6,7,8,9,10,11,12,13,14] [(none,[16],[]),(none,[],[127,126,125,124,123,122,121,120,119,118,117,116,115,114,113,112]),(none,[16],[]),(none,[16],[]),(none,[],[]),(none,[],[]),(none,[],[192]),(none,[112,192],[208,112]),(none,[16],[]),(none,[16],[]),(none,[16],[]),(none,[16],[]),(none,[],[]),(none,[208],[319,318,317,316,315,314,313,312,311,310,309,308,307,306,305,304,208]),(none,[],[])] fun K6 hK6=>?_
 have q:=aI qe (aI hr2 hr3)
 iterate 15 refine oQq ?_
 refine ck2 ?_
 refine hK6 _ ?_
 refine jx ?_
 refine lf ?_
 obtain rfl:=Option.some.inj H
 exact rto [some 304]
abbrev cy1:S:=stB [] []
def bwe (n:Nat):Option Bool :=
 some true
abbrev ckw (a:List aj0) (b:List aj0) (i:Int):S:=stB [(0,.c (.slice 80) (.slice (List.map aj2 a))),(1,.c (.slice 80) (.slice (List.map aj2 b))),(5,.c (.int .i64) (.int i))] []
def bjd (n:Nat) (a:List aj0) (b:List aj0) (i:Int):Option ((Int) ⊕ (((Bool) ⊕ (Unit)))) :=
 bif (decide (i < (a.length:Int))) then
  gd ((0≤i∧i < (a.length:Int))∧(0≤i∧i < (b.length:Int))) <|
  bif (!((((gt a (Int.toNat i)).At) == ((gt b (Int.toNat i)).At)) && (((gt a (Int.toNat i)).Len) == ((gt b (Int.toNat i)).Len)))) then
   some (.inr (.inl false))
  else
   some (.inl (jc .i64 (i+1)))
 else
  some (.inr (.inr ()))
def bwo (n:Nat) (a:List aj0) (b:List aj0):Option Bool :=
 bif ((a.length:Int) != (b.length:Int)) then
  some false
 else
  (aji (fun (x:Int)=>bjd n a b x) n 0).bind fun y8 =>
  match y8 with
  | .inl vv =>
   some vv
  | .inr vv =>
   bwe n
def dk7 (n:Nat):Go.AE.Fn:=mkFn (A:=(List aj0)×(List aj0)) (R:=Bool) 33 [(false,[.slice 80]),(false,[.slice 80])] false (fun xs=>(((cg (xs.getD 0 []) 0).toSl.map ajl),((cg (xs.getD 1 []) 0).toSl.map ajl))) (fun a=>[[.slice (List.map aj2 a.1)],[.slice (List.map aj2 a.2)]]) (fun a=>bwo n a.1 a.2) (fun r=>[.c .bool (.bool r)]) (fun r=>[])
theorem fjh (n:Nat):aj1 jd (dk7 n):=by
 have hΓ:=@g0 (aj1 jd)
 refine aj7 (Tryz.f33.body.getD .skip) h00 Tryz.func33 rfl Tryz.call33 (by decide) (by intro _ r;exact ⟨rfl,by simp⟩) ?_
 rintro ⟨a,b⟩ r H
 try dsimp only at H
 unfold bwo at H
 simp only [Tryz.f33,jt]
 refine rA ?_
 refine jp fun K2 hK2=>?_
 refine rA ?_
 refine cnd H (fun h4 H=>?_) (fun h4 H=>?_)
 ·refine rA ?_
  refine jx ?_
  refine lf ?_
  obtain rfl:=Option.some.inj H
  exact rt []
 refine js ?_
 refine hK2 _ ?_
 refine j1 (fun (x:Unit)=>cy1) (fun x=>bwe n=some r) ?_ ?_
 ·refine rA ?_
  refine jw ?_
  obtain ⟨y8,hy8,Ho8⟩:=bind_some H
  refine jW _ (fun x=>ckw a b x) hy8 (wb []) ?_
  rintro i z8 H
  try dsimp only at H
  unfold bjd at H
  refine Sm.st (ckw.eq_1 ..) ?_
  refine jp fun K9 hK9=>?_
  refine rA ?_
  refine cnd H (fun h11 H=>?_) (fun h11 H=>?_)
  ·refine js ?_
   refine hK9 _ ?_
   refine jp fun K12 hK12=>?_
   refine jw ?_
   obtain ⟨⟨hg16,hg17⟩,H⟩:=aj4 H
   refine rD ?_
   refine cnd H (fun h14 H=>?_) (fun h14 H=>?_)
   ·refine rA ?_
    refine jx ?_
    refine lf ?_
    refine lx H fun hyy=>?_
    subst hyy
    have H:=Ho8
    try dsimp only at H
    refine lf ?_
    obtain rfl:=Option.some.inj H
    exact rt []
   refine js ?_
   refine hK12 _ ?_
   refine eA ?_
   refine lf ?_
   exact nx H (wb [])
  refine jZ ?_
  refine lf ?_
  refine lx H fun hyy=>?_
  subst hyy
  have H:=Ho8
  try dsimp only at H
  refine lf ?_
  exact ⟨(),H,wb []⟩
 rintro ⟨⟩ H
 try dsimp only at H
 unfold bwe at H
 refine Sm.st (cy1.eq_1 ..) ?_
 refine rA ?_
 refine jx ?_
 refine lf ?_
 obtain rfl:=Option.some.inj H
 exact rt []
abbrev byu:S:=stB [] []
def ay9 (n:Nat):Option Bool :=
 some true
abbrev cj4 (a:ajc) (b:ajc) (k:Int):S:=stB [(2,.box 9002 0),(3,.box 9003 0),(5,.c (.int .i64) (.int k))] [(9002,.box [.c .str (.str a.Name),.c (.int .i64) (.int a.Dcb.Org),.c (.int .i64) (.int a.Dcb.Format),.c .bool (.bool a.Dcb.Blocked),.c .bool (.bool a.Dcb.Asa),.c (.int .i64) (.int a.Dcb.Lrecl),.c (.int .i64) (.int a.Dcb.Blksize),.c (.int .i64) (.int a.Dcb.KeyLen),.c (.int .i64) (.int a.Dcb.KeyPos),.c (.slice 80) (.slice (List.map aj2 a.Extents)),.c (.int .i64) (.int a.Used)]),(9003,.box [.c .str (.str b.Name),.c (.int .i64) (.int b.Dcb.Org),.c (.int .i64) (.int b.Dcb.Format),.c .bool (.bool b.Dcb.Blocked),.c .bool (.bool b.Dcb.Asa),.c (.int .i64) (.int b.Dcb.Lrecl),.c (.int .i64) (.int b.Dcb.Blksize),.c (.int .i64) (.int b.Dcb.KeyLen),.c (.int .i64) (.int b.Dcb.KeyPos),.c (.slice 80) (.slice (List.map aj2 b.Extents)),.c (.int .i64) (.int b.Used)])]
def azm (n:Nat) (a:ajc) (b:ajc) (k:Int):Option ((Int) ⊕ (((Bool) ⊕ (Unit)))) :=
 bif (decide (k < (a.Extents.length:Int))) then
  gd ((0≤k∧k < (a.Extents.length:Int))∧(0≤k∧k < (b.Extents.length:Int))) <|
  bif (!((((gt a.Extents (Int.toNat k)).At) == ((gt b.Extents (Int.toNat k)).At)) && (((gt a.Extents (Int.toNat k)).Len) == ((gt b.Extents (Int.toNat k)).Len)))) then
   some (.inr (.inl false))
  else
   some (.inl (jc .i64 (k+1)))
 else
  some (.inr (.inr ()))
def bjn (n:Nat) (a:ajc) (b:ajc):Option Bool :=
 bif (if (if (if (a.Name != b.Name)=true then true else (!((a.Dcb.Org == b.Dcb.Org) && ((a.Dcb.Format == b.Dcb.Format) && ((a.Dcb.Blocked == b.Dcb.Blocked) && ((a.Dcb.Asa == b.Dcb.Asa) && ((a.Dcb.Lrecl == b.Dcb.Lrecl) && ((a.Dcb.Blksize == b.Dcb.Blksize) && ((a.Dcb.KeyLen == b.Dcb.KeyLen) && (a.Dcb.KeyPos == b.Dcb.KeyPos))))))))))=true then true else (a.Used != b.Used))=true then true else ((a.Extents.length:Int) != (b.Extents.length:Int))) then
  some false
 else
  (aji (fun (x:Int)=>azm n a b x) n 0).bind fun y8 =>
  match y8 with
  | .inl vv =>
   some vv
  | .inr vv =>
   ay9 n
def czi (n:Nat):Go.AE.Fn:=mkFn (A:=ajc×ajc) (R:=Bool) 26 [(true,[.str,.int .i64,.int .i64,.bool,.bool,.int .i64,.int .i64,.int .i64,.int .i64,.slice 80,.int .i64]),(true,[.str,.int .i64,.int .i64,.bool,.bool,.int .i64,.int .i64,.int .i64,.int .i64,.slice 80,.int .i64])] false (fun xs=>((⟨(cg (xs.getD 0 []) 0).toStr,(⟨(cg (xs.getD 0 []) 1).toInt,(cg (xs.getD 0 []) 2).toInt,(cg (xs.getD 0 []) 3).toBool,(cg (xs.getD 0 []) 4).toBool,(cg (xs.getD 0 []) 5).toInt,(cg (xs.getD 0 []) 6).toInt,(cg (xs.getD 0 []) 7).toInt,(cg (xs.getD 0 []) 8).toInt⟩:TDcb),((cg (xs.getD 0 []) 9).toSl.map ajl),(cg (xs.getD 0 []) 10).toInt⟩:ajc),(⟨(cg (xs.getD 1 []) 0).toStr,(⟨(cg (xs.getD 1 []) 1).toInt,(cg (xs.getD 1 []) 2).toInt,(cg (xs.getD 1 []) 3).toBool,(cg (xs.getD 1 []) 4).toBool,(cg (xs.getD 1 []) 5).toInt,(cg (xs.getD 1 []) 6).toInt,(cg (xs.getD 1 []) 7).toInt,(cg (xs.getD 1 []) 8).toInt⟩:TDcb),((cg (xs.getD 1 []) 9).toSl.map ajl),(cg (xs.getD 1 []) 10).toInt⟩:ajc))) (fun a=>[[.str a.1.Name,.int a.1.Dcb.Org,.int a.1.Dcb.Format,.bool a.1.Dcb.Blocked,.bool a.1.Dcb.Asa,.int a.1.Dcb.Lrecl,.int a.1.Dcb.Blksize,.int a.1.Dcb.KeyLen,.int a.1.Dcb.KeyPos,.slice (List.map aj2 a.1.Extents),.int a.1.Used],[.str a.2.Name,.int a.2.Dcb.Org,.int a.2.Dcb.Format,.bool a.2.Dcb.Blocked,.bool a.2.Dcb.Asa,.int a.2.Dcb.Lrecl,.int a.2.Dcb.Blksize,.int a.2.Dcb.KeyLen,.int a.2.Dcb.KeyPos,.slice (List.map aj2 a.2.Extents),.int a.2.Used]]) (fun a=>bjn n a.1 a.2) (fun r=>[.c .bool (.bool r)]) (fun r=>[])
theorem dyj (n:Nat):aj1 jd (czi n):=by
 have hΓ:=@g0 (aj1 jd)
 refine aj7 (Tryz.f26.body.getD .skip) h00 Tryz.func26 rfl Tryz.call26 (by decide) (by intro _ r;exact ⟨rfl,by simp⟩) ?_
 rintro ⟨a,b⟩ r H
 try dsimp only at H
 unfold bjn at H
 simp only [Tryz.f26,jt]
 refine rA ?_
 refine jp fun K2 hK2=>?_
 refine rA ?_
 refine cnd H (fun h4 H=>?_) (fun h4 H=>?_)
 ·refine rA ?_
  refine jx ?_
  refine lf ?_
  obtain rfl:=Option.some.inj H
  exact rt []
 refine js ?_
 refine hK2 _ ?_
 refine j1 (fun (x:Unit)=>byu) (fun x=>ay9 n=some r) ?_ ?_
 ·refine rA ?_
  refine jw ?_
  obtain ⟨y8,hy8,Ho8⟩:=bind_some H
  refine jW _ (fun x=>cj4 a b x) hy8 (wb [some 32,some 48]) ?_
  rintro k z8 H
  try dsimp only at H
  unfold azm at H
  refine Sm.st (cj4.eq_1 ..) ?_
  refine jp fun K9 hK9=>?_
  refine rA ?_
  refine cnd H (fun h11 H=>?_) (fun h11 H=>?_)
  ·refine js ?_
   refine hK9 _ ?_
   refine jp fun K12 hK12=>?_
   refine jw ?_
   obtain ⟨⟨hg16,hg17⟩,H⟩:=aj4 H
   refine rD ?_
   refine cnd H (fun h14 H=>?_) (fun h14 H=>?_)
   ·refine rA ?_
    refine jx ?_
    refine lf ?_
    refine lx H fun hyy=>?_
    subst hyy
    have H:=Ho8
    try dsimp only at H
    refine lf ?_
    obtain rfl:=Option.some.inj H
    exact rt []
   refine js ?_
   refine hK12 _ ?_
   refine eA ?_
   refine lf ?_
   exact nx H (wb [some 9002,some 9003])
  refine jZ ?_
  refine lf ?_
  refine lx H fun hyy=>?_
  subst hyy
  have H:=Ho8
  try dsimp only at H
  refine lf ?_
  exact ⟨(),H,wb []⟩
 rintro ⟨⟩ H
 try dsimp only at H
 unfold ay9 at H
 refine Sm.st (byu.eq_1 ..) ?_
 refine rA ?_
 refine jx ?_
 refine lf ?_
 obtain rfl:=Option.some.inj H
 exact rt []
abbrev dje:S:=stB [] []
def bwi (n:Nat):Option Bool :=
 some true
abbrev ckz (a:aja) (b:aja) (k:Int):S:=stB [(2,.box 9002 0),(3,.box 9003 0),(5,.c (.int .i64) (.int k))] [(9002,.box [.c .str (.str a.Serial),.c (.int .i64) (.int a.Cyls),.c (.int .i64) (.int a.Heads),.c (.int .i64) (.int a.Size),.c (.slice 41) (.slice (List.map aj5 a.Sets))]),(9003,.box [.c .str (.str b.Serial),.c (.int .i64) (.int b.Cyls),.c (.int .i64) (.int b.Heads),.c (.int .i64) (.int b.Size),.c (.slice 41) (.slice (List.map aj5 b.Sets))])]
def bjb (n:Nat) (a:aja) (b:aja) (k:Int):Option ((Int) ⊕ (((Bool) ⊕ (Unit)))) :=
 bif (decide (k < (a.Sets.length:Int))) then
  gd ((0≤k∧k < (a.Sets.length:Int))∧(0≤k∧k < (b.Sets.length:Int))) <|
  (bjn n (gt a.Sets (Int.toNat k)) (gt b.Sets (Int.toNat k))).bind fun r1 =>
  bif (!r1) then
   some (.inr (.inl false))
  else
   some (.inl (jc .i64 (k+1)))
 else
  some (.inr (.inr ()))
def bkg (n:Nat) (a:aja) (b:aja):Option Bool :=
 bif (if (if (if (if (a.Serial != b.Serial)=true then true else (a.Cyls != b.Cyls))=true then true else (a.Heads != b.Heads))=true then true else (a.Size != b.Size))=true then true else ((a.Sets.length:Int) != (b.Sets.length:Int))) then
  some false
 else
  (aji (fun (x:Int)=>bjb n a b x) n 0).bind fun y8 =>
  match y8 with
  | .inl vv =>
   some vv
  | .inr vv =>
   bwi n
def dzk (n:Nat):Go.AE.Fn:=mkFn (A:=aja×aja) (R:=Bool) 19 [(true,[.str,.int .i64,.int .i64,.int .i64,.slice 41]),(true,[.str,.int .i64,.int .i64,.int .i64,.slice 41])] false (fun xs=>((⟨(cg (xs.getD 0 []) 0).toStr,(cg (xs.getD 0 []) 1).toInt,(cg (xs.getD 0 []) 2).toInt,(cg (xs.getD 0 []) 3).toInt,((cg (xs.getD 0 []) 4).toSl.map aql)⟩:aja),(⟨(cg (xs.getD 1 []) 0).toStr,(cg (xs.getD 1 []) 1).toInt,(cg (xs.getD 1 []) 2).toInt,(cg (xs.getD 1 []) 3).toInt,((cg (xs.getD 1 []) 4).toSl.map aql)⟩:aja))) (fun a=>[[.str a.1.Serial,.int a.1.Cyls,.int a.1.Heads,.int a.1.Size,.slice (List.map aj5 a.1.Sets)],[.str a.2.Serial,.int a.2.Cyls,.int a.2.Heads,.int a.2.Size,.slice (List.map aj5 a.2.Sets)]]) (fun a=>bkg n a.1 a.2) (fun r=>[.c .bool (.bool r)]) (fun r=>[])
theorem fj1 (n:Nat):aj1 jd (dzk n):=by
 have hΓ:=g1 (dyj n) (@g0 (aj1 jd))
 refine aj7 (Tryz.f19.body.getD .skip) h00 Tryz.func19 rfl Tryz.call19 (by decide) (by intro _ r;exact ⟨rfl,by simp⟩) ?_
 rintro ⟨a,b⟩ r H
 try dsimp only at H
 unfold bkg at H
 simp only [Tryz.f19,jt]
 refine rA ?_
 refine jp fun K2 hK2=>?_
 refine rA ?_
 refine cnd H (fun h4 H=>?_) (fun h4 H=>?_)
 ·refine rA ?_
  refine jx ?_
  refine lf ?_
  obtain rfl:=Option.some.inj H
  exact rt []
 refine js ?_
 refine hK2 _ ?_
 refine j1 (fun (x:Unit)=>dje) (fun x=>bwi n=some r) ?_ ?_
 ·refine rA ?_
  refine jw ?_
  obtain ⟨y8,hy8,Ho8⟩:=bind_some H
  refine jW _ (fun x=>ckz a b x) hy8 (wb [some 32,some 48]) ?_
  rintro k z8 H
  try dsimp only at H
  unfold bjb at H
  refine Sm.st (ckz.eq_1 ..) ?_
  refine jp fun K9 hK9=>?_
  refine rA ?_
  refine cnd H (fun h11 H=>?_) (fun h11 H=>?_)
  ·refine js ?_
   refine hK9 _ ?_
   refine jp fun K12 hK12=>?_
   refine jw ?_
   obtain ⟨⟨hg16,hg17⟩,H⟩:=aj4 H
   obtain ⟨r1,hr1,H⟩:=bind_some H
   have q:=aI @czi.eq_1 hr1
   refine rDq ?_
   refine cnd H (fun h14 H=>?_) (fun h14 H=>?_)
   ·refine rA ?_
    refine jx ?_
    refine lf ?_
    refine lx H fun hyy=>?_
    subst hyy
    have H:=Ho8
    try dsimp only at H
    refine lf ?_
    obtain rfl:=Option.some.inj H
    exact rt []
   refine js ?_
   refine hK12 _ ?_
   refine eA ?_
   refine lf ?_
   exact nx H (wb [some 9002,some 9003])
  refine jZ ?_
  refine lf ?_
  refine lx H fun hyy=>?_
  subst hyy
  have H:=Ho8
  try dsimp only at H
  refine lf ?_
  exact ⟨(),H,wb []⟩
 rintro ⟨⟩ H
 try dsimp only at H
 unfold bwi at H
 refine Sm.st (dje.eq_1 ..) ?_
 refine rA ?_
 refine jx ?_
 refine lf ?_
 obtain rfl:=Option.some.inj H
 exact rt []
end Go.Proofs.YtijnkhcfondehaaGreatDoor
