/- Text. -/
import Derived.Test.YtijnkhcfondehaaGreatDoorT
import Derived.Test.YtijnkhcfondehaaGreatDoorL92
import Derived.Test.YtijnkhcfondehaaGreatDoorN2
import Derived.Test.YtijnkhcfondehaaGreatDoorJ
set_option maxHeartbeats 8000000
set_option linter.unusedVariables false
set_option linter.unusedSimpArgs false
set_option maxRecDepth 100000
namespace Go.Proofs.YtijnkhcfondehaaGreatDoor
open Go.AE
def aqa (n:Nat) (n_:Int) (lo:Int) (hi:Int):Option Bool :=
 some (if (decide (lo≤n_))=true then (decide (n_≤hi)) else false)
def bkn (n:Nat):Go.AE.Fn:=mkFn (A:=Int×Int×Int) (R:=Bool) 67 [(false,[.int .i64]),(false,[.int .i64]),(false,[.int .i64])] false (fun xs=>((cg (xs.getD 0 []) 0).toInt,(cg (xs.getD 1 []) 0).toInt,(cg (xs.getD 2 []) 0).toInt)) (fun a=>[[.int a.1],[.int a.2.1],[.int a.2.2]]) (fun a=>aqa n a.1 a.2.1 a.2.2) (fun r=>[.c .bool (.bool r)]) (fun r=>[])
theorem dy1 (n:Nat):aj2 Tryz.prog (bkn n):=by
 have hΓ:=@g0 (aj2 Tryz.prog)
 refine aj8 (Tryz.f67.body.getD .skip) h00 Tryz.func67 rfl Tryz.call67 (by decide) (by intro _ r;exact ⟨rfl,by simp⟩) ?_
 rintro ⟨n_,lo,hi⟩ r H
 try dsimp only at H
 unfold aqa at H
 simp only [Tryz.f67,Option.getD]
 refine rA ?_
 refine rA ?_
 refine Sm.ret ?_
 refine lf ?_
 obtain rfl:=Option.some.inj H
 exact rt []
abbrev dzl:S:=stB [] []
def czf (n:Nat):Option Bool :=
 some true
abbrev dzr (v9:List (List UInt8)) (v10:Int) (v11:Int):S:=stB [(9,.own 9001 [.str] 0 v9.length),(10,.c (.int .i64) (.int v10)),(11,.c (.int .i64) (.int v11))] [(9001,.row 9 (List.map djc v9))]
def bzv (n:Nat) (v9:List (List UInt8)) (v10:Int) (v11:Int):Option ((Int) ⊕ (((Bool) ⊕ (Unit)))) :=
 bif (decide (v11 < v10)) then
  gd ((0≤v11∧v11 < (v9.length:Int))∧(Int.toNat v11) < v9.length) <|
  gd (((!(if (decide (((gt v9 (Int.toNat v11)).length:Int) < 1))=true then true else (decide (((gt v9 (Int.toNat v11)).length:Int) > 8))))=true→0 < ((gt v9 (Int.toNat v11)).length:Int))∧(((!(if (decide (((gt v9 (Int.toNat v11)).length:Int) < 1))=true then true else (decide (((gt v9 (Int.toNat v11)).length:Int) > 8)))) && (decide (((((gt v9 (Int.toNat v11)).getD 0 0).toNat:Nat):Int) ≥ 48)))=true→0 < ((gt v9 (Int.toNat v11)).length:Int))) <|
  bif (if (if (decide (((gt v9 (Int.toNat v11)).length:Int) < 1))=true then true else (decide (((gt v9 (Int.toNat v11)).length:Int) > 8)))=true then true else (if (decide (((((gt v9 (Int.toNat v11)).getD 0 0).toNat:Nat):Int) ≥ 48))=true then (decide (((((gt v9 (Int.toNat v11)).getD 0 0).toNat:Nat):Int)≤57)) else false)) then
   some (.inr (.inl false))
  else
   (aqu n (gt v9 (Int.toNat v11)) [65,66,67,68,69,70,71,72,73,74,75,76,77,78,79,80,81,82,83,84,85,86,87,88,89,90,48,49,50,51,52,53,54,55,56,57,64,35,36]).bind fun r2 =>
   bif (r2 != []) then
    some (.inr (.inl false))
   else
    some (.inl (IntKind.wrap .i64 (v11+1)))
 else
  some (.inr (.inr ()))
def byo (n:Nat) (s:List UInt8):Option Bool :=
 bif (decide ((s.length:Int) > 44)) then
  some false
 else
  (strings_Split n s [46]).bind fun r1 =>
  (ajj (fun (x:Int)=>bzv n r1 ((r1.length:Nat):Int) x) n 0).bind fun y8 =>
  match y8 with
  | .inl vv =>
   some vv
  | .inr vv =>
   czf n
def bj1 (n:Nat):Go.AE.Fn:=mkFn (A:=(List UInt8)) (R:=Bool) 17 [(false,[.str])] false (fun xs=>(cg (xs.getD 0 []) 0).toStr) (fun a=>[[.str a]]) (fun a=>byo n a) (fun r=>[.c .bool (.bool r)]) (fun r=>[])
theorem dz2 (n:Nat):aj2 Tryz.prog (bj1 n):=by
 have hΓ:=g1 (eqw n) (g1 (dq8 n) (@g0 (aj2 Tryz.prog)))
 refine aj8 (Tryz.f17.body.getD .skip) h00 Tryz.func17 rfl Tryz.call17 (by decide) (by intro _ r;exact ⟨rfl,by simp⟩) ?_
 rintro s r H
 try dsimp only at H
 unfold byo at H
 simp only [Tryz.f17,Option.getD]
 refine rA ?_
 refine Sm.seqK fun K2 hK2=>?_
 refine rA ?_
 refine cnd H (fun h4 H=>?_) (fun h4 H=>?_)
 ·refine rA ?_
  refine Sm.ret ?_
  refine lf ?_
  obtain rfl:=Option.some.inj H
  exact rt []
 refine Sm.skip ?_
 refine hK2 _ ?_
 refine Sm.cut (fun (x:Unit)=>dzl) (fun x=>czf n=some r) ?_ ?_
 ·obtain ⟨r1,hr1,H⟩:=bind_some H
  have q:=And.intro @bjm.eq_1 hr1
  refine rAq ?_
  refine Sm.block ?_
  obtain ⟨y8,hy8,Ho8⟩:=bind_some H
  refine Sm.loopB _ (fun x=>dzr r1 ((r1.length:Nat):Int) x) hy8 (wb [some 144]) ?_
  rintro v11 z8 H
  try dsimp only at H
  unfold bzv at H
  refine Sm.st (dzr.eq_1 ..) ?_
  refine rA ?_
  refine Sm.seqK fun K10 hK10=>?_
  refine cnd H (fun h11 H=>?_) (fun h11 H=>?_)
  ·refine Sm.skip ?_
   refine hK10 _ ?_
   refine Sm.seqK fun K12 hK12=>?_
   refine Sm.block ?_
   obtain ⟨⟨hg23,hg24⟩,H⟩:=aj7 H
   refine rA ?_
   refine Sm.seqK fun K14 hK14=>?_
   obtain ⟨⟨hg21,hg22⟩,H⟩:=aj7 H
   refine rA ?_
   refine cnd H (fun h16 H=>?_) (fun h16 H=>?_)
   ·refine rA ?_
    refine Sm.ret ?_
    refine lf ?_
    refine lx H fun hyy=>?_
    subst hyy
    have H:=Ho8
    try dsimp only at H
    refine lf ?_
    obtain rfl:=Option.some.inj H
    exact rt []
   refine Sm.skip ?_
   refine hK14 _ ?_
   obtain ⟨r2,hr2,H⟩:=bind_some H
   have q:=And.intro @bjm.eq_1 (And.intro @azl.eq_1 hr2)
   refine rAq ?_
   refine cnd H (fun h19 H=>?_) (fun h19 H=>?_)
   ·refine rA ?_
    refine Sm.ret ?_
    refine lf ?_
    refine lx H fun hyy=>?_
    subst hyy
    have H:=Ho8
    try dsimp only at H
    refine lf ?_
    obtain rfl:=Option.some.inj H
    exact rt []
   refine Sm.skip ?_
   refine hK12 _ ?_
   refine eA ?_
   refine lf ?_
   exact nx H (wb [some 9001])
  refine Sm.exit ?_
  refine lf ?_
  refine lx H fun hyy=>?_
  subst hyy
  have H:=Ho8
  try dsimp only at H
  refine lf ?_
  exact ⟨(),H,wb []⟩
 rintro ⟨⟩ H
 try dsimp only at H
 unfold czf at H
 refine Sm.st (dzl.eq_1 ..) ?_
 refine rA ?_
 refine Sm.ret ?_
 refine lf ?_
 obtain rfl:=Option.some.inj H
 exact rt []
def aqm (n:Nat) (d:TDcb):Option Bool :=
 (aqa n d.Org 1 3).bind fun r1 =>
 gd ((r1=true→(aqa n d.Format 1 3).isSome=true)∧((if r1=true then ((aqa n d.Format 1 3).getD default) else false)=true→(aqa n d.Lrecl 0 1024).isSome=true)∧((if (if r1=true then ((aqa n d.Format 1 3).getD default) else false)=true then ((aqa n d.Lrecl 0 1024).getD default) else false)=true→(aqa n d.Blksize 0 1024).isSome=true)∧((if (if (if r1=true then ((aqa n d.Format 1 3).getD default) else false)=true then ((aqa n d.Lrecl 0 1024).getD default) else false)=true then ((aqa n d.Blksize 0 1024).getD default) else false)=true→(aqa n d.KeyPos 0 1024).isSome=true)∧((if (if (if (if r1=true then ((aqa n d.Format 1 3).getD default) else false)=true then ((aqa n d.Lrecl 0 1024).getD default) else false)=true then ((aqa n d.Blksize 0 1024).getD default) else false)=true then ((aqa n d.KeyPos 0 1024).getD default) else false)=true→(aqa n d.KeyLen 0 64).isSome=true)) <|
 some (if (if (if (if (if r1=true then ((aqa n d.Format 1 3).getD default) else false)=true then ((aqa n d.Lrecl 0 1024).getD default) else false)=true then ((aqa n d.Blksize 0 1024).getD default) else false)=true then ((aqa n d.KeyPos 0 1024).getD default) else false)=true then ((aqa n d.KeyLen 0 64).getD default) else false)
def aw2 (n:Nat):Go.AE.Fn:=mkFn (A:=TDcb) (R:=Bool) 84 [(true,[.int .i64,.int .i64,.bool,.bool,.int .i64,.int .i64,.int .i64,.int .i64])] false (fun xs=>(⟨(cg (xs.getD 0 []) 0).toInt,(cg (xs.getD 0 []) 1).toInt,(cg (xs.getD 0 []) 2).toBool,(cg (xs.getD 0 []) 3).toBool,(cg (xs.getD 0 []) 4).toInt,(cg (xs.getD 0 []) 5).toInt,(cg (xs.getD 0 []) 6).toInt,(cg (xs.getD 0 []) 7).toInt⟩:TDcb)) (fun a=>[[.int a.Org,.int a.Format,.bool a.Blocked,.bool a.Asa,.int a.Lrecl,.int a.Blksize,.int a.KeyLen,.int a.KeyPos]]) (fun a=>aqm n a) (fun r=>[.c .bool (.bool r)]) (fun r=>[])
theorem byh (n:Nat):aj2 Tryz.prog (aw2 n):=by
 have hΓ:=g1 (dy1 n) (@g0 (aj2 Tryz.prog))
 refine aj8 (Tryz.f84.body.getD .skip) h00 Tryz.func84 rfl Tryz.call84 (by decide) (by intro _ r;exact ⟨rfl,by simp⟩) ?_
 rintro d r H
 try dsimp only at H
 unfold aqm at H
 simp only [Tryz.f84,Option.getD]
 refine rA ?_
 obtain ⟨r1,hr1,H⟩:=bind_some H
 obtain ⟨⟨hg3,hg4,hg5,hg6,hg7⟩,H⟩:=aj7 H
 have q:=And.intro @bkn.eq_1 hr1
 refine rAq ?_
 refine Sm.ret ?_
 refine lf ?_
 obtain rfl:=Option.some.inj H
 exact rt []
def bqf (n:Nat) (x_:aj0):Option Bool :=
 some (if (if (if (decide (x_.At ≥ 0))=true then (decide (x_.Len ≥ 1)) else false)=true then (decide (x_.At < 512)) else false)=true then (decide (x_.Len≤(IntKind.wrap .i64 (512 - x_.At)))) else false)
def bks (n:Nat):Go.AE.Fn:=mkFn (A:=aj0) (R:=Bool) 125 [(true,[.int .i64,.int .i64])] false (fun xs=>(⟨(cg (xs.getD 0 []) 0).toInt,(cg (xs.getD 0 []) 1).toInt⟩:aj0)) (fun a=>[[.int a.At,.int a.Len]]) (fun a=>bqf n a) (fun r=>[.c .bool (.bool r)]) (fun r=>[])
theorem dql (n:Nat):aj2 Tryz.prog (bks n):=by
 have hΓ:=@g0 (aj2 Tryz.prog)
 refine aj8 (Tryz.f125.body.getD .skip) h00 Tryz.func125 rfl Tryz.call125 (by decide) (by intro _ r;exact ⟨rfl,by simp⟩) ?_
 rintro x_ r H
 try dsimp only at H
 unfold bqf at H
 simp only [Tryz.f125,Option.getD]
 refine rA ?_
 refine rA ?_
 refine Sm.ret ?_
 refine lf ?_
 obtain rfl:=Option.some.inj H
 exact rt []
def az0 (n:Nat) (s:List aj0):Option (List aj0) :=
 uniB s fun nb1 =>
 bif nb1 then
  some []
 else
  gd (s.length≤2147483648) <|
  some s
def awm (n:Nat):Go.AE.Fn:=mkFn (A:=(List aj0)) (R:=(List aj0)) 118 [(false,[.slice 80])] false (fun xs=>((cg (xs.getD 0 []) 0).toSl.map ajm)) (fun a=>[[.slice (List.map aj1 a)]]) (fun a=>az0 n a) (fun r=>[.own 0 [.int .i64,.int .i64] 0 r.length]) (fun r=>[.row 80 (List.map aj1 r)])
theorem ayb (n:Nat):aj2 Tryz.prog (awm n):=by
 have hΓ:=@g0 (aj2 Tryz.prog)
 refine aj8 (Tryz.f118.body.getD .skip) h00 Tryz.func118 rfl Tryz.call118 (by decide) (fun _ r=>⟨rfl,m1 ⟨80,_,_,rfl,ty80,rfl⟩ m0⟩) ?_
 rintro s r H
 try dsimp only at H
 unfold az0 at H
 simp only [Tryz.f118,Option.getD]
 refine rA ?_
 refine Sm.seqK fun K2 hK2=>?_
 refine sX fun K3 hK3=>?_
 refine oX ?_
 refine opsN fun K hK=>?_;simp only [z,seval];(repeat (first | refine gcI ?_ | refine fun (_:_≤_)=>?_));intro nb1 hnb1;refine hK _ ?_;clear hK K
 replace H:=gjq H nb1 (fun hb=>by simpa using hnb1 hb)
 refine hK3 _ ?_
 refine cnd H (fun h4 H=>?_) (fun h4 H=>?_)
 ·refine rA ?_
  refine Sm.ret ?_
  refine lf ?_
  obtain rfl:=Option.some.inj H
  exact rto [none]
 refine Sm.skip ?_
 refine hK2 _ ?_
 obtain ⟨hg7,H⟩:=aj7 H
 refine rA ?_
 refine Sm.ret ?_
 refine lf ?_
 obtain rfl:=Option.some.inj H
 exact rto [some 112]
def ay3 (n:Nat) (x_:Int):Option Bool :=
 some (x_ != x_)
def byl (n:Nat):Go.AE.Fn:=mkFn (A:=Int) (R:=Bool) 197 [(false,[.int .i64])] false (fun xs=>(cg (xs.getD 0 []) 0).toInt) (fun a=>[[.int a]]) (fun a=>ay3 n a) (fun r=>[.c .bool (.bool r)]) (fun r=>[])
theorem eji (n:Nat):aj2 Tryz.prog (byl n):=by
 have hΓ:=@g0 (aj2 Tryz.prog)
 refine aj8 (Tryz.f197.body.getD .skip) h00 Tryz.func197 rfl Tryz.call197 (by decide) (by intro _ r;exact ⟨rfl,by simp⟩) ?_
 rintro x_ r H
 try dsimp only at H
 unfold ay3 at H
 simp only [Tryz.f197,Option.getD]
 refine rA ?_
 refine rA ?_
 refine Sm.ret ?_
 refine lf ?_
 obtain rfl:=Option.some.inj H
 exact rt []
def akz (n:Nat) (x_:Int) (y:Int):Option Int :=
 (ay3 n x_).bind fun r1 =>
 (ay3 n y).bind fun r2 =>
 bif r1 then
  bif r2 then
   some 0
  else
   some (-1)
 else
  bif r2 then
   some 1
  else
   bif (decide (x_ < y)) then
    some (-1)
   else
    bif (decide (x_ > y)) then
     some 1
    else
     some 0
def cqf (n:Nat):Go.AE.Fn:=mkFn (A:=Int×Int) (R:=Int) 166 [(false,[.int .i64]),(false,[.int .i64])] false (fun xs=>((cg (xs.getD 0 []) 0).toInt,(cg (xs.getD 1 []) 0).toInt)) (fun a=>[[.int a.1],[.int a.2]]) (fun a=>akz n a.1 a.2) (fun r=>[.c (.int .i64) (.int r)]) (fun r=>[])
theorem dwh (n:Nat):aj2 Tryz.prog (cqf n):=by
 have hΓ:=g1 (eji n) (@g0 (aj2 Tryz.prog))
 refine aj8 (Tryz.f166.body.getD .skip) h00 Tryz.func166 rfl Tryz.call166 (by decide) (by intro _ r;exact ⟨rfl,by simp⟩) ?_
 rintro ⟨x_,y⟩ r H
 try dsimp only at H
 unfold akz at H
 simp only [Tryz.f166,Option.getD]
 refine rA ?_
 obtain ⟨r1,hr1,H⟩:=bind_some H
 have q:=And.intro @byl.eq_1 hr1
 refine rAq ?_
 obtain ⟨r2,hr2,H⟩:=bind_some H
 have q:=And.intro @byl.eq_1 hr2
 refine rAq ?_
 refine Sm.seqK fun K4 hK4=>?_
 refine rA ?_
 refine cnd H (fun h6 H=>?_) (fun h6 H=>?_)
 ·refine Sm.seqK fun K7 hK7=>?_
  refine rA ?_
  refine cnd H (fun h9 H=>?_) (fun h9 H=>?_)
  ·refine rA ?_
   refine Sm.ret ?_
   refine lf ?_
   obtain rfl:=Option.some.inj H
   exact rt []
  refine Sm.skip ?_
  refine hK7 _ ?_
  refine rA ?_
  refine Sm.ret ?_
  refine lf ?_
  obtain rfl:=Option.some.inj H
  exact rt []
 refine Sm.skip ?_
 refine hK4 _ ?_
 refine Sm.seqK fun K12 hK12=>?_
 refine rA ?_
 refine cnd H (fun h14 H=>?_) (fun h14 H=>?_)
 ·refine rA ?_
  refine Sm.ret ?_
  refine lf ?_
  obtain rfl:=Option.some.inj H
  exact rt []
 refine Sm.skip ?_
 refine hK12 _ ?_
 refine Sm.seqK fun K16 hK16=>?_
 refine rA ?_
 refine cnd H (fun h18 H=>?_) (fun h18 H=>?_)
 ·refine rA ?_
  refine Sm.ret ?_
  refine lf ?_
  obtain rfl:=Option.some.inj H
  exact rt []
 refine Sm.skip ?_
 refine hK16 _ ?_
 refine Sm.seqK fun K20 hK20=>?_
 refine rA ?_
 refine cnd H (fun h22 H=>?_) (fun h22 H=>?_)
 ·refine rA ?_
  refine Sm.ret ?_
  refine lf ?_
  obtain rfl:=Option.some.inj H
  exact rt []
 refine Sm.skip ?_
 refine hK20 _ ?_
 refine rA ?_
 refine Sm.ret ?_
 refine lf ?_
 obtain rfl:=Option.some.inj H
 exact rt []
def awk (n:Nat) (a:aj0) (b:aj0):Option Int :=
 (akz n a.At b.At).bind fun r1 =>
 some r1
def dkr (n:Nat):Go.AE.Fn:=mkFn (A:=aj0×aj0) (R:=Int) 165 [(true,[.int .i64,.int .i64]),(true,[.int .i64,.int .i64])] false (fun xs=>((⟨(cg (xs.getD 0 []) 0).toInt,(cg (xs.getD 0 []) 1).toInt⟩:aj0),(⟨(cg (xs.getD 1 []) 0).toInt,(cg (xs.getD 1 []) 1).toInt⟩:aj0))) (fun a=>[[.int a.1.At,.int a.1.Len],[.int a.2.At,.int a.2.Len]]) (fun a=>awk n a.1 a.2) (fun r=>[.c (.int .i64) (.int r)]) (fun r=>[])
theorem gjh (n:Nat):aj2 Tryz.prog (dkr n):=by
 have hΓ:=g1 (dwh n) (@g0 (aj2 Tryz.prog))
 refine aj8 (Tryz.f165.body.getD .skip) h00 Tryz.func165 rfl Tryz.call165 (by decide) (by intro _ r;exact ⟨rfl,by simp⟩) ?_
 rintro ⟨a,b⟩ r H
 try dsimp only at H
 unfold awk at H
 simp only [Tryz.f165,Option.getD]
 refine rA ?_
 obtain ⟨r1,hr1,H⟩:=bind_some H
 have q:=And.intro @cqf.eq_1 hr1
 refine rAq ?_
 refine Sm.ret ?_
 refine lf ?_
 obtain rfl:=Option.some.inj H
 exact rt []
def azs (n:Nat) (s:List aj0):Option (List aj0):=fwv (fun x y=>awk n x y) s
theorem cj2 (n:Nat) (s:List aj0) (r:List aj0) (H:azs n s=some r):az6 Tryz.prog 164 [.ref (.own 0 [.int .i64,.int .i64] 0 s.length),.ref (.fnv 165 [])] [.row 80 (List.map aj1 s)] [] [.row 80 (List.map aj1 r)] :=
 dkc hwh ty80 Tryz.isAgg80 Tryz.sizeOf80 (by decide) (by decide) (by intro args w;exact Tryz.call165 args w) aj1 (fun _=>rfl) (fun x y=>awk n x y) (fun x y c h=>hw5 _ _ _ _ _ (by
  simp only [awk,akz,ay3,Option.bind_some,bne_self_eq_false,cond_false,gt_iff_lt] at h
  by_cases h1:x.At < y.At <;> by_cases h2:y.At < x.At <;> simp [h1,h2] at h ⊢ <;> first | exact h.symm | omega)) s r H
def bj9 (n:Nat) (l:List aj0):Option (List aj0) :=
 (az0 n l).bind fun r1 =>
 (azs n r1).bind fun r2 =>
 some (List.take r1.length r2)
def cjp (n:Nat):Go.AE.Fn:=mkFn (A:=(List aj0)) (R:=(List aj0)) 126 [(false,[.slice 80])] true (fun xs=>((cg (xs.getD 0 []) 0).toSl.map ajm)) (fun a=>[[.slice (List.map aj1 a)]]) (fun a=>bj9 n a) (fun r=>[.c (.slice 80) (.slice (List.map aj1 r))]) (fun r=>[])
theorem cyw (n:Nat):aj2 Tryz.prog (cjp n):=by
 have hΓ:=g1 (ayb n) (@g0 (aj2 Tryz.prog))
 refine aj8 (Tryz.f126.body.getD .skip) h00 Tryz.func126 rfl Tryz.call126 (by decide) (by intro h;cases h) ?_
 rintro l r H
 try dsimp only at H
 unfold bj9 at H
 simp only [Tryz.f126,Option.getD]
 refine rA ?_
 obtain ⟨r1,hr1,H⟩:=bind_some H
 have q:=And.intro @awm.eq_1 hr1
 refine rAq ?_
 refine sX fun K3 hK3=>?_
 obtain ⟨r2,hr2,H⟩:=bind_some H
 have q:=hr2
 refine oX ?_
 refine oMq (cj2 n _ r2 hr2) [80] [] ?_
 refine hK3 _ ?_
 refine rA ?_
 refine Sm.ret ?_
 refine lf ?_
 obtain rfl:=Option.some.inj H
 exact rt []
abbrev czb:S:=stB [] []
def bwj (n:Nat):Option Bool :=
 some true
abbrev cz7 (s:List aj0) (i:Int):S:=stB [(5,.c (.slice 80) (.slice (List.map aj1 s))),(6,.c (.int .i64) (.int i))] []
def akd (n:Nat) (s:List aj0) (i:Int):Option ((Int) ⊕ (((Bool) ⊕ (Unit)))) :=
 bif (decide (i < (s.length:Int))) then
  gd ((0≤i∧i < (s.length:Int))∧(0≤(IntKind.wrap .i64 (i - 1))∧(IntKind.wrap .i64 (i - 1)) < (s.length:Int))∧(0≤(IntKind.wrap .i64 (i - 1))∧(IntKind.wrap .i64 (i - 1)) < (s.length:Int))) <|
  bif (decide (((gt s (Int.toNat i)).At) < (IntKind.wrap .i64 (((gt s (Int.toNat (IntKind.wrap .i64 (i - 1)))).At)+((gt s (Int.toNat (IntKind.wrap .i64 (i - 1)))).Len))))) then
   some (.inr (.inl false))
  else
   some (.inl (IntKind.wrap .i64 (i+1)))
 else
  some (.inr (.inr ()))
abbrev ckb (l:List aj0):S:=stB [(0,.c (.slice 80) (.slice (List.map aj1 l)))] []
def bwq (n:Nat) (l:List aj0):Option Bool :=
 (bj9 n l).bind fun r1 =>
 (ajj (fun (x:Int)=>akd n r1 x) n 1).bind fun y9 =>
 match y9 with
 | .inl vv =>
  some vv
 | .inr vv =>
  bwj n
abbrev czs (l:List aj0) (v11:Int) (v12:Int):S:=stB [(0,.c (.slice 80) (.slice (List.map aj1 l))),(10,.c (.slice 80) (.slice (List.map aj1 l))),(11,.c (.int .i64) (.int v11)),(12,.c (.int .i64) (.int v12))] []
def ayd (n:Nat) (l:List aj0) (v11:Int) (v12:Int):Option ((Int) ⊕ (((Bool) ⊕ (Unit)))) :=
 bif (decide (v12 < v11)) then
  gd ((0≤v12∧v12 < (l.length:Int))) <|
  (bqf n (gt l (Int.toNat v12))).bind fun r2 =>
  bif (!r2) then
   some (.inr (.inl false))
  else
   some (.inl (IntKind.wrap .i64 (v12+1)))
 else
  some (.inr (.inr ()))
def awl (n:Nat) (l:List aj0):Option Bool :=
 bif (decide ((l.length:Int) > 512)) then
  some false
 else
  (ajj (fun (x:Int)=>ayd n l (l.length:Int) x) n 0).bind fun y21 =>
  match y21 with
  | .inl vv =>
   some vv
  | .inr vv =>
   bwq n l
def azn (n:Nat):Go.AE.Fn:=mkFn (A:=(List aj0)) (R:=Bool) 69 [(false,[.slice 80])] false (fun xs=>((cg (xs.getD 0 []) 0).toSl.map ajm)) (fun a=>[[.slice (List.map aj1 a)]]) (fun a=>awl n a) (fun r=>[.c .bool (.bool r)]) (fun r=>[])
theorem bw5 (n:Nat):aj2 Tryz.prog (azn n):=by
 have hΓ:=g1 (dql n) (g1 (cyw n) (@g0 (aj2 Tryz.prog)))
 refine aj8 (Tryz.f69.body.getD .skip) h00 Tryz.func69 rfl Tryz.call69 (by decide) (by intro _ r;exact ⟨rfl,by simp⟩) ?_
 rintro l r H
 try dsimp only at H
 unfold awl at H
 simp only [Tryz.f69,Option.getD]
 refine rA ?_
 refine Sm.seqK fun K2 hK2=>?_
 refine rA ?_
 refine cnd H (fun h4 H=>?_) (fun h4 H=>?_)
 ·refine rA ?_
  refine Sm.ret ?_
  refine lf ?_
  obtain rfl:=Option.some.inj H
  exact rt []
 refine Sm.skip ?_
 refine hK2 _ ?_
 refine Sm.cut (fun (x:Unit)=>ckb l) (fun x=>bwq n l=some r) ?_ ?_
 ·refine rA ?_
  refine Sm.block ?_
  obtain ⟨y21,hy21,Ho21⟩:=bind_some H
  refine Sm.loopB _ (fun x=>czs l (l.length:Int) x) hy21 (wb []) ?_
  rintro v12 z21 H
  try dsimp only at H
  unfold ayd at H
  refine Sm.st (czs.eq_1 ..) ?_
  refine rA ?_
  refine Sm.seqK fun K23 hK23=>?_
  refine cnd H (fun h24 H=>?_) (fun h24 H=>?_)
  ·refine Sm.skip ?_
   refine hK23 _ ?_
   refine Sm.seqK fun K25 hK25=>?_
   refine Sm.block ?_
   obtain ⟨hg30,H⟩:=aj7 H
   refine rA ?_
   obtain ⟨r2,hr2,H⟩:=bind_some H
   have q:=And.intro @bks.eq_1 hr2
   refine rAq ?_
   refine cnd H (fun h28 H=>?_) (fun h28 H=>?_)
   ·refine rA ?_
    refine Sm.ret ?_
    refine lf ?_
    refine lx H fun hyy=>?_
    subst hyy
    have H:=Ho21
    try dsimp only at H
    refine lf ?_
    obtain rfl:=Option.some.inj H
    exact rt []
   refine Sm.skip ?_
   refine hK25 _ ?_
   refine eA ?_
   refine lf ?_
   exact nx H (wb [])
  refine Sm.exit ?_
  refine lf ?_
  refine lx H fun hyy=>?_
  subst hyy
  have H:=Ho21
  try dsimp only at H
  refine lf ?_
  exact ⟨(),H,wb []⟩
 rintro ⟨⟩ H
 try dsimp only at H
 unfold bwq at H
 refine Sm.st (ckb.eq_1 ..) ?_
 obtain ⟨r1,hr1,H⟩:=bind_some H
 have q:=And.intro @bks.eq_1 (And.intro @cjp.eq_1 hr1)
 refine rAq ?_
 refine Sm.cut (fun (x:Unit)=>czb) (fun x=>bwj n=some r) ?_ ?_
 ·refine rA ?_
  refine Sm.block ?_
  obtain ⟨y9,hy9,Ho9⟩:=bind_some H
  refine Sm.loopB _ (fun x=>cz7 r1 x) hy9 (wb []) ?_
  rintro i z9 H
  try dsimp only at H
  unfold akd at H
  refine Sm.st (cz7.eq_1 ..) ?_
  refine Sm.seqK fun K10 hK10=>?_
  refine rA ?_
  refine cnd H (fun h12 H=>?_) (fun h12 H=>?_)
  ·refine Sm.skip ?_
   refine hK10 _ ?_
   refine Sm.seqK fun K13 hK13=>?_
   refine Sm.block ?_
   obtain ⟨⟨hg17,hg18,hg19⟩,H⟩:=aj7 H
   refine rD ?_
   refine cnd H (fun h15 H=>?_) (fun h15 H=>?_)
   ·refine rA ?_
    refine Sm.ret ?_
    refine lf ?_
    refine lx H fun hyy=>?_
    subst hyy
    have H:=Ho9
    try dsimp only at H
    refine lf ?_
    obtain rfl:=Option.some.inj H
    exact rt []
   refine Sm.skip ?_
   refine hK13 _ ?_
   refine eA ?_
   refine lf ?_
   exact nx H (wb [])
  refine Sm.exit ?_
  refine lf ?_
  refine lx H fun hyy=>?_
  subst hyy
  have H:=Ho9
  try dsimp only at H
  refine lf ?_
  exact ⟨(),H,wb []⟩
 rintro ⟨⟩ H
 try dsimp only at H
 unfold bwj at H
 refine Sm.st (czb.eq_1 ..) ?_
 refine rA ?_
 refine Sm.ret ?_
 refine lf ?_
 obtain rfl:=Option.some.inj H
 exact rt []
abbrev czt (n_:Int):S:=stB [(3,.c (.int .i64) (.int n_))] []
def bqr (n:Nat) (n_:Int):Option Int :=
 some n_
abbrev czk (l:List aj0) (v10:Int) (n__1:Int) (v11:Int):S:=stB [(3,.c (.int .i64) (.int n__1)),(9,.c (.slice 80) (.slice (List.map aj1 l))),(10,.c (.int .i64) (.int v10)),(11,.c (.int .i64) (.int v11))] []
def akh (n:Nat) (l:List aj0) (v10:Int) (n__1:Int) (v11:Int):Option ((Int×Int) ⊕ ((Int))) :=
 bif (decide (v11 < v10)) then
  gd ((0≤v11∧v11 < (l.length:Int))) <|
  some (.inl ((IntKind.wrap .i64 (n__1+((gt l (Int.toNat v11)).Len))),(IntKind.wrap .i64 (v11+1))))
 else
  some (.inr n__1)
def bqd (n:Nat) (l:List aj0):Option Int :=
 (awl n l).bind fun r1 =>
 bif (!r1) then
  some 0
 else
  (ajj (fun (x:Int×Int)=>akh n l (l.length:Int) x.1 x.2) n (0,0)).bind fun y9 =>
  bqr n y9
def cqu (n:Nat):Go.AE.Fn:=mkFn (A:=(List aj0)) (R:=Int) 99 [(false,[.slice 80])] false (fun xs=>((cg (xs.getD 0 []) 0).toSl.map ajm)) (fun a=>[[.slice (List.map aj1 a)]]) (fun a=>bqd n a) (fun r=>[.c (.int .i64) (.int r)]) (fun r=>[])
theorem djq (n:Nat):aj2 Tryz.prog (cqu n):=by
 have hΓ:=g1 (bw5 n) (@g0 (aj2 Tryz.prog))
 refine aj8 (Tryz.f99.body.getD .skip) h00 Tryz.func99 rfl Tryz.call99 (by decide) (by intro _ r;exact ⟨rfl,by simp⟩) ?_
 rintro l r H
 try dsimp only at H
 unfold bqd at H
 simp only [Tryz.f99,Option.getD]
 refine rA ?_
 refine Sm.seqK fun K2 hK2=>?_
 obtain ⟨r1,hr1,H⟩:=bind_some H
 have q:=And.intro @azn.eq_1 hr1
 refine rAq ?_
 refine cnd H (fun h4 H=>?_) (fun h4 H=>?_)
 ·refine rA ?_
  refine Sm.ret ?_
  refine lf ?_
  obtain rfl:=Option.some.inj H
  exact rt []
 refine Sm.skip ?_
 refine hK2 _ ?_
 refine rA ?_
 refine Sm.cut (fun (x:Int)=>czt x) (fun x=>bqr n x=some r) ?_ ?_
 ·refine rA ?_
  refine Sm.block ?_
  obtain ⟨y9,hy9,Ho9⟩:=bind_some H
  refine Sm.loopB _ (fun x=>czk l (l.length:Int) x.1 x.2) hy9 (wb []) ?_
  rintro ⟨n__1,v11⟩ z9 H
  try dsimp only at H
  unfold akh at H
  refine Sm.st (czk.eq_1 ..) ?_
  refine rA ?_
  refine Sm.seqK fun K11 hK11=>?_
  refine cnd H (fun h12 H=>?_) (fun h12 H=>?_)
  ·refine Sm.skip ?_
   refine hK11 _ ?_
   refine Sm.seqK fun K13 hK13=>?_
   refine Sm.block ?_
   obtain ⟨hg15,H⟩:=aj7 H
   refine rA ?_
   refine eA ?_
   refine hK13 _ ?_
   refine eA ?_
   refine lf ?_
   exact nx H (wb [])
  refine Sm.exit ?_
  refine lf ?_
  refine lx H fun hyy=>?_
  subst hyy
  have H:=Ho9
  try dsimp only at H
  refine lf ?_
  exact ⟨_,H,wb []⟩
 rintro n_ H
 try dsimp only at H
 unfold bqr at H
 refine Sm.st (czt.eq_1 ..) ?_
 refine rA ?_
 refine Sm.ret ?_
 refine lf ?_
 obtain rfl:=Option.some.inj H
 exact rt []
abbrev cj8 (d:aj4):S:=stB [(3,.box 9000 0)] [(9000,.box [.c .str (.str d.Name),.c (.int .i64) (.int d.Dcb.Org),.c (.int .i64) (.int d.Dcb.Format),.c .bool (.bool d.Dcb.Blocked),.c .bool (.bool d.Dcb.Asa),.c (.int .i64) (.int d.Dcb.Lrecl),.c (.int .i64) (.int d.Dcb.Blksize),.c (.int .i64) (.int d.Dcb.KeyLen),.c (.int .i64) (.int d.Dcb.KeyPos),.c (.slice 80) (.slice (List.map aj1 d.Extents)),.c (.int .i64) (.int d.Used)])]
def aya (n:Nat) (d:aj4):Option Bool :=
 (bqd n d.Extents).bind fun r2 =>
 (aqa n d.Used 0 r2).bind fun r3 =>
 some r3
abbrev cjb (v:aj5) (d:aj4) (v32:Int) (v33:Int):S:=stB [(2,.box 9003 0),(3,.box 9004 0),(31,.c (.slice 80) (.slice (List.map aj1 d.Extents))),(32,.c (.int .i64) (.int v32)),(33,.c (.int .i64) (.int v33))] [(9003,.box [.c .str (.str v.Serial),.c (.int .i64) (.int v.Cyls),.c (.int .i64) (.int v.Heads),.c (.int .i64) (.int v.Size),.c (.slice 41) (.slice (List.map aj3 v.Sets))]),(9004,.box [.c .str (.str d.Name),.c (.int .i64) (.int d.Dcb.Org),.c (.int .i64) (.int d.Dcb.Format),.c .bool (.bool d.Dcb.Blocked),.c .bool (.bool d.Dcb.Asa),.c (.int .i64) (.int d.Dcb.Lrecl),.c (.int .i64) (.int d.Dcb.Blksize),.c (.int .i64) (.int d.Dcb.KeyLen),.c (.int .i64) (.int d.Dcb.KeyPos),.c (.slice 80) (.slice (List.map aj1 d.Extents)),.c (.int .i64) (.int d.Used)])]
def azj (n:Nat) (v:aj5) (d:aj4) (v32:Int) (v33:Int):Option ((Int) ⊕ (((Bool) ⊕ (Unit)))) :=
 bif (decide (v33 < v32)) then
  gd ((0≤v33∧v33 < (d.Extents.length:Int))) <|
  bif (decide ((IntKind.wrap .i64 (((gt d.Extents (Int.toNat v33)).At)+((gt d.Extents (Int.toNat v33)).Len))) > (IntKind.wrap .i64 (v.Cyls * v.Heads)))) then
   some (.inr (.inl false))
  else
   some (.inl (IntKind.wrap .i64 (v33+1)))
 else
  some (.inr (.inr ()))
def ayg (n:Nat) (v:aj5) (d:aj4):Option Bool :=
 (byo n d.Name).bind fun r1 =>
 gd (((!(!r1))=true→(aqm n d.Dcb).isSome=true)∧((!(if (!r1)=true then true else (!((aqm n d.Dcb).getD default))))=true→(aqa n (d.Extents.length:Int) 1 8).isSome=true)∧((!(if (if (!r1)=true then true else (!((aqm n d.Dcb).getD default)))=true then true else (!((aqa n (d.Extents.length:Int) 1 8).getD default))))=true→(awl n d.Extents).isSome=true)) <|
 bif (if (if (if (!r1)=true then true else (!((aqm n d.Dcb).getD default)))=true then true else (!((aqa n (d.Extents.length:Int) 1 8).getD default)))=true then true else (!((awl n d.Extents).getD default))) then
  some false
 else
  (ajj (fun (x:Int)=>azj n v d (d.Extents.length:Int) x) n 0).bind fun y8 =>
  match y8 with
  | .inl vv =>
   some vv
  | .inr vv =>
   aya n d
def bk8 (n:Nat):Go.AE.Fn:=mkFn (A:=aj5×aj4) (R:=Bool) 68 [(true,[.str,.int .i64,.int .i64,.int .i64,.slice 41]),(true,[.str,.int .i64,.int .i64,.bool,.bool,.int .i64,.int .i64,.int .i64,.int .i64,.slice 80,.int .i64])] false (fun xs=>((⟨(cg (xs.getD 0 []) 0).toStr,(cg (xs.getD 0 []) 1).toInt,(cg (xs.getD 0 []) 2).toInt,(cg (xs.getD 0 []) 3).toInt,((cg (xs.getD 0 []) 4).toSl.map aqd)⟩:aj5),(⟨(cg (xs.getD 1 []) 0).toStr,(⟨(cg (xs.getD 1 []) 1).toInt,(cg (xs.getD 1 []) 2).toInt,(cg (xs.getD 1 []) 3).toBool,(cg (xs.getD 1 []) 4).toBool,(cg (xs.getD 1 []) 5).toInt,(cg (xs.getD 1 []) 6).toInt,(cg (xs.getD 1 []) 7).toInt,(cg (xs.getD 1 []) 8).toInt⟩:TDcb),((cg (xs.getD 1 []) 9).toSl.map ajm),(cg (xs.getD 1 []) 10).toInt⟩:aj4))) (fun a=>[[.str a.1.Serial,.int a.1.Cyls,.int a.1.Heads,.int a.1.Size,.slice (List.map aj3 a.1.Sets)],[.str a.2.Name,.int a.2.Dcb.Org,.int a.2.Dcb.Format,.bool a.2.Dcb.Blocked,.bool a.2.Dcb.Asa,.int a.2.Dcb.Lrecl,.int a.2.Dcb.Blksize,.int a.2.Dcb.KeyLen,.int a.2.Dcb.KeyPos,.slice (List.map aj1 a.2.Extents),.int a.2.Used]]) (fun a=>ayg n a.1 a.2) (fun r=>[.c .bool (.bool r)]) (fun r=>[])
theorem dkm (n:Nat):aj2 Tryz.prog (bk8 n):=by
 have hΓ:=g1 (dz2 n) (g1 (byh n) (g1 (dy1 n) (g1 (bw5 n) (g1 (djq n) (@g0 (aj2 Tryz.prog))))))
 refine aj8 (Tryz.f68.body.getD .skip) h00 Tryz.func68 rfl Tryz.call68 (by decide) (by intro _ r;exact ⟨rfl,by simp⟩) ?_
 rintro ⟨v,d⟩ r H
 try dsimp only at H
 unfold ayg at H
 simp only [Tryz.f68,Option.getD]
 refine rA ?_
 refine Sm.seqK fun K2 hK2=>?_
 obtain ⟨r1,hr1,H⟩:=bind_some H
 obtain ⟨⟨hg18,hg19,hg20⟩,H⟩:=aj7 H
 have q:=And.intro @bj1.eq_1 (And.intro @aw2.eq_1 (And.intro @bkn.eq_1 (And.intro @azn.eq_1 hr1)))
 refine rAq ?_
 refine cnd H (fun h4 H=>?_) (fun h4 H=>?_)
 ·refine rA ?_
  refine Sm.ret ?_
  refine lf ?_
  obtain rfl:=Option.some.inj H
  exact rt []
 refine Sm.skip ?_
 refine hK2 _ ?_
 refine Sm.cut (fun (x:Unit)=>cj8 d) (fun x=>aya n d=some r) ?_ ?_
 ·refine rA ?_
  refine Sm.block ?_
  obtain ⟨y8,hy8,Ho8⟩:=bind_some H
  refine Sm.loopB _ (fun x=>cjb v d (d.Extents.length:Int) x) hy8 (wb [some 32,some 48]) ?_
  rintro v33 z8 H
  try dsimp only at H
  unfold azj at H
  refine Sm.st (cjb.eq_1 ..) ?_
  refine rA ?_
  refine Sm.seqK fun K10 hK10=>?_
  refine cnd H (fun h11 H=>?_) (fun h11 H=>?_)
  ·refine Sm.skip ?_
   refine hK10 _ ?_
   refine Sm.seqK fun K12 hK12=>?_
   refine Sm.block ?_
   obtain ⟨hg17,H⟩:=aj7 H
   refine rA ?_
   refine rA ?_
   refine cnd H (fun h15 H=>?_) (fun h15 H=>?_)
   ·refine rA ?_
    refine Sm.ret ?_
    refine lf ?_
    refine lx H fun hyy=>?_
    subst hyy
    have H:=Ho8
    try dsimp only at H
    refine lf ?_
    obtain rfl:=Option.some.inj H
    exact rt []
   refine Sm.skip ?_
   refine hK12 _ ?_
   refine eA ?_
   refine lf ?_
   exact nx H (wb [some 9003,some 9004])
  refine Sm.exit ?_
  refine lf ?_
  refine lx H fun hyy=>?_
  subst hyy
  have H:=Ho8
  try dsimp only at H
  refine lf ?_
  exact ⟨(),H,wb [some 9004]⟩
 rintro ⟨⟩ H
 try dsimp only at H
 unfold aya at H
 refine Sm.st (cj8.eq_1 ..) ?_
 obtain ⟨r2,hr2,H⟩:=bind_some H
 obtain ⟨r3,hr3,H⟩:=bind_some H
 have q:=And.intro @bj1.eq_1 (And.intro @aw2.eq_1 (And.intro @bkn.eq_1 (And.intro @azn.eq_1 (And.intro @cqu.eq_1 (And.intro hr2 hr3)))))
 refine rDq ?_
 refine Sm.ret ?_
 refine lf ?_
 obtain rfl:=Option.some.inj H
 exact rt []
abbrev dq5 (used:List aj0):S:=stB [(3,.own 9000 [.int .i64,.int .i64] 0 used.length)] [(9000,.row 80 (List.map aj1 used))]
def bwe (n:Nat) (used:List aj0):Option Int :=
 (awl n used).bind fun r3 =>
 bif (!r3) then
  some 5
 else
  some 0
abbrev dw0 (v:aj5) (v54:Int) (used_1:List aj0) (v55:Int):S:=stB [(1,.box 9003 0),(3,.own 9004 [.int .i64,.int .i64] 0 used_1.length),(53,.c (.slice 41) (.slice (List.map aj3 v.Sets))),(54,.c (.int .i64) (.int v54)),(55,.c (.int .i64) (.int v55))] [(9003,.box [.c .str (.str v.Serial),.c (.int .i64) (.int v.Cyls),.c (.int .i64) (.int v.Heads),.c (.int .i64) (.int v.Size),.c (.slice 41) (.slice (List.map aj3 v.Sets))]),(9004,.row 80 (List.map aj1 used_1))]
def awc (n:Nat) (v:aj5) (v54:Int) (used_1:List aj0) (v55:Int):Option (((List aj0)×Int) ⊕ (((Int) ⊕ ((List aj0))))) :=
 bif (decide (v55 < v54)) then
  gd ((0≤v55∧v55 < (v.Sets.length:Int))) <|
  (ayg n v (gt v.Sets (Int.toNat v55))).bind fun r4 =>
  gd ((((!(!r4)) && (decide (v55 > 0)))=true→(0≤(IntKind.wrap .i64 (v55 - 1))∧(IntKind.wrap .i64 (v55 - 1)) < (v.Sets.length:Int)))) <|
  bif (if (!r4)=true then true else (if (decide (v55 > 0))=true then (!Op.bytesLess ((gt v.Sets (Int.toNat (IntKind.wrap .i64 (v55 - 1)))).Name) ((gt v.Sets (Int.toNat v55)).Name)) else false)) then
   some (.inr (.inl 5))
  else
   gd ((used_1.length+((gt v.Sets (Int.toNat v55)).Extents).length)≤2147483648) <|
   some (.inl ((used_1 ++ (gt v.Sets (Int.toNat v55)).Extents),(IntKind.wrap .i64 (v55+1))))
 else
  some (.inr (.inr used_1))
def awq (n:Nat) (v:aj5):Option Int :=
 (aqa n (v.Serial.length:Int) 1 6).bind fun r1 =>
 gd (((!(!r1))=true→(aqu n v.Serial [65,66,67,68,69,70,71,72,73,74,75,76,77,78,79,80,81,82,83,84,85,86,87,88,89,90,48,49,50,51,52,53,54,55,56,57]).isSome=true)) <|
 bif (if (!r1)=true then true else (((aqu n v.Serial [65,66,67,68,69,70,71,72,73,74,75,76,77,78,79,80,81,82,83,84,85,86,87,88,89,90,48,49,50,51,52,53,54,55,56,57]).getD default) != [])) then
  some 5
 else
  (aqa n v.Cyls 1 64).bind fun r2 =>
  gd (((!(!r2))=true→(aqa n v.Heads 1 8).isSome=true)∧((!(if (!r2)=true then true else (!((aqa n v.Heads 1 8).getD default))))=true→(aqa n v.Size 1 (IntKind.wrap .i64 ((IntKind.wrap .i64 (v.Cyls * v.Heads)) - 1))).isSome=true)) <|
  bif (if (if (!r2)=true then true else (!((aqa n v.Heads 1 8).getD default)))=true then true else (!((aqa n v.Size 1 (IntKind.wrap .i64 ((IntKind.wrap .i64 (v.Cyls * v.Heads)) - 1))).getD default))) then
   some 5
  else
   bif (decide ((v.Sets.length:Int) > (if (IntKind.wrap .i64 (14 * v.Size)) < 64 then (IntKind.wrap .i64 (14 * v.Size)) else 64))) then
    some 5
   else
    (ajj (fun (x:(List aj0)×Int)=>awc n v (v.Sets.length:Int) x.1 x.2) n ([(⟨0,(IntKind.wrap .i64 (v.Size+1))⟩:aj0)],0)).bind fun y21 =>
    match y21 with
    | .inl vv =>
     some vv
    | .inr vv =>
     bwe n vv
def ajq (n:Nat):Go.AE.Fn:=mkFn (A:=aj5) (R:=Int) 30 [(true,[.str,.int .i64,.int .i64,.int .i64,.slice 41])] false (fun xs=>(⟨(cg (xs.getD 0 []) 0).toStr,(cg (xs.getD 0 []) 1).toInt,(cg (xs.getD 0 []) 2).toInt,(cg (xs.getD 0 []) 3).toInt,((cg (xs.getD 0 []) 4).toSl.map aqd)⟩:aj5)) (fun a=>[[.str a.Serial,.int a.Cyls,.int a.Heads,.int a.Size,.slice (List.map aj3 a.Sets)]]) (fun a=>awq n a) (fun r=>[.c (.int .i64) (.int r)]) (fun r=>[])
theorem ayp (n:Nat):aj2 Tryz.prog (ajq n):=by
 have hΓ:=g1 (dy1 n) (g1 (dq8 n) (g1 (dkm n) (g1 (bw5 n) (@g0 (aj2 Tryz.prog)))))
 refine aj8 (Tryz.f30.body.getD .skip) h00 Tryz.func30 rfl Tryz.call30 (by decide) (by intro _ r;exact ⟨rfl,by simp⟩) ?_
 rintro v r H
 try dsimp only at H
 unfold awq at H
 simp only [Tryz.f30,Option.getD]
 refine rA ?_
 refine Sm.seqK fun K2 hK2=>?_
 obtain ⟨r1,hr1,H⟩:=bind_some H
 obtain ⟨hg36,H⟩:=aj7 H
 have q:=And.intro @bkn.eq_1 (And.intro @azl.eq_1 hr1)
 refine rAq ?_
 refine cnd H (fun h4 H=>?_) (fun h4 H=>?_)
 ·refine rA ?_
  refine Sm.ret ?_
  refine lf ?_
  obtain rfl:=Option.some.inj H
  exact rt []
 refine Sm.skip ?_
 refine hK2 _ ?_
 refine Sm.seqK fun K6 hK6=>?_
 obtain ⟨r2,hr2,H⟩:=bind_some H
 obtain ⟨⟨hg34,hg35⟩,H⟩:=aj7 H
 have q:=And.intro @bkn.eq_1 hr2
 refine rAq ?_
 refine cnd H (fun h8 H=>?_) (fun h8 H=>?_)
 ·refine rA ?_
  refine Sm.ret ?_
  refine lf ?_
  obtain rfl:=Option.some.inj H
  exact rt []
 refine Sm.skip ?_
 refine hK6 _ ?_
 refine Sm.seqK fun K10 hK10=>?_
 refine rA ?_
 refine cnd H (fun h12 H=>?_) (fun h12 H=>?_)
 ·refine rA ?_
  refine Sm.ret ?_
  refine lf ?_
  obtain rfl:=Option.some.inj H
  exact rt []
 refine Sm.skip ?_
 refine hK10 _ ?_
 refine rA ?_
 refine Sm.cut (fun (x:(List aj0))=>dq5 x) (fun x=>bwe n x=some r) ?_ ?_
 ·refine rA ?_
  refine Sm.block ?_
  obtain ⟨y21,hy21,Ho21⟩:=bind_some H
  refine Sm.loopB _ (fun x=>dw0 v (v.Sets.length:Int) x.1 x.2) hy21 (wb [some 16,some 816]) ?_
  rintro ⟨used_1,v55⟩ z21 H
  try dsimp only at H
  unfold awc at H
  refine Sm.st (dw0.eq_1 ..) ?_
  refine rA ?_
  refine Sm.seqK fun K23 hK23=>?_
  refine cnd H (fun h24 H=>?_) (fun h24 H=>?_)
  ·refine Sm.skip ?_
   refine hK23 _ ?_
   refine Sm.seqK fun K25 hK25=>?_
   refine Sm.block ?_
   obtain ⟨hg33,H⟩:=aj7 H
   refine rA ?_
   refine Sm.seqK fun K27 hK27=>?_
   obtain ⟨r4,hr4,H⟩:=bind_some H
   obtain ⟨hg32,H⟩:=aj7 H
   have q:=And.intro @bkn.eq_1 (And.intro @azl.eq_1 (And.intro @bk8.eq_1 hr4))
   refine rDq ?_
   refine cnd H (fun h29 H=>?_) (fun h29 H=>?_)
   ·refine rA ?_
    refine Sm.ret ?_
    refine lf ?_
    refine lx H fun hyy=>?_
    subst hyy
    have H:=Ho21
    try dsimp only at H
    refine lf ?_
    obtain rfl:=Option.some.inj H
    exact rt []
   refine Sm.skip ?_
   refine hK27 _ ?_
   obtain ⟨hg31,H⟩:=aj7 H
   refine eA ?_
   refine hK25 _ ?_
   refine eA ?_
   refine lf ?_
   exact nx H (wb [some 9003,some 1328])
  refine Sm.exit ?_
  refine lf ?_
  refine lx H fun hyy=>?_
  subst hyy
  have H:=Ho21
  try dsimp only at H
  refine lf ?_
  exact ⟨_,H,wb [some 9004]⟩
 rintro used H
 try dsimp only at H
 unfold bwe at H
 refine Sm.st (dq5.eq_1 ..) ?_
 refine Sm.seqK fun K15 hK15=>?_
 obtain ⟨r3,hr3,H⟩:=bind_some H
 have q:=And.intro @bkn.eq_1 (And.intro @azl.eq_1 (And.intro @bk8.eq_1 (And.intro @azn.eq_1 hr3)))
 refine rAq ?_
 refine cnd H (fun h17 H=>?_) (fun h17 H=>?_)
 ·refine rA ?_
  refine Sm.ret ?_
  refine lf ?_
  obtain rfl:=Option.some.inj H
  exact rt []
 refine Sm.skip ?_
 refine hK15 _ ?_
 refine rA ?_
 refine Sm.ret ?_
 refine lf ?_
 obtain rfl:=Option.some.inj H
 exact rt []
def dw2 (n:Nat) (serial:List UInt8) (cyls:Int) (heads:Int) (size:Int):Option (aj5×Int) :=
 (awq n (⟨serial,cyls,heads,size,[]⟩:aj5)).bind fun r1 =>
 bif (r1 != 0) then
  some ((⟨[],0,0,0,[]⟩:aj5),1)
 else
  some ((⟨serial,cyls,heads,size,[]⟩:aj5),0)
def ak7 (n:Nat):Go.AE.Fn:=mkFn (A:=(List UInt8)×Int×Int×Int) (R:=aj5×Int) 15 [(false,[.str]),(false,[.int .i64]),(false,[.int .i64]),(false,[.int .i64])] false (fun xs=>((cg (xs.getD 0 []) 0).toStr,(cg (xs.getD 1 []) 0).toInt,(cg (xs.getD 2 []) 0).toInt,(cg (xs.getD 3 []) 0).toInt)) (fun a=>[[.str a.1],[.int a.2.1],[.int a.2.2.1],[.int a.2.2.2]]) (fun a=>dw2 n a.1 a.2.1 a.2.2.1 a.2.2.2) (fun r=>[.agg [.c .str (.str r.1.Serial),.c (.int .i64) (.int r.1.Cyls),.c (.int .i64) (.int r.1.Heads),.c (.int .i64) (.int r.1.Size),.nilsl],.c (.int .i64) (.int r.2)]) (fun r=>[])
theorem ey6 (n:Nat):aj2 Tryz.prog (ak7 n):=by
 have hΓ:=g1 (ayp n) (@g0 (aj2 Tryz.prog))
 refine aj8 (Tryz.f15.body.getD .skip) h00 Tryz.func15 rfl Tryz.call15 (by decide) (by intro _ r;exact ⟨rfl,by simp⟩) ?_
 rintro ⟨serial,cyls,heads,size⟩ r H
 try dsimp only at H
 unfold dw2 at H
 simp only [Tryz.f15,Option.getD]
 refine rA ?_
 refine rA ?_
 refine Sm.seqK fun K3 hK3=>?_
 obtain ⟨r1,hr1,H⟩:=bind_some H
 have q:=And.intro @ajq.eq_1 hr1
 refine rAq ?_
 refine cnd H (fun h5 H=>?_) (fun h5 H=>?_)
 ·refine rA ?_
  refine Sm.ret ?_
  refine lf ?_
  obtain rfl:=Option.some.inj H
  exact rt []
 refine Sm.skip ?_
 refine hK3 _ ?_
 refine rA ?_
 refine Sm.ret ?_
 refine lf ?_
 obtain rfl:=Option.some.inj H
 exact rt []
def byp (n:Nat) (s:cyh):Option (aj5×Int) :=
 gd ((IntKind.wrap .i64 ((IntKind.wrap .i64 ((IntKind.wrap .i64 ((IntKind.wrap .i64 ((Int.tmod s.Cyls 4)))+1)) * (IntKind.wrap .i64 ((IntKind.wrap .i64 ((Int.tmod s.Heads 3)))+2)))) - 1))≠0) <|
 (dw2 n [86,49] (IntKind.wrap .i64 ((IntKind.wrap .i64 ((Int.tmod s.Cyls 4)))+1)) (IntKind.wrap .i64 ((IntKind.wrap .i64 ((Int.tmod s.Heads 3)))+2)) (IntKind.wrap .i64 ((Int.tmod (IntKind.wrap .i64 ((Int.tmod s.Size 2))) (IntKind.wrap .i64 ((IntKind.wrap .i64 ((IntKind.wrap .i64 ((IntKind.wrap .i64 ((Int.tmod s.Cyls 4)))+1)) * (IntKind.wrap .i64 ((IntKind.wrap .i64 ((Int.tmod s.Heads 3)))+2)))) - 1)))+1))).bind fun r1 =>
 some ((⟨r1.1.Serial,r1.1.Cyls,r1.1.Heads,r1.1.Size,[]⟩:aj5),r1.2)
def azf (n:Nat):Go.AE.Fn:=mkFn (A:=cyh) (R:=aj5×Int) 38 [(true,[.int .u8,.int .u8,.int .u8])] false (fun xs=>(⟨(cg (xs.getD 0 []) 0).toInt,(cg (xs.getD 0 []) 1).toInt,(cg (xs.getD 0 []) 2).toInt⟩:cyh)) (fun a=>[[.int a.Cyls,.int a.Heads,.int a.Size]]) (fun a=>byp n a) (fun r=>[.agg [.c .str (.str r.1.Serial),.c (.int .i64) (.int r.1.Cyls),.c (.int .i64) (.int r.1.Heads),.c (.int .i64) (.int r.1.Size),.nilsl],.c (.int .i64) (.int r.2)]) (fun r=>[])
theorem fj1 (n:Nat):aj2 Tryz.prog (azf n):=by
 have hΓ:=g1 (ey6 n) (@g0 (aj2 Tryz.prog))
 refine aj8 (Tryz.f38.body.getD .skip) h00 Tryz.func38 rfl Tryz.call38 (by decide) (by intro _ r;exact ⟨rfl,by simp⟩) ?_
 rintro s r H
 try dsimp only at H
 unfold byp at H
 simp only [Tryz.f38,Option.getD]
 refine rA ?_
 refine rA ?_
 refine rA ?_
 obtain ⟨hg5,H⟩:=aj7 H
 obtain ⟨r1,hr1,H⟩:=bind_some H
 have q:=And.intro @ak7.eq_1 hr1
 refine rAq ?_
 refine Sm.ret ?_
 refine lf ?_
 obtain rfl:=Option.some.inj H
 exact rt []
def cwa (n:Nat):Option TDcb :=
 some (⟨1,1,false,false,80,80,0,0⟩:TDcb)
def awj (n:Nat):Go.AE.Fn:=mkFn (A:=Unit) (R:=TDcb) 42 [] false (fun xs=>()) (fun a=>[]) (fun a=>cwa n) (fun r=>[.agg [.c (.int .i64) (.int r.Org),.c (.int .i64) (.int r.Format),.c .bool (.bool r.Blocked),.c .bool (.bool r.Asa),.c (.int .i64) (.int r.Lrecl),.c (.int .i64) (.int r.Blksize),.c (.int .i64) (.int r.KeyLen),.c (.int .i64) (.int r.KeyPos)]]) (fun r=>[])
theorem fjh (n:Nat):aj2 Tryz.prog (awj n):=by
 have hΓ:=@g0 (aj2 Tryz.prog)
 refine aj8 (Tryz.f42.body.getD .skip) h00 Tryz.func42 rfl Tryz.call42 (by decide) (by intro _ r;exact ⟨rfl,by simp⟩) ?_
 rintro ⟨⟩ r H
 try dsimp only at H
 unfold cwa at H
 simp only [Tryz.f42,Option.getD]
 refine rA ?_
 refine rA ?_
 refine Sm.ret ?_
 refine lf ?_
 obtain rfl:=Option.some.inj H
 exact rt []
def aqz (n:Nat) (d:aj4) (s:List UInt8):Option Int :=
 (strings_Compare n d.Name s).bind fun r1 =>
 some r1
def bq1 (n:Nat):Go.AE.Fn:=mkFn (A:=aj4×(List UInt8)) (R:=Int) 117 [(true,[.str,.int .i64,.int .i64,.bool,.bool,.int .i64,.int .i64,.int .i64,.int .i64,.slice 80,.int .i64]),(false,[.str])] false (fun xs=>((⟨(cg (xs.getD 0 []) 0).toStr,(⟨(cg (xs.getD 0 []) 1).toInt,(cg (xs.getD 0 []) 2).toInt,(cg (xs.getD 0 []) 3).toBool,(cg (xs.getD 0 []) 4).toBool,(cg (xs.getD 0 []) 5).toInt,(cg (xs.getD 0 []) 6).toInt,(cg (xs.getD 0 []) 7).toInt,(cg (xs.getD 0 []) 8).toInt⟩:TDcb),((cg (xs.getD 0 []) 9).toSl.map ajm),(cg (xs.getD 0 []) 10).toInt⟩:aj4),(cg (xs.getD 1 []) 0).toStr)) (fun a=>[[.str a.1.Name,.int a.1.Dcb.Org,.int a.1.Dcb.Format,.bool a.1.Dcb.Blocked,.bool a.1.Dcb.Asa,.int a.1.Dcb.Lrecl,.int a.1.Dcb.Blksize,.int a.1.Dcb.KeyLen,.int a.1.Dcb.KeyPos,.slice (List.map aj1 a.1.Extents),.int a.1.Used],[.str a.2]]) (fun a=>aqz n a.1 a.2) (fun r=>[.c (.int .i64) (.int r)]) (fun r=>[])
theorem djg (n:Nat):aj2 Tryz.prog (bq1 n):=by
 have hΓ:=g1 (dkh n) (@g0 (aj2 Tryz.prog))
 refine aj8 (Tryz.f117.body.getD .skip) h00 Tryz.func117 rfl Tryz.call117 (by decide) (by intro _ r;exact ⟨rfl,by simp⟩) ?_
 rintro ⟨d,s⟩ r H
 try dsimp only at H
 unfold aqz at H
 simp only [Tryz.f117,Option.getD]
 refine rA ?_
 obtain ⟨r1,hr1,H⟩:=bind_some H
 have q:=And.intro @akw.eq_1 hr1
 refine rAq ?_
 refine Sm.ret ?_
 refine lf ?_
 obtain rfl:=Option.some.inj H
 exact rt []
abbrev az8 (x_:List aj4) (target:List UInt8) (n_:Int) (i:Int):S:=stB [(0,.c (.slice 41) (.slice (List.map aj3 x_))),(1,.c .str (.str target)),(2,.fnv 117 []),(8,.c (.int .i64) (.int n_)),(9,.c (.int .i64) (.int i))] []
def aq8 (n:Nat) (x_:List aj4) (target:List UInt8) (n_:Int) (i:Int):Option (Int×Bool) :=
 gd (((decide (i < n_))=true→(0≤i∧i < (x_.length:Int)))∧((decide (i < n_))=true→(aqz n (gt x_ (Int.toNat i)) target).isSome=true)) <|
 some (i,(if (decide (i < n_))=true then (((aqz n (gt x_ (Int.toNat i)) target).getD default) == 0) else false))
abbrev az7 (x_:List aj4) (target:List UInt8) (n__1:Int) (i_1:Int) (j:Int):S:=stB [(0,.c (.slice 41) (.slice (List.map aj3 x_))),(1,.c .str (.str target)),(2,.fnv 117 []),(8,.c (.int .i64) (.int n__1)),(9,.c (.int .i64) (.int i_1)),(10,.c (.int .i64) (.int j))] []
def ajh (n:Nat) (x_:List aj4) (target:List UInt8) (n__1:Int) (i_1:Int) (j:Int):Option ((Int×Int) ⊕ ((Int))) :=
 bif (decide (i_1 < j)) then
  gd ((0≤(IntKind.wrap .i64 ((Int.fdiv (IntKind.wrap .u64 ((IntKind.wrap .i64 (i_1+j)))) (2 ^ min 1 (IntKind.bits .u64)))))∧(IntKind.wrap .i64 ((Int.fdiv (IntKind.wrap .u64 ((IntKind.wrap .i64 (i_1+j)))) (2 ^ min 1 (IntKind.bits .u64))))) < (x_.length:Int))) <|
  (aqz n (gt x_ (Int.toNat (IntKind.wrap .i64 ((Int.fdiv (IntKind.wrap .u64 ((IntKind.wrap .i64 (i_1+j)))) (2 ^ min 1 (IntKind.bits .u64))))))) target).bind fun r1 =>
  bif (decide (r1 < 0)) then
   some (.inl ((IntKind.wrap .i64 ((IntKind.wrap .i64 ((Int.fdiv (IntKind.wrap .u64 ((IntKind.wrap .i64 (i_1+j)))) (2 ^ min 1 (IntKind.bits .u64)))))+1)),j))
  else
   some (.inl (i_1,(IntKind.wrap .i64 ((Int.fdiv (IntKind.wrap .u64 ((IntKind.wrap .i64 (i_1+j)))) (2 ^ min 1 (IntKind.bits .u64)))))))
 else
  some (.inr i_1)
def aqh (n:Nat) (x_:List aj4) (target:List UInt8):Option (Int×Bool) :=
 (ajj (fun (x:Int×Int)=>ajh n x_ target (x_.length:Int) x.1 x.2) n (0,(x_.length:Int))).bind fun y7 =>
 aq8 n x_ target (x_.length:Int) y7
theorem bwr (n:Nat) (x_:List aj4) (target:List UInt8) (r:Int×Bool) (H:aqh n x_ target=some r):az6 Tryz.prog 116 [.dat (false,[.slice 41]) [.slice (List.map aj3 x_)],.dat (false,[.str]) [.str target],.ref (.fnv 117 [])] [] [.c (.int .i64) (.int r.1),.c .bool (.bool r.2)] []:=by
 have hΓ:=g1 (djg n) (@g0 (aj2 Tryz.prog))
 refine az2 (Tryz.f116.body.getD .skip) h00 Tryz.func116 rfl Tryz.call116 (Nat.le_of_ble_eq_true rfl) (Nat.le_of_ble_eq_true rfl) ?_
 unfold aqh at H
 simp only [Tryz.f116,Option.getD]
 refine rA ?_
 refine rA ?_
 refine rA ?_
 refine Sm.cut (fun (x:Int×Int)=>az8 x_ target x.1 x.2) (fun x=>aq8 n x_ target x.1 x.2=some r) ?_ ?_
 ·refine Sm.block ?_
  obtain ⟨y7,hy7,Ho7⟩:=bind_some H
  refine Sm.loopB _ (fun x=>az7 x_ target (x_.length:Int) x.1 x.2) hy7 (wb []) ?_
  rintro ⟨i_1,j⟩ z7 H
  try dsimp only at H
  unfold ajh at H
  refine Sm.st (az7.eq_1 ..) ?_
  refine Sm.seqK fun K8 hK8=>?_
  refine rA ?_
  refine cnd H (fun h10 H=>?_) (fun h10 H=>?_)
  ·refine Sm.skip ?_
   refine hK8 _ ?_
   refine Sm.block ?_
   refine sX fun K11 hK11=>?_
   iterate 4 refine oX ?_
   refine oE bzg ?_
   iterate 2 refine oX ?_
   refine hK11 _ ?_
   obtain ⟨hg14,H⟩:=aj7 H
   obtain ⟨r1,hr1,H⟩:=bind_some H
   have q:=And.intro @bq1.eq_1 hr1
   refine rAq ?_
   refine cnd H (fun h13 H=>?_) (fun h13 H=>?_)
   ·refine eA ?_
    refine lf ?_
    exact nx H (wb [])
   refine eA ?_
   refine lf ?_
   exact nx H (wb [])
  refine Sm.exit ?_
  refine lf ?_
  refine lx H fun hyy=>?_
  subst hyy
  have H:=Ho7
  try dsimp only at H
  refine lf ?_
  exact ⟨((x_.length:Int),i_1),H,wb []⟩
 rintro ⟨n_,i⟩ H
 try dsimp only at H
 unfold aq8 at H
 refine Sm.st (az8.eq_1 ..) ?_
 obtain ⟨⟨hg5,hg6⟩,H⟩:=aj7 H
 have q:=@bq1.eq_1
 refine rAq ?_
 refine Sm.ret ?_
 refine lf ?_
 obtain rfl:=Option.some.inj H
 exact rtM []
def ajy (n:Nat) (v:aj5) (name:List UInt8):Option (Int×Bool) :=
 (aqh n v.Sets name).bind fun r1 =>
 some (r1.1,r1.2)
def ajn (n:Nat):Go.AE.Fn:=mkFn (A:=aj5×(List UInt8)) (R:=Int×Bool) 56 [(true,[.str,.int .i64,.int .i64,.int .i64,.slice 41]),(false,[.str])] false (fun xs=>((⟨(cg (xs.getD 0 []) 0).toStr,(cg (xs.getD 0 []) 1).toInt,(cg (xs.getD 0 []) 2).toInt,(cg (xs.getD 0 []) 3).toInt,((cg (xs.getD 0 []) 4).toSl.map aqd)⟩:aj5),(cg (xs.getD 1 []) 0).toStr)) (fun a=>[[.str a.1.Serial,.int a.1.Cyls,.int a.1.Heads,.int a.1.Size,.slice (List.map aj3 a.1.Sets)],[.str a.2]]) (fun a=>ajy n a.1 a.2) (fun r=>[.c (.int .i64) (.int r.1),.c .bool (.bool r.2)]) (fun r=>[])
theorem aw8 (n:Nat):aj2 Tryz.prog (ajn n):=by
 have hΓ:=@g0 (aj2 Tryz.prog)
 refine aj8 (Tryz.f56.body.getD .skip) h00 Tryz.func56 rfl Tryz.call56 (by decide) (by intro _ r;exact ⟨rfl,by simp⟩) ?_
 rintro ⟨v,name⟩ r H
 try dsimp only at H
 unfold ajy at H
 simp only [Tryz.f56,Option.getD]
 refine rA ?_
 refine sX fun K2 hK2=>?_
 obtain ⟨r1,hr1,H⟩:=bind_some H
 have q:=hr1
 iterate 3 refine oX ?_
 refine oMq (bwr n _ _ r1 hr1) [] [] ?_
 iterate 4 refine oXq ?_
 refine hK2 _ ?_
 refine Sm.ret ?_
 refine lf ?_
 obtain rfl:=Option.some.inj H
 exact rt []
abbrev cym (out_1:List aj0):S:=stB [(5,.own 9001 [.int .i64,.int .i64] 0 out_1.length)] [(9001,.row 80 (List.map aj1 out_1))]
def bjf (n:Nat) (out_1:List aj0):Option (List aj0) :=
 some out_1
abbrev cyv (n_:Int) (out:List aj0) (at_:Int):S:=stB [(1,.c (.int .i64) (.int n_)),(5,.own 9000 [.int .i64,.int .i64] 0 out.length),(6,.c (.int .i64) (.int at_))] [(9000,.row 80 (List.map aj1 out))]
def ay1 (n:Nat) (n_:Int) (out:List aj0) (at_:Int):Option (List aj0) :=
 bif (decide (n_ > at_)) then
  gd ((out.length+1)≤2147483648) <|
  bjf n (out ++ [(⟨at_,(IntKind.wrap .i64 (n_ - at_))⟩:aj0)])
 else
  bjf n out
abbrev cyz (n_:Int) (out_3:List aj0) (at__2:Int) (v22:List aj0) (v23:Int) (v24:Int):S:=stB [(1,.c (.int .i64) (.int n_)),(5,.own 9004 [.int .i64,.int .i64] 0 out_3.length),(6,.c (.int .i64) (.int at__2)),(22,.c (.slice 80) (.slice (List.map aj1 v22))),(23,.c (.int .i64) (.int v23)),(24,.c (.int .i64) (.int v24))] [(9004,.row 80 (List.map aj1 out_3))]
def bz3 (n:Nat) (n_:Int) (out_3:List aj0) (at__2:Int) (v22:List aj0) (v23:Int) (v24:Int):Option (((List aj0)×Int×Int) ⊕ (((List aj0)×Int))) :=
 some (.inl (out_3,at__2,(IntKind.wrap .i64 (v24+1))))
abbrev cy5 (n_:Int) (out_4:List aj0) (x_:Int) (x__1:Int) (v22:List aj0) (v23:Int) (v24:Int):S:=stB [(1,.c (.int .i64) (.int n_)),(5,.own 9005 [.int .i64,.int .i64] 0 out_4.length),(8,.box 9006 0),(22,.c (.slice 80) (.slice (List.map aj1 v22))),(23,.c (.int .i64) (.int v23)),(24,.c (.int .i64) (.int v24))] [(9005,.row 80 (List.map aj1 out_4)),(9006,.box [.c (.int .i64) (.int x_),.c (.int .i64) (.int x__1)])]
def bje (n:Nat) (n_:Int) (out_4:List aj0) (x_:Int) (x__1:Int) (v22:List aj0) (v23:Int) (v24:Int):Option (((List aj0)×Int×Int) ⊕ (((List aj0)×Int))) :=
 bz3 n n_ out_4 (IntKind.wrap .i64 (x_+x__1)) v22 v23 v24
abbrev cy2 (n_:Int) (v22:List aj0) (v23:Int) (out_2:List aj0) (at__1:Int) (v24:Int):S:=stB [(1,.c (.int .i64) (.int n_)),(5,.own 9003 [.int .i64,.int .i64] 0 out_2.length),(6,.c (.int .i64) (.int at__1)),(22,.c (.slice 80) (.slice (List.map aj1 v22))),(23,.c (.int .i64) (.int v23)),(24,.c (.int .i64) (.int v24))] [(9003,.row 80 (List.map aj1 out_2))]
def azw (n:Nat) (n_:Int) (v22:List aj0) (v23:Int) (out_2:List aj0) (at__1:Int) (v24:Int):Option (((List aj0)×Int×Int) ⊕ (((List aj0)×Int))) :=
 bif (decide (v24 < v23)) then
  gd ((0≤v24∧v24 < (v22.length:Int))) <|
  bif (decide ((if n_ < ((gt v22 (Int.toNat v24)).At) then n_ else ((gt v22 (Int.toNat v24)).At)) > at__1)) then
   gd ((out_2.length+1)≤2147483648) <|
   bje n n_ (out_2 ++ [(⟨at__1,(IntKind.wrap .i64 ((if n_ < ((gt v22 (Int.toNat v24)).At) then n_ else ((gt v22 (Int.toNat v24)).At)) - at__1))⟩:aj0)]) ((gt v22 (Int.toNat v24)).At) ((gt v22 (Int.toNat v24)).Len) v22 v23 v24
  else
   bje n n_ out_2 ((gt v22 (Int.toNat v24)).At) ((gt v22 (Int.toNat v24)).Len) v22 v23 v24
 else
  some (.inr (out_2,at__1))
def by5 (n:Nat) (used:List aj0) (n_:Int):Option (List aj0) :=
 (awl n used).bind fun r1 =>
 bif (if (if (!r1)=true then true else (decide (n_ < 0)))=true then true else (decide (n_ > 512))) then
  some []
 else
  (bj9 n used).bind fun r2 =>
  (ajj (fun (x:(List aj0)×Int×Int)=>azw n n_ r2 (r2.length:Int) x.1 x.2.1 x.2.2) n ([],0,0)).bind fun y13 =>
  ay1 n n_ y13.1 y13.2
def dzm (n:Nat):Go.AE.Fn:=mkFn (A:=(List aj0)×Int) (R:=(List aj0)) 76 [(false,[.slice 80]),(false,[.int .i64])] false (fun xs=>(((cg (xs.getD 0 []) 0).toSl.map ajm),(cg (xs.getD 1 []) 0).toInt)) (fun a=>[[.slice (List.map aj1 a.1)],[.int a.2]]) (fun a=>by5 n a.1 a.2) (fun r=>[.own 0 [.int .i64,.int .i64] 0 r.length]) (fun r=>[.row 80 (List.map aj1 r)])
theorem fq6 (n:Nat):aj2 Tryz.prog (dzm n):=by
 have hΓ:=g1 (bw5 n) (g1 (cyw n) (@g0 (aj2 Tryz.prog)))
 refine aj8 (Tryz.f76.body.getD .skip) h00 Tryz.func76 rfl Tryz.call76 (by decide) (fun _ r=>⟨rfl,m1 ⟨80,_,_,rfl,ty80,rfl⟩ m0⟩) ?_
 rintro ⟨used,n_⟩ r H
 try dsimp only at H
 unfold by5 at H
 simp only [Tryz.f76,Option.getD]
 refine rA ?_
 refine Sm.seqK fun K2 hK2=>?_
 obtain ⟨r1,hr1,H⟩:=bind_some H
 have q:=And.intro @azn.eq_1 hr1
 refine rAq ?_
 refine cnd H (fun h4 H=>?_) (fun h4 H=>?_)
 ·refine rA ?_
  refine Sm.ret ?_
  refine lf ?_
  obtain rfl:=Option.some.inj H
  exact rto [none]
 refine Sm.skip ?_
 refine hK2 _ ?_
 refine rA ?_
 refine rA ?_
 refine Sm.cut (fun (x:(List aj0)×Int)=>cyv n_ x.1 x.2) (fun x=>ay1 n n_ x.1 x.2=some r) ?_ ?_
 ·obtain ⟨r2,hr2,H⟩:=bind_some H
  have q:=And.intro @azn.eq_1 (And.intro @cjp.eq_1 hr2)
  refine rAq ?_
  refine Sm.block ?_
  obtain ⟨y13,hy13,Ho13⟩:=bind_some H
  refine Sm.loopB _ (fun x=>cy2 n_ r2 (r2.length:Int) x.1 x.2.1 x.2.2) hy13 (wb [none]) ?_
  rintro ⟨out_2,at__1,v24⟩ z13 H
  try dsimp only at H
  unfold azw at H
  refine Sm.st (cy2.eq_1 ..) ?_
  refine rA ?_
  refine Sm.seqK fun K15 hK15=>?_
  refine cnd H (fun h16 H=>?_) (fun h16 H=>?_)
  ·refine Sm.skip ?_
   refine hK15 _ ?_
   refine Sm.cut (fun (x:(List aj0)×Int)=>cyz n_ x.1 x.2 r2 (r2.length:Int) v24) (fun x=>bz3 n n_ x.1 x.2 r2 (r2.length:Int) v24=some z13) ?_ ?_
   ·refine Sm.block ?_
    obtain ⟨hg22,H⟩:=aj7 H
    refine rA ?_
    refine Sm.cut (fun (x:(List aj0))=>cy5 n_ x ((gt r2 (Int.toNat v24)).At) ((gt r2 (Int.toNat v24)).Len) r2 (r2.length:Int) v24) (fun x=>bje n n_ x ((gt r2 (Int.toNat v24)).At) ((gt r2 (Int.toNat v24)).Len) r2 (r2.length:Int) v24=some z13) ?_ ?_
    ·refine rA ?_
     refine rA ?_
     refine cnd H (fun h20 H=>?_) (fun h20 H=>?_)
     ·obtain ⟨hg21,H⟩:=aj7 H
      refine eA ?_
      refine lf ?_
      exact ⟨_,H,wb [some 672,some 128]⟩
     refine Sm.skip ?_
     refine lf ?_
     exact ⟨_,H,wb [some 9003,some 128]⟩
    rintro out_4 H
    try dsimp only at H
    unfold bje at H
    refine Sm.st (cy5.eq_1 ..) ?_
    refine eA ?_
    refine lf ?_
    exact ⟨(out_4,(IntKind.wrap .i64 ((gt r2 (Int.toNat v24)).At+(gt r2 (Int.toNat v24)).Len))),H,wb [some 9005]⟩
   rintro ⟨out_3,at__2⟩ H
   try dsimp only at H
   unfold bz3 at H
   refine Sm.st (cyz.eq_1 ..) ?_
   refine eA ?_
   refine lf ?_
   exact nx H (wb [some 9004])
  refine Sm.exit ?_
  refine lf ?_
  refine lx H fun hyy=>?_
  subst hyy
  have H:=Ho13
  try dsimp only at H
  refine lf ?_
  exact ⟨(out_2,at__1),H,wb [some 9003]⟩
 rintro ⟨out,at_⟩ H
 try dsimp only at H
 unfold ay1 at H
 refine Sm.st (cyv.eq_1 ..) ?_
 refine Sm.cut (fun (x:(List aj0))=>cym x) (fun x=>bjf n x=some r) ?_ ?_
 ·refine rA ?_
  refine cnd H (fun h10 H=>?_) (fun h10 H=>?_)
  ·obtain ⟨hg11,H⟩:=aj7 H
   refine eA ?_
   refine lf ?_
   exact ⟨_,H,wb [some 944]⟩
  refine Sm.skip ?_
  refine lf ?_
  exact ⟨_,H,wb [some 9000]⟩
 rintro out_1 H
 try dsimp only at H
 unfold bjf at H
 refine Sm.st (cym.eq_1 ..) ?_
 refine rA ?_
 refine Sm.ret ?_
 refine lf ?_
 obtain rfl:=Option.some.inj H
 exact rto [some 9001]
abbrev dzi (v:aj5) (used:List aj0):S:=stB [(1,.box 9000 0),(3,.own 9001 [.int .i64,.int .i64] 0 used.length)] [(9000,.box [.c .str (.str v.Serial),.c (.int .i64) (.int v.Cyls),.c (.int .i64) (.int v.Heads),.c (.int .i64) (.int v.Size),.c (.slice 41) (.slice (List.map aj3 v.Sets))]),(9001,.row 80 (List.map aj1 used))]
def cje (n:Nat) (v:aj5) (used:List aj0):Option (List aj0) :=
 (by5 n used (IntKind.wrap .i64 (v.Cyls * v.Heads))).bind fun r2 =>
 some r2
abbrev dzx (v:aj5) (v16:Int) (used_1:List aj0) (v17:Int):S:=stB [(1,.box 9004 0),(3,.own 9005 [.int .i64,.int .i64] 0 used_1.length),(15,.c (.slice 41) (.slice (List.map aj3 v.Sets))),(16,.c (.int .i64) (.int v16)),(17,.c (.int .i64) (.int v17))] [(9004,.box [.c .str (.str v.Serial),.c (.int .i64) (.int v.Cyls),.c (.int .i64) (.int v.Heads),.c (.int .i64) (.int v.Size),.c (.slice 41) (.slice (List.map aj3 v.Sets))]),(9005,.row 80 (List.map aj1 used_1))]
def bqc (n:Nat) (v:aj5) (v16:Int) (used_1:List aj0) (v17:Int):Option (((List aj0)×Int) ⊕ (((List aj0)))) :=
 bif (decide (v17 < v16)) then
  gd ((0≤v17∧v17 < (v.Sets.length:Int))) <|
  gd ((used_1.length+((gt v.Sets (Int.toNat v17)).Extents).length)≤2147483648) <|
  some (.inl ((used_1 ++ (gt v.Sets (Int.toNat v17)).Extents),(IntKind.wrap .i64 (v17+1))))
 else
  some (.inr used_1)
def bwb (n:Nat) (v:aj5):Option (List aj0) :=
 (awq n v).bind fun r1 =>
 bif (r1 != 0) then
  some []
 else
  (ajj (fun (x:(List aj0)×Int)=>bqc n v (v.Sets.length:Int) x.1 x.2) n ([(⟨0,(IntKind.wrap .i64 (v.Size+1))⟩:aj0)],0)).bind fun y9 =>
  cje n v y9
def aw4 (n:Nat):Go.AE.Fn:=mkFn (A:=aj5) (R:=(List aj0)) 34 [(true,[.str,.int .i64,.int .i64,.int .i64,.slice 41])] false (fun xs=>(⟨(cg (xs.getD 0 []) 0).toStr,(cg (xs.getD 0 []) 1).toInt,(cg (xs.getD 0 []) 2).toInt,(cg (xs.getD 0 []) 3).toInt,((cg (xs.getD 0 []) 4).toSl.map aqd)⟩:aj5)) (fun a=>[[.str a.Serial,.int a.Cyls,.int a.Heads,.int a.Size,.slice (List.map aj3 a.Sets)]]) (fun a=>bwb n a) (fun r=>[.own 0 [.int .i64,.int .i64] 0 r.length]) (fun r=>[.row 80 (List.map aj1 r)])
theorem cq4 (n:Nat):aj2 Tryz.prog (aw4 n):=by
 have hΓ:=g1 (ayp n) (g1 (fq6 n) (@g0 (aj2 Tryz.prog)))
 refine aj8 (Tryz.f34.body.getD .skip) h00 Tryz.func34 rfl Tryz.call34 (by decide) (fun _ r=>⟨rfl,m1 ⟨80,_,_,rfl,ty80,rfl⟩ m0⟩) ?_
 rintro v r H
 try dsimp only at H
 unfold bwb at H
 simp only [Tryz.f34,Option.getD]
 refine rA ?_
 refine Sm.seqK fun K2 hK2=>?_
 obtain ⟨r1,hr1,H⟩:=bind_some H
 have q:=And.intro @ajq.eq_1 hr1
 refine rAq ?_
 refine cnd H (fun h4 H=>?_) (fun h4 H=>?_)
 ·refine rA ?_
  refine Sm.ret ?_
  refine lf ?_
  obtain rfl:=Option.some.inj H
  exact rto [none]
 refine Sm.skip ?_
 refine hK2 _ ?_
 refine rA ?_
 refine Sm.cut (fun (x:(List aj0))=>dzi v x) (fun x=>cje n v x=some r) ?_ ?_
 ·refine rA ?_
  refine Sm.block ?_
  obtain ⟨y9,hy9,Ho9⟩:=bind_some H
  refine Sm.loopB _ (fun x=>dzx v (v.Sets.length:Int) x.1 x.2) hy9 (wb [some 16,some 208]) ?_
  rintro ⟨used_1,v17⟩ z9 H
  try dsimp only at H
  unfold bqc at H
  refine Sm.st (dzx.eq_1 ..) ?_
  refine rA ?_
  refine Sm.seqK fun K11 hK11=>?_
  refine cnd H (fun h12 H=>?_) (fun h12 H=>?_)
  ·refine Sm.skip ?_
   refine hK11 _ ?_
   refine Sm.seqK fun K13 hK13=>?_
   refine Sm.block ?_
   obtain ⟨hg16,H⟩:=aj7 H
   refine rA ?_
   obtain ⟨hg15,H⟩:=aj7 H
   refine eA ?_
   refine hK13 _ ?_
   refine eA ?_
   refine lf ?_
   exact nx H (wb [some 9004,some 384])
  refine Sm.exit ?_
  refine lf ?_
  refine lx H fun hyy=>?_
  subst hyy
  have H:=Ho9
  try dsimp only at H
  refine lf ?_
  exact ⟨_,H,wb [some 9004,some 9005]⟩
 rintro used H
 try dsimp only at H
 unfold cje at H
 refine Sm.st (dzi.eq_1 ..) ?_
 obtain ⟨r2,hr2,H⟩:=bind_some H
 have q:=And.intro @ajq.eq_1 (And.intro @dzm.eq_1 hr2)
 refine rAq ?_
 refine Sm.ret ?_
 refine lf ?_
 obtain rfl:=Option.some.inj H
 exact rto [some 512]
abbrev ckd:S:=stB [] []
def bym (n:Nat):Option Bool :=
 some true
abbrev czp (n_:Int) (l:List aj0) (v9:Int) (end_:Int) (v10:Int):S:=stB [(1,.c (.int .i64) (.int n_)),(5,.c (.int .i64) (.int end_)),(8,.c (.slice 80) (.slice (List.map aj1 l))),(9,.c (.int .i64) (.int v9)),(10,.c (.int .i64) (.int v10))] []
def ak8 (n:Nat) (n_:Int) (l:List aj0) (v9:Int) (end_:Int) (v10:Int):Option ((Int×Int) ⊕ (((Bool) ⊕ (Unit)))) :=
 bif (decide (v10 < v9)) then
  gd ((0≤v10∧v10 < (l.length:Int))) <|
  (bqf n (gt l (Int.toNat v10))).bind fun r1 =>
  bif (if (if (!r1)=true then true else (decide (((gt l (Int.toNat v10)).At)≤end_)))=true then true else (decide ((IntKind.wrap .i64 (((gt l (Int.toNat v10)).At)+((gt l (Int.toNat v10)).Len))) > n_))) then
   some (.inr (.inl false))
  else
   some (.inl ((IntKind.wrap .i64 (((gt l (Int.toNat v10)).At)+((gt l (Int.toNat v10)).Len))),(IntKind.wrap .i64 (v10+1))))
 else
  some (.inr (.inr ()))
def bzu (n:Nat) (l:List aj0) (n_:Int):Option Bool :=
 (ajj (fun (x:Int×Int)=>ak8 n n_ l (l.length:Int) x.1 x.2) n ((-1),0)).bind fun y5 =>
 match y5 with
 | .inl vv =>
  some vv
 | .inr vv =>
  bym n
def cqv (n:Nat):Go.AE.Fn:=mkFn (A:=(List aj0)×Int) (R:=Bool) 137 [(false,[.slice 80]),(false,[.int .i64])] false (fun xs=>(((cg (xs.getD 0 []) 0).toSl.map ajm),(cg (xs.getD 1 []) 0).toInt)) (fun a=>[[.slice (List.map aj1 a.1)],[.int a.2]]) (fun a=>bzu n a.1 a.2) (fun r=>[.c .bool (.bool r)]) (fun r=>[])
theorem ekv (n:Nat):aj2 Tryz.prog (cqv n):=by
 have hΓ:=g1 (dql n) (@g0 (aj2 Tryz.prog))
 refine aj8 (Tryz.f137.body.getD .skip) h00 Tryz.func137 rfl Tryz.call137 (by decide) (by intro _ r;exact ⟨rfl,by simp⟩) ?_
 rintro ⟨l,n_⟩ r H
 try dsimp only at H
 unfold bzu at H
 simp only [Tryz.f137,Option.getD]
 refine rA ?_
 refine rA ?_
 refine Sm.cut (fun (x:Unit)=>ckd) (fun x=>bym n=some r) ?_ ?_
 ·refine rA ?_
  refine Sm.block ?_
  obtain ⟨y5,hy5,Ho5⟩:=bind_some H
  refine Sm.loopB _ (fun x=>czp n_ l (l.length:Int) x.1 x.2) hy5 (wb []) ?_
  rintro ⟨end_,v10⟩ z5 H
  try dsimp only at H
  unfold ak8 at H
  refine Sm.st (czp.eq_1 ..) ?_
  refine rA ?_
  refine Sm.seqK fun K7 hK7=>?_
  refine cnd H (fun h8 H=>?_) (fun h8 H=>?_)
  ·refine Sm.skip ?_
   refine hK7 _ ?_
   refine Sm.seqK fun K9 hK9=>?_
   refine Sm.block ?_
   obtain ⟨hg15,H⟩:=aj7 H
   refine rA ?_
   refine Sm.seqK fun K11 hK11=>?_
   obtain ⟨r1,hr1,H⟩:=bind_some H
   have q:=And.intro @bks.eq_1 hr1
   refine rAq ?_
   refine cnd H (fun h13 H=>?_) (fun h13 H=>?_)
   ·refine rA ?_
    refine Sm.ret ?_
    refine lf ?_
    refine lx H fun hyy=>?_
    subst hyy
    have H:=Ho5
    try dsimp only at H
    refine lf ?_
    obtain rfl:=Option.some.inj H
    exact rt []
   refine Sm.skip ?_
   refine hK11 _ ?_
   refine eA ?_
   refine hK9 _ ?_
   refine eA ?_
   refine lf ?_
   exact nx H (wb [])
  refine Sm.exit ?_
  refine lf ?_
  refine lx H fun hyy=>?_
  subst hyy
  have H:=Ho5
  try dsimp only at H
  refine lf ?_
  exact ⟨(),H,wb []⟩
 rintro ⟨⟩ H
 try dsimp only at H
 unfold bym at H
 refine Sm.st (ckd.eq_1 ..) ?_
 refine rA ?_
 refine Sm.ret ?_
 refine lf ?_
 obtain rfl:=Option.some.inj H
 exact rt []
def bzz (n:Nat) (s:List aj0) (i:Int) (j:Int):Option (Nat×(List aj0)) :=
 gd ((0≤i∧i≤j∧j≤((s.length:Nat):Int)∧((s.length:Nat):Int)≤(s.length:Int))) <|
 bif (i == j) then
  some (s.length,s)
 else
  gd ((0≤i∧i≤(s.length:Int))∧(0≤j∧j≤(s.length:Int)∧(s.length:Int)≤(s.length:Int))∧((Int.toNat (i - 0))+(List.take (Int.toNat ((s.length:Int) - j)) (List.drop (Int.toNat j) s)).length)≤s.length) <|
  gd ((0≤((((Int.toNat (i - 0))+(List.take (Int.toNat ((s.length:Int) - j)) (List.drop (Int.toNat j) s)).length):Nat):Int)∧((((Int.toNat (i - 0))+(List.take (Int.toNat ((s.length:Int) - j)) (List.drop (Int.toNat j) s)).length):Nat):Int)≤((s.length:Nat):Int)∧((s.length:Nat):Int)≤(s.length:Int))∧(((Int.toNat (i - 0))+(List.take (Int.toNat ((s.length:Int) - j)) (List.drop (Int.toNat j) s)).length)+(Int.toNat (((s.length:Nat):Int) - ((((Int.toNat (i - 0))+(List.take (Int.toNat ((s.length:Int) - j)) (List.drop (Int.toNat j) s)).length):Nat):Int))))≤s.length) <|
  some (((Int.toNat (i - 0))+(List.take (Int.toNat ((s.length:Int) - j)) (List.drop (Int.toNat j) s)).length),(bkl (bkl s (Int.toNat (i - 0)) (List.take (Int.toNat ((s.length:Int) - j)) (List.drop (Int.toNat j) s))) ((Int.toNat (i - 0))+(List.take (Int.toNat ((s.length:Int) - j)) (List.drop (Int.toNat j) s)).length) (ak0 (Int.toNat (((s.length:Nat):Int) - ((((Int.toNat (i - 0))+(List.take (Int.toNat ((s.length:Int) - j)) (List.drop (Int.toNat j) s)).length):Nat):Int))) (⟨0,0⟩:aj0))))
theorem ey1 (n:Nat) (s:List aj0) (i:Int) (j:Int) (r:Nat×(List aj0)) (H:bzz n s i j=some r):az6 Tryz.prog 138 [.ref (.own 0 [.int .i64,.int .i64] 0 s.length),.dat (false,[.int .i64]) [.int i],.dat (false,[.int .i64]) [.int j]] [.row 80 (List.map aj1 s)] [.own 0 [.int .i64,.int .i64] 0 r.1] [.row 80 (List.map aj1 r.2)]:=by
 have hΓ:=@g0 (aj2 Tryz.prog)
 refine az2 (Tryz.f138.body.getD .skip) h00 Tryz.func138 rfl Tryz.call138 (Nat.le_of_ble_eq_true rfl) (Nat.le_of_ble_eq_true rfl) ?_
 unfold bzz at H
 simp only [Tryz.f138,Option.getD]
 refine rA ?_
 refine sX fun K2 hK2=>?_
 obtain ⟨hg3,H⟩:=aj7 H
 iterate 5 refine oX ?_
 refine oY ?_
 refine hK2 _ ?_
 refine Sm.seqK fun K4 hK4=>?_
 refine rA ?_
 refine cnd H (fun h6 H=>?_) (fun h6 H=>?_)
 ·refine rA ?_
  refine Sm.ret ?_
  refine lf ?_
  obtain rfl:=Option.some.inj H
  exact rtM [some 0]
 refine Sm.skip ?_
 refine hK4 _ ?_
 refine rA ?_
 obtain ⟨⟨hg14,hg15,hg16⟩,H⟩:=aj7 H
 refine rD ?_
 refine sX fun K10 hK10=>?_
 obtain ⟨⟨hg11,hg12⟩,H⟩:=aj7 H
 iterate 5 refine oX ?_
 refine oY ?_
 refine hK10 _ ?_
 refine rA ?_
 refine Sm.ret ?_
 refine lf ?_
 obtain rfl:=Option.some.inj H
 exact rtM [some 0]
def aqt (n:Nat) (s:List aj0) (s_l:Nat) (i:Int) (j:Int):Option (Nat×(List aj0)) :=
 gd ((0≤i∧i≤j∧j≤((s_l:Nat):Int)∧((s_l:Nat):Int)≤(s_l:Int))) <|
 bif (i == j) then
  some (s_l,s)
 else
  gd ((0≤i∧i≤(s.length:Int))∧(0≤j∧j≤(s_l:Int)∧(s_l:Int)≤(s.length:Int))∧((Int.toNat (i - 0))+(List.take (Int.toNat ((s_l:Int) - j)) (List.drop (Int.toNat j) s)).length)≤s.length) <|
  gd ((0≤((((Int.toNat (i - 0))+(List.take (Int.toNat ((s_l:Int) - j)) (List.drop (Int.toNat j) s)).length):Nat):Int)∧((((Int.toNat (i - 0))+(List.take (Int.toNat ((s_l:Int) - j)) (List.drop (Int.toNat j) s)).length):Nat):Int)≤((s_l:Nat):Int)∧((s_l:Nat):Int)≤(s.length:Int))∧(((Int.toNat (i - 0))+(List.take (Int.toNat ((s_l:Int) - j)) (List.drop (Int.toNat j) s)).length)+(Int.toNat (((s_l:Nat):Int) - ((((Int.toNat (i - 0))+(List.take (Int.toNat ((s_l:Int) - j)) (List.drop (Int.toNat j) s)).length):Nat):Int))))≤s.length) <|
  some (((Int.toNat (i - 0))+(List.take (Int.toNat ((s_l:Int) - j)) (List.drop (Int.toNat j) s)).length),(bkl (bkl s (Int.toNat (i - 0)) (List.take (Int.toNat ((s_l:Int) - j)) (List.drop (Int.toNat j) s))) ((Int.toNat (i - 0))+(List.take (Int.toNat ((s_l:Int) - j)) (List.drop (Int.toNat j) s)).length) (ak0 (Int.toNat (((s_l:Nat):Int) - ((((Int.toNat (i - 0))+(List.take (Int.toNat ((s_l:Int) - j)) (List.drop (Int.toNat j) s)).length):Nat):Int))) (⟨0,0⟩:aj0))))
theorem bwt (n:Nat) (s:List aj0) (s_l:Nat) (i:Int) (j:Int) (r:Nat×(List aj0)) (H:aqt n s s_l i j=some r):az6 Tryz.prog 138 [.ref (.own 0 [.int .i64,.int .i64] 0 s_l),.dat (false,[.int .i64]) [.int i],.dat (false,[.int .i64]) [.int j]] [.row 80 (List.map aj1 s)] [.own 0 [.int .i64,.int .i64] 0 r.1] [.row 80 (List.map aj1 r.2)]:=by
 have hΓ:=@g0 (aj2 Tryz.prog)
 refine az2 (Tryz.f138.body.getD .skip) h00 Tryz.func138 rfl Tryz.call138 (Nat.le_of_ble_eq_true rfl) (Nat.le_of_ble_eq_true rfl) ?_
 unfold aqt at H
 simp only [Tryz.f138,Option.getD]
 refine rA ?_
 refine sX fun K2 hK2=>?_
 obtain ⟨hg3,H⟩:=aj7 H
 iterate 5 refine oX ?_
 refine oY ?_
 refine hK2 _ ?_
 refine Sm.seqK fun K4 hK4=>?_
 refine rA ?_
 refine cnd H (fun h6 H=>?_) (fun h6 H=>?_)
 ·refine rA ?_
  refine Sm.ret ?_
  refine lf ?_
  obtain rfl:=Option.some.inj H
  exact rtM [some 0]
 refine Sm.skip ?_
 refine hK4 _ ?_
 refine rA ?_
 obtain ⟨⟨hg14,hg15,hg16⟩,H⟩:=aj7 H
 refine rD ?_
 refine sX fun K10 hK10=>?_
 obtain ⟨⟨hg11,hg12⟩,H⟩:=aj7 H
 iterate 5 refine oX ?_
 refine oY ?_
 refine hK10 _ ?_
 refine rA ?_
 refine Sm.ret ?_
 refine lf ?_
 obtain rfl:=Option.some.inj H
 exact rtM [some 0]
abbrev cy4:S:=stB [] []
def cjw (n:Nat):Option ((List aj0)×(List aj0)×Int) :=
 some ([],[],200)
abbrev dj3 (want_1:Int) (most:Int) (got:List aj0) (rest:List aj0) (rest_2:Nat) (longest:Int):S:=stB [(1,.c (.int .i64) (.int want_1)),(2,.c (.int .i64) (.int most)),(6,.own 9005 [.int .i64,.int .i64] 0 got.length),(7,.own 9006 [.int .i64,.int .i64] 0 rest_2),(9,.c (.int .i64) (.int longest))] [(9005,.row 80 (List.map aj1 got)),(9006,.row 80 (List.map aj1 rest))]
def bjk (n:Nat) (want_1:Int) (most:Int) (got:List aj0) (rest:List aj0) (rest_2:Nat) (longest:Int):Option ((Int×(List aj0)×(List aj0)×Nat) ⊕ ((((List aj0)×(List aj0)×Int) ⊕ (Unit)))) :=
 gd ((0≤longest∧longest < (rest_2:Int))∧(Int.toNat longest) < rest.length∧(got.length+1)≤2147483648) <|
 gd ((0≤longest∧longest < (rest_2:Int))∧(Int.toNat longest) < rest.length) <|
 (aqt n rest rest_2 longest (IntKind.wrap .i64 (longest+1))).bind fun r3 =>
 some (.inl ((IntKind.wrap .i64 (want_1 - ((gt rest (Int.toNat longest)).Len))),(got ++ [(gt rest (Int.toNat longest))]),r3.2,r3.1))
abbrev cy6 (want_1:Int) (most:Int) (got:List aj0) (rest:List aj0) (rest_4:Nat) (longest_2:Int) (v35:Int) (v36:Int):S:=stB [(1,.c (.int .i64) (.int want_1)),(2,.c (.int .i64) (.int most)),(6,.own 9013 [.int .i64,.int .i64] 0 got.length),(7,.own 9014 [.int .i64,.int .i64] 0 rest_4),(9,.c (.int .i64) (.int longest_2)),(34,.own 9014 [.int .i64,.int .i64] 0 rest_4),(35,.c (.int .i64) (.int v35)),(36,.c (.int .i64) (.int v36))] [(9013,.row 80 (List.map aj1 got)),(9014,.row 80 (List.map aj1 rest))]
def bjh (n:Nat) (want_1:Int) (most:Int) (got:List aj0) (rest:List aj0) (rest_4:Nat) (longest_2:Int) (v35:Int) (v36:Int):Option ((Nat×Int×Int) ⊕ ((((List aj0)×(List aj0)×Int) ⊕ (Nat×Int)))) :=
 some (.inl (rest_4,longest_2,(IntKind.wrap .i64 (v36+1))))
abbrev cyl (want_1:Int) (most:Int) (got:List aj0) (rest:List aj0) (v35:Int) (rest_3:Nat) (longest_1:Int) (v36:Int):S:=stB [(1,.c (.int .i64) (.int want_1)),(2,.c (.int .i64) (.int most)),(6,.own 9011 [.int .i64,.int .i64] 0 got.length),(7,.own 9012 [.int .i64,.int .i64] 0 rest_3),(9,.c (.int .i64) (.int longest_1)),(34,.own 9012 [.int .i64,.int .i64] 0 rest_3),(35,.c (.int .i64) (.int v35)),(36,.c (.int .i64) (.int v36))] [(9011,.row 80 (List.map aj1 got)),(9012,.row 80 (List.map aj1 rest))]
def azt (n:Nat) (want_1:Int) (most:Int) (got:List aj0) (rest:List aj0) (v35:Int) (rest_3:Nat) (longest_1:Int) (v36:Int):Option ((Nat×Int×Int) ⊕ ((((List aj0)×(List aj0)×Int) ⊕ (Nat×Int)))) :=
 bif (decide (v36 < v35)) then
  gd ((0≤v36∧v36 < (rest_3:Int))∧(Int.toNat v36) < rest.length) <|
  bif (decide (((gt rest (Int.toNat v36)).Len) > want_1)) then
   gd ((got.length+1)≤2147483648) <|
   gd ((0≤v36∧v36 < (rest_3:Int))∧(Int.toNat v36) < rest.length) <|
   some (.inr (.inl ((got ++ [(⟨(gt rest (Int.toNat v36)).At,want_1⟩:aj0)]),(List.take rest_3 (List.set rest (Int.toNat v36) (⟨(IntKind.wrap .i64 (((gt rest (Int.toNat v36)).At)+want_1)),(IntKind.wrap .i64 (((gt rest (Int.toNat v36)).Len) - want_1))⟩:aj0))),0)))
  else
   bif (((gt rest (Int.toNat v36)).Len) == want_1) then
    gd ((got.length+1)≤2147483648) <|
    (aqt n rest rest_3 v36 (IntKind.wrap .i64 (v36+1))).bind fun r4 =>
    some (.inr (.inl ((got ++ [(gt rest (Int.toNat v36))]),(List.take r4.1 r4.2),0)))
   else
    gd ((0≤longest_1∧longest_1 < (rest_3:Int))∧(Int.toNat longest_1) < rest.length) <|
    bif (decide (((gt rest (Int.toNat v36)).Len) > ((gt rest (Int.toNat longest_1)).Len))) then
     bjh n want_1 most got rest rest_3 v36 v35 v36
    else
     bjh n want_1 most got rest rest_3 longest_1 v35 v36
 else
  some (.inr (.inr (rest_3,longest_1)))
abbrev dj1 (most:Int) (want_1:Int) (got:List aj0) (rest:List aj0) (rest_1:Nat):S:=stB [(1,.c (.int .i64) (.int want_1)),(2,.c (.int .i64) (.int most)),(6,.own 9003 [.int .i64,.int .i64] 0 got.length),(7,.own 9004 [.int .i64,.int .i64] 0 rest_1)] [(9003,.row 80 (List.map aj1 got)),(9004,.row 80 (List.map aj1 rest))]
def aq4 (n:Nat) (most:Int) (want_1:Int) (got:List aj0) (rest:List aj0) (rest_1:Nat):Option ((Int×(List aj0)×(List aj0)×Nat) ⊕ ((((List aj0)×(List aj0)×Int) ⊕ (Unit)))) :=
 bif (if (decide (((got.length:Nat):Int) < most))=true then (decide (((rest_1:Nat):Int) > 0)) else false) then
  (ajj (fun (x:Nat×Int×Int)=>azt n want_1 most got rest ((rest_1:Nat):Int) x.1 x.2.1 x.2.2) n (rest_1,0,0)).bind fun y23 =>
  match y23 with
  | .inl vv =>
   some (.inr (.inl (vv.1,vv.2.1,vv.2.2)))
  | .inr vv =>
   bjk n want_1 most got rest vv.1 vv.2
 else
  some (.inr (.inr ()))
def az5 (n:Nat) (free:List aj0) (want:Int) (most:Int):Option ((List aj0)×(List aj0)×Int) :=
 (bzu n free 512).bind fun r1 =>
 bif (if (if (!r1)=true then true else (decide (want < 1)))=true then true else (decide (most < 1))) then
  some ([],[],1)
 else
  (az0 n free).bind fun r2 =>
  (ajj (fun (x:Int×(List aj0)×(List aj0)×Nat)=>aq4 n most x.1 x.2.1 x.2.2.1 x.2.2.2) n (want,[],r2,r2.length)).bind fun y9 =>
  match y9 with
  | .inl vv =>
   some (vv.1,vv.2.1,vv.2.2)
  | .inr vv =>
   cjw n
def bk6 (n:Nat):Go.AE.Fn:=mkFn (A:=(List aj0)×Int×Int) (R:=(List aj0)×(List aj0)×Int) 85 [(false,[.slice 80]),(false,[.int .i64]),(false,[.int .i64])] true (fun xs=>(((cg (xs.getD 0 []) 0).toSl.map ajm),(cg (xs.getD 1 []) 0).toInt,(cg (xs.getD 2 []) 0).toInt)) (fun a=>[[.slice (List.map aj1 a.1)],[.int a.2.1],[.int a.2.2]]) (fun a=>az5 n a.1 a.2.1 a.2.2) (fun r=>[.own 0 [.int .i64,.int .i64] 0 r.1.length,.c (.slice 80) (.slice (List.map aj1 r.2.1)),.c (.int .i64) (.int r.2.2)]) (fun r=>[.row 80 (List.map aj1 r.1)])
theorem ck8 (n:Nat):aj2 Tryz.prog (bk6 n):=by
 have hΓ:=g1 (ekv n) (g1 (ayb n) (@g0 (aj2 Tryz.prog)))
 refine aj8 (Tryz.f85.body.getD .skip) h00 Tryz.func85 rfl Tryz.call85 (by decide) (by intro h;cases h) ?_
 rintro ⟨free,want,most⟩ r H
 try dsimp only at H
 unfold az5 at H
 simp only [Tryz.f85,Option.getD]
 refine rA ?_
 refine Sm.scope ?_
 refine Sm.seqK fun K2 hK2=>?_
 obtain ⟨r1,hr1,H⟩:=bind_some H
 have q:=And.intro @cqv.eq_1 hr1
 refine rAq ?_
 refine cnd H (fun h4 H=>?_) (fun h4 H=>?_)
 ·refine rA ?_
  refine Sm.ret ?_
  refine lf ?_
  obtain rfl:=Option.some.inj H
  exact rto [none]
 refine Sm.skip ?_
 refine hK2 _ ?_
 obtain ⟨r2,hr2,H⟩:=bind_some H
 have q:=And.intro @cqv.eq_1 (And.intro @awm.eq_1 hr2)
 refine rAq ?_
 refine Sm.seqK fun K7 hK7=>?_
 refine Sm.of (Γ:=[]) h00 mixed (by simp) rfl ?_
 refine hK7 _ ?_
 refine Sm.cut (fun (x:Unit)=>cy4) (fun x=>cjw n=some r) ?_ ?_
 ·refine Sm.block ?_
  obtain ⟨y9,hy9,Ho9⟩:=bind_some H
  refine Sm.loopB _ (fun x=>dj1 most x.1 x.2.1 x.2.2.1 x.2.2.2) hy9 (wb [none,some 384]) ?_
  rintro ⟨want_1,got,rest,rest_1⟩ z9 H
  try dsimp only at H
  unfold aq4 at H
  refine Sm.st (dj1.eq_1 ..) ?_
  refine Sm.seqK fun K10 hK10=>?_
  refine rA ?_
  refine cnd H (fun h12 H=>?_) (fun h12 H=>?_)
  ·refine Sm.skip ?_
   refine hK10 _ ?_
   refine Sm.block ?_
   refine rA ?_
   refine Sm.cut (fun (x:Nat×Int)=>dj3 want_1 most got rest x.1 x.2) (fun x=>bjk n want_1 most got rest x.1 x.2=some z9) ?_ ?_
   ·refine rA ?_
    refine Sm.block ?_
    obtain ⟨y23,hy23,Ho23⟩:=bind_some H
    refine Sm.loopB _ (fun x=>cyl want_1 most got rest ((rest_1:Nat):Int) x.1 x.2.1 x.2.2) hy23 (wb [some 9003,some 9004]) ?_
    rintro ⟨rest_3,longest_1,v36⟩ z23 H
    try dsimp only at H
    unfold azt at H
    refine Sm.st (cyl.eq_1 ..) ?_
    refine rA ?_
    refine Sm.seqK fun K25 hK25=>?_
    refine cnd H (fun h26 H=>?_) (fun h26 H=>?_)
    ·refine Sm.skip ?_
     refine hK25 _ ?_
     refine Sm.cut (fun (x:Int)=>cy6 want_1 most got rest rest_3 x ((rest_1:Nat):Int) v36) (fun x=>bjh n want_1 most got rest rest_3 x ((rest_1:Nat):Int) v36=some z23) ?_ ?_
     ·refine Sm.block ?_
      obtain ⟨⟨hg47,hg48⟩,H⟩:=aj7 H
      refine rA ?_
      refine Sm.seqK fun K28 hK28=>?_
      refine rA ?_
      refine cnd H (fun h30 H=>?_) (fun h30 H=>?_)
      ·obtain ⟨hg36,H⟩:=aj7 H
       refine rA ?_
       obtain ⟨⟨hg34,hg35⟩,H⟩:=aj7 H
       refine rA ?_
       refine rA ?_
       refine Sm.ret ?_
       refine lf ?_
       refine lx H fun hyy=>?_
       subst hyy
       have H:=Ho23
       try dsimp only at H
       refine lf ?_
       refine lx H fun hyy=>?_
       subst hyy
       have H:=Ho9
       try dsimp only at H
       refine lf ?_
       obtain rfl:=Option.some.inj H
       exact rto [some 816]
      refine Sm.skip ?_
      refine hK28 _ ?_
      refine Sm.seqK fun K37 hK37=>?_
      refine rA ?_
      refine cnd H (fun h39 H=>?_) (fun h39 H=>?_)
      ·obtain ⟨hg42,H⟩:=aj7 H
       refine rA ?_
       refine sX fun K41 hK41=>?_
       obtain ⟨r4,hr4,H⟩:=bind_some H
       have q:=hr4
       iterate 5 refine oX ?_
       refine oMq (bwt n _ _ _ _ r4 hr4) [9012] [] ?_
       iterate 3 refine oXq ?_
       refine hK41 _ ?_
       refine Sm.ret ?_
       refine lf ?_
       refine lx H fun hyy=>?_
       subst hyy
       have H:=Ho23
       try dsimp only at H
       refine lf ?_
       refine lx H fun hyy=>?_
       subst hyy
       have H:=Ho9
       try dsimp only at H
       refine lf ?_
       obtain rfl:=Option.some.inj H
       exact rto [some 1168]
      refine Sm.skip ?_
      refine hK37 _ ?_
      obtain ⟨⟨hg45,hg46⟩,H⟩:=aj7 H
      refine rD ?_
      refine cnd H (fun h44 H=>?_) (fun h44 H=>?_)
      ·refine eA ?_
       refine lf ?_
       exact ⟨_,H,wb [some 9011,some 9012]⟩
      refine Sm.skip ?_
      refine lf ?_
      exact ⟨_,H,wb [some 9011,some 9012]⟩
     rintro longest_2 H
     try dsimp only at H
     unfold bjh at H
     refine Sm.st (cy6.eq_1 ..) ?_
     refine eA ?_
     refine lf ?_
     exact nx H (wb [some 9013,some 9014])
    refine Sm.exit ?_
    refine lf ?_
    refine lx H fun hyy=>?_
    subst hyy
    have H:=Ho23
    try dsimp only at H
    refine lf ?_
    exact ⟨(rest_3,longest_1),H,wb [some 9011,some 9012]⟩
   rintro ⟨rest_2,longest⟩ H
   try dsimp only at H
   unfold bjk at H
   refine Sm.st (dj3.eq_1 ..) ?_
   obtain ⟨⟨hg19,hg20,hg21⟩,H⟩:=aj7 H
   refine rA ?_
   obtain ⟨⟨hg17,hg18⟩,H⟩:=aj7 H
   refine rA ?_
   refine sX fun K16 hK16=>?_
   obtain ⟨r3,hr3,H⟩:=bind_some H
   have q:=hr3
   iterate 4 refine oX ?_
   refine oMq (bwt n _ _ _ _ r3 hr3) [9006] [] ?_
   refine oXq ?_
   refine hK16 _ ?_
   refine Sm.exit ?_
   refine lf ?_
   exact nx H (wb [some 1536,some 9006])
  refine Sm.exit ?_
  refine lf ?_
  refine lx H fun hyy=>?_
  subst hyy
  have H:=Ho9
  try dsimp only at H
  refine lf ?_
  exact ⟨(),H,wb []⟩
 rintro ⟨⟩ H
 try dsimp only at H
 unfold cjw at H
 refine Sm.st (cy4.eq_1 ..) ?_
 refine rA ?_
 refine Sm.ret ?_
 refine lf ?_
 obtain rfl:=Option.some.inj H
 exact rto [none]
abbrev bkc (v:aj5) (l:List aj4):S:=stB [(1,.box 9000 0),(2,.box 9001 0),(3,.own 9002 [.str,.int .i64,.int .i64,.bool,.bool,.int .i64,.int .i64,.int .i64,.int .i64,.slice 80,.int .i64] 0 l.length)] [(9000,.box [.c .str (.str v.Serial),.c (.int .i64) (.int v.Cyls),.c (.int .i64) (.int v.Heads),.c (.int .i64) (.int v.Size),.c (.slice 41) (.slice (List.map aj3 v.Sets))]),(9001,.box [.c .str (.str []),.c (.int .i64) (.int 0),.c (.int .i64) (.int 0),.c (.int .i64) (.int 0),.nilsl]),(9002,.row 41 (List.map aj3 l))]
def awx (n:Nat) (v:aj5) (l:List aj4):Option aj5 :=
 some (⟨v.Serial,v.Cyls,v.Heads,v.Size,l⟩:aj5)
abbrev ak1 (v:aj5) (v16:Int) (l_1:List aj4) (v17:Int):S:=stB [(1,.box 9006 0),(2,.box 9007 0),(3,.own 9008 [.str,.int .i64,.int .i64,.bool,.bool,.int .i64,.int .i64,.int .i64,.int .i64,.slice 80,.int .i64] 0 l_1.length),(15,.c (.slice 41) (.slice (List.map aj3 v.Sets))),(16,.c (.int .i64) (.int v16)),(17,.c (.int .i64) (.int v17))] [(9006,.box [.c .str (.str v.Serial),.c (.int .i64) (.int v.Cyls),.c (.int .i64) (.int v.Heads),.c (.int .i64) (.int v.Size),.c (.slice 41) (.slice (List.map aj3 v.Sets))]),(9007,.box [.c .str (.str []),.c (.int .i64) (.int 0),.c (.int .i64) (.int 0),.c (.int .i64) (.int 0),.nilsl]),(9008,.row 41 (List.map aj3 l_1))]
def aqi (n:Nat) (v:aj5) (v16:Int) (l_1:List aj4) (v17:Int):Option (((List aj4)×Int) ⊕ (((List aj4)))) :=
 bif (decide (v17 < v16)) then
  gd ((0≤v17∧v17 < (v.Sets.length:Int))) <|
  (az0 n ((gt v.Sets (Int.toNat v17)).Extents)).bind fun r1 =>
  gd ((0≤v17∧v17 < (l_1.length:Int))∧(Int.toNat v17) < l_1.length) <|
  some (.inl ((List.set l_1 (Int.toNat v17) (⟨(gt v.Sets (Int.toNat v17)).Name,((gt v.Sets (Int.toNat v17)).Dcb),r1,(gt v.Sets (Int.toNat v17)).Used⟩:aj4)),(IntKind.wrap .i64 (v17+1))))
 else
  some (.inr l_1)
def ajt (n:Nat) (v:aj5):Option aj5 :=
 gd ((0≤(v.Sets.length:Int)∧(v.Sets.length:Int)≤(IntKind.wrap .i64 ((v.Sets.length:Int)+1))∧(IntKind.wrap .i64 ((v.Sets.length:Int)+1))≤2147483648)) <|
 (ajj (fun (x:(List aj4)×Int)=>aqi n v (v.Sets.length:Int) x.1 x.2) n ((ak0 (Int.toNat (v.Sets.length:Int)) (⟨[],(⟨0,0,false,false,0,0,0,0⟩:TDcb),[],0⟩:aj4)),0)).bind fun y7 =>
 awx n v y7
def awn (n:Nat):Go.AE.Fn:=mkFn (A:=aj5) (R:=aj5) 57 [(true,[.str,.int .i64,.int .i64,.int .i64,.slice 41])] true (fun xs=>(⟨(cg (xs.getD 0 []) 0).toStr,(cg (xs.getD 0 []) 1).toInt,(cg (xs.getD 0 []) 2).toInt,(cg (xs.getD 0 []) 3).toInt,((cg (xs.getD 0 []) 4).toSl.map aqd)⟩:aj5)) (fun a=>[[.str a.Serial,.int a.Cyls,.int a.Heads,.int a.Size,.slice (List.map aj3 a.Sets)]]) (fun a=>ajt n a) (fun r=>[.agg [.c .str (.str r.Serial),.c (.int .i64) (.int r.Cyls),.c (.int .i64) (.int r.Heads),.c (.int .i64) (.int r.Size),.own 0 [.str,.int .i64,.int .i64,.bool,.bool,.int .i64,.int .i64,.int .i64,.int .i64,.slice 80,.int .i64] 0 r.Sets.length]]) (fun r=>[.row 41 (List.map aj3 r.Sets)])
theorem azg (n:Nat):aj2 Tryz.prog (awn n):=by
 have hΓ:=g1 (ayb n) (@g0 (aj2 Tryz.prog))
 refine aj8 (Tryz.f57.body.getD .skip) h00 Tryz.func57 rfl Tryz.call57 (by decide) (by intro h;cases h) ?_
 rintro v r H
 try dsimp only at H
 unfold ajt at H
 simp only [Tryz.f57,Option.getD]
 refine rA ?_
 refine sX fun K2 hK2=>?_
 obtain ⟨hg3,H⟩:=aj7 H
 iterate 7 refine oX ?_
 refine oY ?_
 refine oX ?_
 refine hK2 _ ?_
 refine Sm.cut (fun (x:(List aj4))=>bkc v x) (fun x=>awx n v x=some r) ?_ ?_
 ·refine rA ?_
  refine Sm.block ?_
  obtain ⟨y7,hy7,Ho7⟩:=bind_some H
  refine Sm.loopB _ (fun x=>ak1 v (v.Sets.length:Int) x.1 x.2) hy7 (wb [some 16,some 32,some 208]) ?_
  rintro ⟨l_1,v17⟩ z7 H
  try dsimp only at H
  unfold aqi at H
  refine Sm.st (ak1.eq_1 ..) ?_
  refine rA ?_
  refine Sm.seqK fun K9 hK9=>?_
  refine cnd H (fun h10 H=>?_) (fun h10 H=>?_)
  ·refine Sm.skip ?_
   refine hK9 _ ?_
   refine Sm.seqK fun K11 hK11=>?_
   refine Sm.block ?_
   obtain ⟨hg16,H⟩:=aj7 H
   refine rA ?_
   obtain ⟨r1,hr1,H⟩:=bind_some H
   have q:=And.intro @awm.eq_1 hr1
   refine rAq ?_
   obtain ⟨⟨hg14,hg15⟩,H⟩:=aj7 H
   refine eA ?_
   refine hK11 _ ?_
   refine eA ?_
   refine lf ?_
   exact nx H (wb [some 9006,some 9007,some 9008])
  refine Sm.exit ?_
  refine lf ?_
  refine lx H fun hyy=>?_
  subst hyy
  have H:=Ho7
  try dsimp only at H
  refine lf ?_
  exact ⟨_,H,wb [some 9006,some 9007,some 9008]⟩
 rintro l H
 try dsimp only at H
 unfold awx at H
 refine Sm.st (bkc.eq_1 ..) ?_
 refine rA ?_
 refine rA ?_
 refine Sm.ret ?_
 refine lf ?_
 obtain rfl:=Option.some.inj H
 exact rto [some 9002]
def bq6 (n:Nat) (v:aj5) (d:aj4) (tracks:Int):Option (aj5×Int) :=
 (awq n v).bind fun r1 =>
 bif (r1 != 0) then
  some ((⟨[],0,0,0,[]⟩:aj5),r1)
 else
  (byo n d.Name).bind fun r2 =>
  gd (((!(!r2))=true→(aqm n d.Dcb).isSome=true)) <|
  bif (if (if (!r2)=true then true else (!((aqm n d.Dcb).getD default)))=true then true else (decide (tracks < 1))) then
   some ((⟨[],0,0,0,[]⟩:aj5),1)
  else
   (ajy n v d.Name).bind fun r3 =>
   bif r3.2 then
    some ((⟨[],0,0,0,[]⟩:aj5),4)
   else
    bif ((v.Sets.length:Int) == (if (IntKind.wrap .i64 (14 * v.Size)) < 64 then (IntKind.wrap .i64 (14 * v.Size)) else 64)) then
     some ((⟨[],0,0,0,[]⟩:aj5),7)
    else
     (bwb n v).bind fun r4 =>
     (az5 n r4 tracks 8).bind fun r5 =>
     bif (r5.2.2 != 0) then
      some ((⟨[],0,0,0,[]⟩:aj5),r5.2.2)
     else
      (ajt n v).bind fun r6 =>
      (bqw n r6.Sets r3.1 [(⟨d.Name,d.Dcb,r5.1,0⟩:aj4)]).bind fun r7 =>
      some ((⟨r6.Serial,r6.Cyls,r6.Heads,r6.Size,r7⟩:aj5),0)
def aq5 (n:Nat):Go.AE.Fn:=mkFn (A:=aj5×aj4×Int) (R:=aj5×Int) 41 [(true,[.str,.int .i64,.int .i64,.int .i64,.slice 41]),(true,[.str,.int .i64,.int .i64,.bool,.bool,.int .i64,.int .i64,.int .i64,.int .i64,.slice 80,.int .i64]),(false,[.int .i64])] true (fun xs=>((⟨(cg (xs.getD 0 []) 0).toStr,(cg (xs.getD 0 []) 1).toInt,(cg (xs.getD 0 []) 2).toInt,(cg (xs.getD 0 []) 3).toInt,((cg (xs.getD 0 []) 4).toSl.map aqd)⟩:aj5),(⟨(cg (xs.getD 1 []) 0).toStr,(⟨(cg (xs.getD 1 []) 1).toInt,(cg (xs.getD 1 []) 2).toInt,(cg (xs.getD 1 []) 3).toBool,(cg (xs.getD 1 []) 4).toBool,(cg (xs.getD 1 []) 5).toInt,(cg (xs.getD 1 []) 6).toInt,(cg (xs.getD 1 []) 7).toInt,(cg (xs.getD 1 []) 8).toInt⟩:TDcb),((cg (xs.getD 1 []) 9).toSl.map ajm),(cg (xs.getD 1 []) 10).toInt⟩:aj4),(cg (xs.getD 2 []) 0).toInt)) (fun a=>[[.str a.1.Serial,.int a.1.Cyls,.int a.1.Heads,.int a.1.Size,.slice (List.map aj3 a.1.Sets)],[.str a.2.1.Name,.int a.2.1.Dcb.Org,.int a.2.1.Dcb.Format,.bool a.2.1.Dcb.Blocked,.bool a.2.1.Dcb.Asa,.int a.2.1.Dcb.Lrecl,.int a.2.1.Dcb.Blksize,.int a.2.1.Dcb.KeyLen,.int a.2.1.Dcb.KeyPos,.slice (List.map aj1 a.2.1.Extents),.int a.2.1.Used],[.int a.2.2]]) (fun a=>bq6 n a.1 a.2.1 a.2.2) (fun r=>[.agg [.c .str (.str r.1.Serial),.c (.int .i64) (.int r.1.Cyls),.c (.int .i64) (.int r.1.Heads),.c (.int .i64) (.int r.1.Size),.own 0 [.str,.int .i64,.int .i64,.bool,.bool,.int .i64,.int .i64,.int .i64,.int .i64,.slice 80,.int .i64] 0 r.1.Sets.length],.c (.int .i64) (.int r.2)]) (fun r=>[.row 41 (List.map aj3 r.1.Sets)])
theorem dkf (n:Nat):aj2 Tryz.prog (aq5 n):=by
 have hΓ:=g1 (ayp n) (g1 (dz2 n) (g1 (byh n) (g1 (aw8 n) (g1 (cq4 n) (g1 (ck8 n) (g1 (azg n) (@g0 (aj2 Tryz.prog))))))))
 refine aj8 (Tryz.f41.body.getD .skip) h00 Tryz.func41 rfl Tryz.call41 (by decide) (by intro h;cases h) ?_
 rintro ⟨v,d,tracks⟩ r H
 try dsimp only at H
 unfold bq6 at H
 simp only [Tryz.f41,Option.getD]
 refine rA ?_
 refine Sm.seqK fun K2 hK2=>?_
 obtain ⟨r1,hr1,H⟩:=bind_some H
 have q:=And.intro @ajq.eq_1 hr1
 refine rAq ?_
 refine rA ?_
 refine cnd H (fun h5 H=>?_) (fun h5 H=>?_)
 ·refine rA ?_
  refine Sm.ret ?_
  refine lf ?_
  obtain rfl:=Option.some.inj H
  exact rto [none]
 refine Sm.skip ?_
 refine hK2 _ ?_
 refine Sm.seqK fun K7 hK7=>?_
 obtain ⟨r2,hr2,H⟩:=bind_some H
 obtain ⟨hg28,H⟩:=aj7 H
 have q:=And.intro @ajq.eq_1 (And.intro @bj1.eq_1 (And.intro @aw2.eq_1 hr2))
 refine rAq ?_
 refine cnd H (fun h9 H=>?_) (fun h9 H=>?_)
 ·refine rA ?_
  refine Sm.ret ?_
  refine lf ?_
  obtain rfl:=Option.some.inj H
  exact rto [none]
 refine Sm.skip ?_
 refine hK7 _ ?_
 obtain ⟨r3,hr3,H⟩:=bind_some H
 have q:=And.intro @ajq.eq_1 (And.intro @bj1.eq_1 (And.intro @aw2.eq_1 (And.intro @ajn.eq_1 hr3)))
 refine rAq ?_
 refine Sm.seqK fun K12 hK12=>?_
 refine rA ?_
 refine cnd H (fun h14 H=>?_) (fun h14 H=>?_)
 ·refine rA ?_
  refine Sm.ret ?_
  refine lf ?_
  obtain rfl:=Option.some.inj H
  exact rto [none]
 refine Sm.skip ?_
 refine hK12 _ ?_
 refine Sm.seqK fun K16 hK16=>?_
 refine rA ?_
 refine cnd H (fun h18 H=>?_) (fun h18 H=>?_)
 ·refine rA ?_
  refine Sm.ret ?_
  refine lf ?_
  obtain rfl:=Option.some.inj H
  exact rto [none]
 refine Sm.skip ?_
 refine hK16 _ ?_
 obtain ⟨r4,hr4,H⟩:=bind_some H
 obtain ⟨r5,hr5,H⟩:=bind_some H
 have q:=And.intro @ajq.eq_1 (And.intro @bj1.eq_1 (And.intro @aw2.eq_1 (And.intro @ajn.eq_1 (And.intro @aw4.eq_1 (And.intro @bk6.eq_1 (And.intro hr4 hr5))))))
 refine rAq ?_
 refine Sm.seqK fun K21 hK21=>?_
 refine rA ?_
 refine cnd H (fun h23 H=>?_) (fun h23 H=>?_)
 ·refine rA ?_
  refine Sm.ret ?_
  refine lf ?_
  obtain rfl:=Option.some.inj H
  exact rto [none]
 refine Sm.skip ?_
 refine hK21 _ ?_
 obtain ⟨r6,hr6,H⟩:=bind_some H
 have q:=And.intro @ajq.eq_1 (And.intro @bj1.eq_1 (And.intro @aw2.eq_1 (And.intro @ajn.eq_1 (And.intro @aw4.eq_1 (And.intro @bk6.eq_1 (And.intro @awn.eq_1 hr6))))))
 refine rAq ?_
 refine sX fun K26 hK26=>?_
 obtain ⟨r7,hr7,H⟩:=bind_some H
 have q:=hr7
 iterate 10 refine oX ?_
 refine oMq (dkl n _ _ _ r7 hr7) [1072,1232] [1248] ?_
 iterate 2 refine oXq ?_
 refine hK26 _ ?_
 refine rA ?_
 refine Sm.ret ?_
 refine lf ?_
 obtain rfl:=Option.some.inj H
 exact rto [some 1248]
abbrev cwt:S:=stB [] []
def bk7 (n:Nat):Option Bool :=
 some true
abbrev cwj (a:List aj0) (b:List aj0) (k:Int):S:=stB [(0,.c (.slice 80) (.slice (List.map aj1 a))),(1,.c (.slice 80) (.slice (List.map aj1 b))),(5,.c (.int .i64) (.int k))] []
def cwn (n:Nat) (a:List aj0) (b:List aj0) (k:Int):Option ((Int) ⊕ (((Bool) ⊕ (Unit)))) :=
 bif (decide (k < (a.length:Int))) then
  gd ((0≤k∧k < (a.length:Int))∧(0≤k∧k < (b.length:Int))) <|
  bif (!((((gt a (Int.toNat k)).At) == ((gt b (Int.toNat k)).At)) && (((gt a (Int.toNat k)).Len) == ((gt b (Int.toNat k)).Len)))) then
   some (.inr (.inl false))
  else
   some (.inl (IntKind.wrap .i64 (k+1)))
 else
  some (.inr (.inr ()))
def bw8 (n:Nat) (a:List aj0) (b:List aj0):Option Bool :=
 bif ((a.length:Int) != (b.length:Int)) then
  some false
 else
  (ajj (fun (x:Int)=>cwn n a b x) n 0).bind fun y8 =>
  match y8 with
  | .inl vv =>
   some vv
  | .inr vv =>
   bk7 n
def aqx (n:Nat):Go.AE.Fn:=mkFn (A:=(List aj0)×(List aj0)) (R:=Bool) 49 [(false,[.slice 80]),(false,[.slice 80])] false (fun xs=>(((cg (xs.getD 0 []) 0).toSl.map ajm),((cg (xs.getD 1 []) 0).toSl.map ajm))) (fun a=>[[.slice (List.map aj1 a.1)],[.slice (List.map aj1 a.2)]]) (fun a=>bw8 n a.1 a.2) (fun r=>[.c .bool (.bool r)]) (fun r=>[])
theorem eqt (n:Nat):aj2 Tryz.prog (aqx n):=by
 have hΓ:=@g0 (aj2 Tryz.prog)
 refine aj8 (Tryz.f49.body.getD .skip) h00 Tryz.func49 rfl Tryz.call49 (by decide) (by intro _ r;exact ⟨rfl,by simp⟩) ?_
 rintro ⟨a,b⟩ r H
 try dsimp only at H
 unfold bw8 at H
 simp only [Tryz.f49,Option.getD]
 refine rA ?_
 refine Sm.seqK fun K2 hK2=>?_
 refine rA ?_
 refine cnd H (fun h4 H=>?_) (fun h4 H=>?_)
 ·refine rA ?_
  refine Sm.ret ?_
  refine lf ?_
  obtain rfl:=Option.some.inj H
  exact rt []
 refine Sm.skip ?_
 refine hK2 _ ?_
 refine Sm.cut (fun (x:Unit)=>cwt) (fun x=>bk7 n=some r) ?_ ?_
 ·refine rA ?_
  refine Sm.block ?_
  obtain ⟨y8,hy8,Ho8⟩:=bind_some H
  refine Sm.loopB _ (fun x=>cwj a b x) hy8 (wb []) ?_
  rintro k z8 H
  try dsimp only at H
  unfold cwn at H
  refine Sm.st (cwj.eq_1 ..) ?_
  refine Sm.seqK fun K9 hK9=>?_
  refine rA ?_
  refine cnd H (fun h11 H=>?_) (fun h11 H=>?_)
  ·refine Sm.skip ?_
   refine hK9 _ ?_
   refine Sm.seqK fun K12 hK12=>?_
   refine Sm.block ?_
   obtain ⟨⟨hg16,hg17⟩,H⟩:=aj7 H
   refine rD ?_
   refine cnd H (fun h14 H=>?_) (fun h14 H=>?_)
   ·refine rA ?_
    refine Sm.ret ?_
    refine lf ?_
    refine lx H fun hyy=>?_
    subst hyy
    have H:=Ho8
    try dsimp only at H
    refine lf ?_
    obtain rfl:=Option.some.inj H
    exact rt []
   refine Sm.skip ?_
   refine hK12 _ ?_
   refine eA ?_
   refine lf ?_
   exact nx H (wb [])
  refine Sm.exit ?_
  refine lf ?_
  refine lx H fun hyy=>?_
  subst hyy
  have H:=Ho8
  try dsimp only at H
  refine lf ?_
  exact ⟨(),H,wb []⟩
 rintro ⟨⟩ H
 try dsimp only at H
 unfold bk7 at H
 refine Sm.st (cwt.eq_1 ..) ?_
 refine rA ?_
 refine Sm.ret ?_
 refine lf ?_
 obtain rfl:=Option.some.inj H
 exact rt []
def byu (n:Nat):Option Bool :=
 (dw2 n [86,49] 4 2 1).bind fun r1 =>
 (cwa n).bind fun r2 =>
 (bq6 n (⟨r1.1.Serial,r1.1.Cyls,r1.1.Heads,r1.1.Size,[]⟩:aj5) (⟨[65],r2,[],0⟩:aj4) 3).bind fun r3 =>
 (cwa n).bind fun r4 =>
 (bq6 n r3.1 (⟨[66],r4,[],0⟩:aj4) 2).bind fun r5 =>
 (bwb n r5.1).bind fun r6 =>
 gd (((if (if (if (r1.2 == 0)=true then (r3.2 == 0) else false)=true then (r5.2 == 0) else false)=true then (((r5.1.Sets.length:Nat):Int) == 2) else false)=true→0 < (r5.1.Sets.length:Int))∧((if (if (if (r1.2 == 0)=true then (r3.2 == 0) else false)=true then (r5.2 == 0) else false)=true then (((r5.1.Sets.length:Nat):Int) == 2) else false)=true→0 < r5.1.Sets.length)) <|
 bif (if (if (if (r1.2 == 0)=true then (r3.2 == 0) else false)=true then (r5.2 == 0) else false)=true then (((r5.1.Sets.length:Nat):Int) == 2) else false) then
  gd ((if (if (if (r1.2 == 0)=true then (r3.2 == 0) else false)=true then (r5.2 == 0) else false)=true then (((r5.1.Sets.length:Nat):Int) == 2) else false)=true∧(if (if (if (r1.2 == 0)=true then (r3.2 == 0) else false)=true then (r5.2 == 0) else false)=true then (((r5.1.Sets.length:Nat):Int) == 2) else false)=true) <|
  (bw8 n ((gt r5.1.Sets 0).Extents) [(⟨2,3⟩:aj0)]).bind fun r7 =>
  gd ((r7=true→1 < (r5.1.Sets.length:Int))∧(r7=true→1 < r5.1.Sets.length)) <|
  bif r7 then
   gd (r7=true∧r7=true) <|
   (bw8 n ((gt r5.1.Sets 1).Extents) [(⟨5,2⟩:aj0)]).bind fun r8 =>
   bif r8 then
    gd (r8=true∧r8=true) <|
    (bw8 n r6 [(⟨7,1⟩:aj0)]).bind fun r9 =>
    some r9
   else
    some false
  else
   some false
 else
  some false
def akn (n:Nat):Go.AE.Fn:=mkFn (A:=Unit) (R:=Bool) 14 [] false (fun xs=>()) (fun a=>[]) (fun a=>byu n) (fun r=>[.c .bool (.bool r)]) (fun r=>[])
theorem eyl (n:Nat):aj2 Tryz.prog (akn n):=by
 have hΓ:=g1 (ey6 n) (g1 (fjh n) (g1 (dkf n) (g1 (cq4 n) (g1 (eqt n) (@g0 (aj2 Tryz.prog))))))
 refine aj8 (Tryz.f14.body.getD .skip) h00 Tryz.func14 rfl Tryz.call14 (by decide) (by intro _ r;exact ⟨rfl,by simp⟩) ?_
 rintro ⟨⟩ r H
 try dsimp only at H
 unfold byu at H
 simp only [Tryz.f14,Option.getD]
 refine rA ?_
 obtain ⟨r1,hr1,H⟩:=bind_some H
 have q:=And.intro @ak7.eq_1 hr1
 refine rAq ?_
 obtain ⟨r2,hr2,H⟩:=bind_some H
 obtain ⟨r3,hr3,H⟩:=bind_some H
 refine sQ [0,1,2,3,4,5,6,7,8] [(none,[16],[]),(none,[],[207,206,205,204,203,202,201,200,199,198,197,196,195,194,193,192]),(none,[],[]),(none,[],[239,238,237,236,235,234,233,232,231,230,229,228,227,226,225,224]),(none,[],[]),(none,[],[]),(none,[],[]),(none,[16,224],[16]),(none,[],[])] fun K3 hK3=>?_
 have q:=And.intro @ak7.eq_1 (And.intro @awj.eq_1 (And.intro @aq5.eq_1 (And.intro @aw4.eq_1 (And.intro @aqx.eq_1 (And.intro hr2 hr3)))))
 iterate 9 refine oQq ?_
 refine cw0 ?_
 refine hK3 _ ?_
 obtain ⟨r4,hr4,H⟩:=bind_some H
 obtain ⟨r5,hr5,H⟩:=bind_some H
 refine sQ [0,1,2,3,4,5,6,7,8] [(none,[16],[]),(none,[],[319,318,317,316,315,314,313,312,311,310,309,308,307,306,305,304]),(none,[],[]),(none,[224],[351,350,349,348,347,346,345,344,343,342,341,340,339,338,337,336,224]),(none,[],[]),(none,[],[]),(none,[],[]),(none,[16,336],[16]),(none,[],[])] fun K4 hK4=>?_
 have q:=And.intro @ak7.eq_1 (And.intro @awj.eq_1 (And.intro @aq5.eq_1 (And.intro @aw4.eq_1 (And.intro @aqx.eq_1 (And.intro hr4 hr5)))))
 iterate 9 refine oQq ?_
 refine cw0 ?_
 refine hK4 _ ?_
 obtain ⟨r6,hr6,H⟩:=bind_some H
 have q:=And.intro @ak7.eq_1 (And.intro @awj.eq_1 (And.intro @aq5.eq_1 (And.intro @aw4.eq_1 hr6)))
 refine rAq ?_
 refine sX fun K6 hK6=>?_
 obtain ⟨⟨hg7,hg8⟩,H⟩:=aj7 H
 have q:=And.intro @ak7.eq_1 (And.intro @awj.eq_1 (And.intro @aq5.eq_1 (And.intro @aw4.eq_1 @aqx.eq_1)))
 iterate 23 refine oXq ?_
 refine byw H (fun hs9 H=>?_) (fun hs9 H=>?_)
 ·try simp only [hs9,Bool.not_false,Bool.not_true,Bool.false_eq_true,true_implies,false_implies,forall_const] at hg7
  try simp only [hs9,Bool.not_false,Bool.not_true,Bool.false_eq_true,true_implies,false_implies,forall_const] at hg8
  obtain ⟨⟨hg10,hg11⟩,H⟩:=aj7 H
  obtain ⟨r7,hr7,H⟩:=bind_some H
  obtain ⟨⟨hg12,hg13⟩,H⟩:=aj7 H
  have q:=And.intro @ak7.eq_1 (And.intro @awj.eq_1 (And.intro @aq5.eq_1 (And.intro @aw4.eq_1 (And.intro @aqx.eq_1 (And.intro hs9 hr7)))))
  refine oTG ?_
  refine oTG ?_
  refine oPl ?_
  iterate 7 refine oXq ?_
  refine byw H (fun hs14 H=>?_) (fun hs14 H=>?_)
  ·try simp only [z,seval,hs9,hr7] at hs14
   try simp only [hs14,Bool.not_false,Bool.not_true,Bool.false_eq_true,true_implies,false_implies,forall_const] at hg12
   try simp only [hs14,Bool.not_false,Bool.not_true,Bool.false_eq_true,true_implies,false_implies,forall_const] at hg13
   obtain ⟨⟨hg15,hg16⟩,H⟩:=aj7 H
   obtain ⟨r8,hr8,H⟩:=bind_some H
   have q:=And.intro @ak7.eq_1 (And.intro @awj.eq_1 (And.intro @aq5.eq_1 (And.intro @aw4.eq_1 (And.intro @aqx.eq_1 (And.intro hs9 (And.intro hr7 (And.intro hs14 hr8)))))))
   refine oTG ?_
   refine oTG ?_
   refine oPl ?_
   iterate 3 refine oXq ?_
   refine byw H (fun hs17 H=>?_) (fun hs17 H=>?_)
   ·try simp only [z,seval,hs9,hr7,hs14,hr8] at hs17
    obtain ⟨⟨hg18,hg19⟩,H⟩:=aj7 H
    obtain ⟨r9,hr9,H⟩:=bind_some H
    have q:=And.intro @ak7.eq_1 (And.intro @awj.eq_1 (And.intro @aq5.eq_1 (And.intro @aw4.eq_1 (And.intro @aqx.eq_1 (And.intro hs9 (And.intro hr7 (And.intro hs14 (And.intro hr8 (And.intro hs17 hr9)))))))))
    refine oTG ?_
    refine oTG ?_
    refine oPl ?_
    refine oXq ?_
    refine hK6 _ ?_
    refine Sm.ret ?_
    refine lf ?_
    obtain rfl:=Option.some.inj H
    exact rt []
   try simp only [z,seval,hs9,hr7,hs14,hr8] at hs17
   have q:=And.intro @ak7.eq_1 (And.intro @awj.eq_1 (And.intro @aq5.eq_1 (And.intro @aw4.eq_1 (And.intro @aqx.eq_1 (And.intro hs9 (And.intro hr7 (And.intro hs14 (And.intro hr8 hs17))))))))
   refine oFq ?_
   refine oFq ?_
   refine oPr ?_
   refine oXq ?_
   refine hK6 _ ?_
   refine Sm.ret ?_
   refine lf ?_
   obtain rfl:=Option.some.inj H
   exact rt []
  try simp only [z,seval,hs9,hr7] at hs14
  try simp only [hs14,Bool.not_false,Bool.not_true,Bool.false_eq_true,true_implies,false_implies,forall_const] at hg12
  try simp only [hs14,Bool.not_false,Bool.not_true,Bool.false_eq_true,true_implies,false_implies,forall_const] at hg13
  have q:=And.intro @ak7.eq_1 (And.intro @awj.eq_1 (And.intro @aq5.eq_1 (And.intro @aw4.eq_1 (And.intro @aqx.eq_1 (And.intro hs9 (And.intro hr7 hs14))))))
  refine oFq ?_
  refine oFq ?_
  refine oPr ?_
  refine oXq ?_
  refine oFq ?_
  refine oFq ?_
  refine oFq ?_
  refine oFq ?_
  refine oPr ?_
  refine oXq ?_
  refine hK6 _ ?_
  refine Sm.ret ?_
  refine lf ?_
  obtain rfl:=Option.some.inj H
  exact rt []
 try simp only [hs9,Bool.not_false,Bool.not_true,Bool.false_eq_true,true_implies,false_implies,forall_const] at hg7
 try simp only [hs9,Bool.not_false,Bool.not_true,Bool.false_eq_true,true_implies,false_implies,forall_const] at hg8
 have q:=And.intro @ak7.eq_1 (And.intro @awj.eq_1 (And.intro @aq5.eq_1 (And.intro @aw4.eq_1 (And.intro @aqx.eq_1 hs9))))
 refine oFq ?_
 refine oFq ?_
 refine oPr ?_
 refine oXq ?_
 refine oFq ?_
 refine oFq ?_
 refine oFq ?_
 refine oFq ?_
 refine oFq ?_
 refine oFq ?_
 refine oFq ?_
 refine oFq ?_
 refine oPr ?_
 refine oXq ?_
 refine oFq ?_
 refine oFq ?_
 refine oFq ?_
 refine oFq ?_
 refine oPr ?_
 refine oXq ?_
 refine hK6 _ ?_
 refine Sm.ret ?_
 refine lf ?_
 obtain rfl:=Option.some.inj H
 exact rt []
abbrev dzh (v:aj5) (w:List aj4):S:=stB [(2,.box 9000 0),(3,.box 9001 0)] [(9000,.box [.c .str (.str []),.c (.int .i64) (.int 0),.c (.int .i64) (.int 0),.c (.int .i64) (.int 0),.nilsl]),(9001,.box [.c .str (.str v.Serial),.c (.int .i64) (.int v.Cyls),.c (.int .i64) (.int v.Heads),.c (.int .i64) (.int v.Size),.own 9002 [.str,.int .i64,.int .i64,.bool,.bool,.int .i64,.int .i64,.int .i64,.int .i64,.slice 80,.int .i64] 0 w.length]),(9002,.row 41 (List.map aj3 w))]
def cja (n:Nat) (v:aj5) (w:List aj4):Option aj5 :=
 some (⟨v.Serial,v.Cyls,v.Heads,v.Size,w⟩:aj5)
abbrev dza (v:aj5) (w_1:List aj4) (k:Int):S:=stB [(1,.box 9010 0),(2,.box 9011 0),(3,.box 9012 0),(4,.c (.int .i64) (.int k))] [(9010,.box [.c .str (.str v.Serial),.c (.int .i64) (.int v.Cyls),.c (.int .i64) (.int v.Heads),.c (.int .i64) (.int v.Size),.c (.slice 41) (.slice (List.map aj3 v.Sets))]),(9011,.box [.c .str (.str []),.c (.int .i64) (.int 0),.c (.int .i64) (.int 0),.c (.int .i64) (.int 0),.nilsl]),(9012,.box [.c .str (.str v.Serial),.c (.int .i64) (.int v.Cyls),.c (.int .i64) (.int v.Heads),.c (.int .i64) (.int v.Size),.own 9013 [.str,.int .i64,.int .i64,.bool,.bool,.int .i64,.int .i64,.int .i64,.int .i64,.slice 80,.int .i64] 0 w_1.length]),(9013,.row 41 (List.map aj3 w_1))]
def bqn (n:Nat) (v:aj5) (w_1:List aj4) (k:Int):Option (((List aj4)×Int) ⊕ (((List aj4)))) :=
 bif (decide (k < (v.Sets.length:Int))) then
  gd ((0≤k∧k < (v.Sets.length:Int))) <|
  gd (((gt v.Sets (Int.toNat k)).Extents).length≤2147483648) <|
  gd ((w_1.length+1)≤2147483648) <|
  some (.inl ((w_1 ++ [(gt v.Sets (Int.toNat k))]),(IntKind.wrap .i64 (k+1))))
 else
  some (.inr w_1)
def cqn (n:Nat) (v:aj5):Option aj5 :=
 (ajj (fun (x:(List aj4)×Int)=>bqn n v x.1 x.2) n ([],0)).bind fun y5 =>
 cja n v y5
def bwx (n:Nat):Go.AE.Fn:=mkFn (A:=aj5) (R:=aj5) 20 [(true,[.str,.int .i64,.int .i64,.int .i64,.slice 41])] true (fun xs=>(⟨(cg (xs.getD 0 []) 0).toStr,(cg (xs.getD 0 []) 1).toInt,(cg (xs.getD 0 []) 2).toInt,(cg (xs.getD 0 []) 3).toInt,((cg (xs.getD 0 []) 4).toSl.map aqd)⟩:aj5)) (fun a=>[[.str a.Serial,.int a.Cyls,.int a.Heads,.int a.Size,.slice (List.map aj3 a.Sets)]]) (fun a=>cqn n a) (fun r=>[.agg [.c .str (.str r.Serial),.c (.int .i64) (.int r.Cyls),.c (.int .i64) (.int r.Heads),.c (.int .i64) (.int r.Size),.own 0 [.str,.int .i64,.int .i64,.bool,.bool,.int .i64,.int .i64,.int .i64,.int .i64,.slice 80,.int .i64] 0 r.Sets.length]]) (fun r=>[.row 41 (List.map aj3 r.Sets)])
theorem gjf (n:Nat):aj2 Tryz.prog (bwx n):=by
 have hΓ:=@g0 (aj2 Tryz.prog)
 refine aj8 (Tryz.f20.body.getD .skip) h00 Tryz.func20 rfl Tryz.call20 (by decide) (by intro h;cases h) ?_
 rintro v r H
 try dsimp only at H
 unfold cqn at H
 simp only [Tryz.f20,Option.getD]
 refine rA ?_
 refine rA ?_
 refine Sm.cut (fun (x:(List aj4))=>dzh v x) (fun x=>cja n v x=some r) ?_ ?_
 ·refine rA ?_
  refine Sm.block ?_
  obtain ⟨y5,hy5,Ho5⟩:=bind_some H
  refine Sm.loopB _ (fun x=>dza v x.1 x.2) hy5 (wb [some 16,some 32,some 48,none]) ?_
  rintro ⟨w_1,k⟩ z5 H
  try dsimp only at H
  unfold bqn at H
  refine Sm.st (dza.eq_1 ..) ?_
  refine Sm.seqK fun K6 hK6=>?_
  refine rA ?_
  refine cnd H (fun h8 H=>?_) (fun h8 H=>?_)
  ·refine Sm.skip ?_
   refine hK6 _ ?_
   refine Sm.seqK fun K9 hK9=>?_
   refine Sm.block ?_
   obtain ⟨hg14,H⟩:=aj7 H
   refine rA ?_
   obtain ⟨hg13,H⟩:=aj7 H
   refine rA ?_
   obtain ⟨hg12,H⟩:=aj7 H
   refine eA ?_
   refine hK9 _ ?_
   refine eA ?_
   refine lf ?_
   exact nx H (wb [some 9010,some 9011,some 9012,some 576])
  refine Sm.exit ?_
  refine lf ?_
  refine lx H fun hyy=>?_
  subst hyy
  have H:=Ho5
  try dsimp only at H
  refine lf ?_
  exact ⟨_,H,wb [some 9011,some 9012,some 9013]⟩
 rintro w H
 try dsimp only at H
 unfold cja at H
 refine Sm.st (dzh.eq_1 ..) ?_
 refine rA ?_
 refine Sm.ret ?_
 refine lf ?_
 obtain rfl:=Option.some.inj H
 exact rto [some 9002]
abbrev cyi (kept:List aj0) (rest:List aj0):S:=stB [(4,.own 9000 [.int .i64,.int .i64] 0 kept.length),(5,.own 9001 [.int .i64,.int .i64] 0 rest.length)] [(9000,.row 80 (List.map aj1 kept)),(9001,.row 80 (List.map aj1 rest))]
def bzj (n:Nat) (kept:List aj0) (rest:List aj0):Option ((List aj0)×(List aj0)) :=
 some (kept,rest)
abbrev cyt (n__2:Int) (kept_2:List aj0) (rest_2:List aj0) (l:List aj0) (v15:Int) (v16:Int):S:=stB [(1,.c (.int .i64) (.int n__2)),(4,.own 9006 [.int .i64,.int .i64] 0 kept_2.length),(5,.own 9007 [.int .i64,.int .i64] 0 rest_2.length),(14,.c (.slice 80) (.slice (List.map aj1 l))),(15,.c (.int .i64) (.int v15)),(16,.c (.int .i64) (.int v16))] [(9006,.row 80 (List.map aj1 kept_2)),(9007,.row 80 (List.map aj1 rest_2))]
def bz6 (n:Nat) (n__2:Int) (kept_2:List aj0) (rest_2:List aj0) (l:List aj0) (v15:Int) (v16:Int):Option ((Int×(List aj0)×(List aj0)×Int) ⊕ (((List aj0)×(List aj0)))) :=
 some (.inl (n__2,kept_2,rest_2,(IntKind.wrap .i64 (v16+1))))
abbrev cyb (n__1:Int) (kept_3:List aj0) (rest_3:List aj0) (k:Int) (l:List aj0) (v15:Int) (v16:Int):S:=stB [(1,.c (.int .i64) (.int n__1)),(4,.own 9011 [.int .i64,.int .i64] 0 kept_3.length),(5,.own 9012 [.int .i64,.int .i64] 0 rest_3.length),(8,.c (.int .i64) (.int k)),(14,.c (.slice 80) (.slice (List.map aj1 l))),(15,.c (.int .i64) (.int v15)),(16,.c (.int .i64) (.int v16))] [(9011,.row 80 (List.map aj1 kept_3)),(9012,.row 80 (List.map aj1 rest_3))]
def bjg (n:Nat) (n__1:Int) (kept_3:List aj0) (rest_3:List aj0) (k:Int) (l:List aj0) (v15:Int) (v16:Int):Option ((Int×(List aj0)×(List aj0)×Int) ⊕ (((List aj0)×(List aj0)))) :=
 bz6 n (IntKind.wrap .i64 (n__1 - k)) kept_3 rest_3 l v15 v16
abbrev cy8 (n__1:Int) (kept_3:List aj0) (rest_1:List aj0) (x_:Int) (x__1:Int) (k:Int) (l:List aj0) (v15:Int) (v16:Int):S:=stB [(1,.c (.int .i64) (.int n__1)),(4,.own 9008 [.int .i64,.int .i64] 0 kept_3.length),(5,.own 9009 [.int .i64,.int .i64] 0 rest_1.length),(7,.box 9010 0),(8,.c (.int .i64) (.int k)),(14,.c (.slice 80) (.slice (List.map aj1 l))),(15,.c (.int .i64) (.int v15)),(16,.c (.int .i64) (.int v16))] [(9008,.row 80 (List.map aj1 kept_3)),(9009,.row 80 (List.map aj1 rest_1)),(9010,.box [.c (.int .i64) (.int x_),.c (.int .i64) (.int x__1)])]
def bji (n:Nat) (n__1:Int) (kept_3:List aj0) (rest_1:List aj0) (x_:Int) (x__1:Int) (k:Int) (l:List aj0) (v15:Int) (v16:Int):Option ((Int×(List aj0)×(List aj0)×Int) ⊕ (((List aj0)×(List aj0)))) :=
 bif (decide (k < x__1)) then
  gd ((rest_1.length+1)≤2147483648) <|
  bjg n n__1 kept_3 (rest_1 ++ [(⟨(IntKind.wrap .i64 (x_+k)),(IntKind.wrap .i64 (x__1 - k))⟩:aj0)]) k l v15 v16
 else
  bjg n n__1 kept_3 rest_1 k l v15 v16
abbrev cyx (l:List aj0) (v15:Int) (n__1:Int) (kept_1:List aj0) (rest_1:List aj0) (v16:Int):S:=stB [(1,.c (.int .i64) (.int n__1)),(4,.own 9004 [.int .i64,.int .i64] 0 kept_1.length),(5,.own 9005 [.int .i64,.int .i64] 0 rest_1.length),(14,.c (.slice 80) (.slice (List.map aj1 l))),(15,.c (.int .i64) (.int v15)),(16,.c (.int .i64) (.int v16))] [(9004,.row 80 (List.map aj1 kept_1)),(9005,.row 80 (List.map aj1 rest_1))]
def ay0 (n:Nat) (l:List aj0) (v15:Int) (n__1:Int) (kept_1:List aj0) (rest_1:List aj0) (v16:Int):Option ((Int×(List aj0)×(List aj0)×Int) ⊕ (((List aj0)×(List aj0)))) :=
 bif (decide (v16 < v15)) then
  gd ((0≤v16∧v16 < (l.length:Int))) <|
  bif (decide ((if ((gt l (Int.toNat v16)).Len) < n__1 then ((gt l (Int.toNat v16)).Len) else n__1) > 0)) then
   gd ((kept_1.length+1)≤2147483648) <|
   bji n n__1 (kept_1 ++ [(⟨(gt l (Int.toNat v16)).At,(if ((gt l (Int.toNat v16)).Len) < n__1 then ((gt l (Int.toNat v16)).Len) else n__1)⟩:aj0)]) rest_1 ((gt l (Int.toNat v16)).At) ((gt l (Int.toNat v16)).Len) (if ((gt l (Int.toNat v16)).Len) < n__1 then ((gt l (Int.toNat v16)).Len) else n__1) l v15 v16
  else
   bji n n__1 kept_1 rest_1 ((gt l (Int.toNat v16)).At) ((gt l (Int.toNat v16)).Len) (if ((gt l (Int.toNat v16)).Len) < n__1 then ((gt l (Int.toNat v16)).Len) else n__1) l v15 v16
 else
  some (.inr (kept_1,rest_1))
def by4 (n:Nat) (l:List aj0) (n_:Int):Option ((List aj0)×(List aj0)) :=
 (awl n l).bind fun r1 =>
 bif (!r1) then
  some ([],[])
 else
  (ajj (fun (x:Int×(List aj0)×(List aj0)×Int)=>ay0 n l (l.length:Int) x.1 x.2.1 x.2.2.1 x.2.2.2) n ((if 0 > n_ then 0 else n_),[],[],0)).bind fun y9 =>
  bzj n y9.1 y9.2
def dze (n:Nat):Go.AE.Fn:=mkFn (A:=(List aj0)×Int) (R:=(List aj0)×(List aj0)) 97 [(false,[.slice 80]),(false,[.int .i64])] false (fun xs=>(((cg (xs.getD 0 []) 0).toSl.map ajm),(cg (xs.getD 1 []) 0).toInt)) (fun a=>[[.slice (List.map aj1 a.1)],[.int a.2]]) (fun a=>by4 n a.1 a.2) (fun r=>[.own 0 [.int .i64,.int .i64] 0 r.1.length,.own 1 [.int .i64,.int .i64] 0 r.2.length]) (fun r=>[.row 80 (List.map aj1 r.1),.row 80 (List.map aj1 r.2)])
theorem fjm (n:Nat):aj2 Tryz.prog (dze n):=by
 have hΓ:=g1 (bw5 n) (@g0 (aj2 Tryz.prog))
 refine aj8 (Tryz.f97.body.getD .skip) h00 Tryz.func97 rfl Tryz.call97 (by decide) (fun _ r=>⟨rfl,m1 ⟨80,_,_,rfl,ty80,rfl⟩ (m1 ⟨80,_,_,rfl,ty80,rfl⟩ m0)⟩) ?_
 rintro ⟨l,n_⟩ r H
 try dsimp only at H
 unfold by4 at H
 simp only [Tryz.f97,Option.getD]
 refine rA ?_
 refine Sm.seqK fun K2 hK2=>?_
 obtain ⟨r1,hr1,H⟩:=bind_some H
 have q:=And.intro @azn.eq_1 hr1
 refine rAq ?_
 refine cnd H (fun h4 H=>?_) (fun h4 H=>?_)
 ·refine rA ?_
  refine Sm.ret ?_
  refine lf ?_
  obtain rfl:=Option.some.inj H
  exact rto [none,none]
 refine Sm.skip ?_
 refine hK2 _ ?_
 refine rA ?_
 refine Sm.cut (fun (x:(List aj0)×(List aj0))=>cyi x.1 x.2) (fun x=>bzj n x.1 x.2=some r) ?_ ?_
 ·refine rA ?_
  refine Sm.block ?_
  obtain ⟨y9,hy9,Ho9⟩:=bind_some H
  refine Sm.loopB _ (fun x=>cyx l (l.length:Int) x.1 x.2.1 x.2.2.1 x.2.2.2) hy9 (wb [none,none]) ?_
  rintro ⟨n__1,kept_1,rest_1,v16⟩ z9 H
  try dsimp only at H
  unfold ay0 at H
  refine Sm.st (cyx.eq_1 ..) ?_
  refine rA ?_
  refine Sm.seqK fun K11 hK11=>?_
  refine cnd H (fun h12 H=>?_) (fun h12 H=>?_)
  ·refine Sm.skip ?_
   refine hK11 _ ?_
   refine Sm.cut (fun (x:Int×(List aj0)×(List aj0))=>cyt x.1 x.2.1 x.2.2 l (l.length:Int) v16) (fun x=>bz6 n x.1 x.2.1 x.2.2 l (l.length:Int) v16=some z9) ?_ ?_
   ·refine Sm.block ?_
    obtain ⟨hg21,H⟩:=aj7 H
    refine rA ?_
    refine rA ?_
    refine Sm.cut (fun (x:(List aj0))=>cy8 n__1 x rest_1 ((gt l (Int.toNat v16)).At) ((gt l (Int.toNat v16)).Len) (if ((gt l (Int.toNat v16)).Len) < n__1 then ((gt l (Int.toNat v16)).Len) else n__1) l (l.length:Int) v16) (fun x=>bji n n__1 x rest_1 ((gt l (Int.toNat v16)).At) ((gt l (Int.toNat v16)).Len) (if ((gt l (Int.toNat v16)).Len) < n__1 then ((gt l (Int.toNat v16)).Len) else n__1) l (l.length:Int) v16=some z9) ?_ ?_
    ·refine rA ?_
     refine cnd H (fun h19 H=>?_) (fun h19 H=>?_)
     ·obtain ⟨hg20,H⟩:=aj7 H
      refine eA ?_
      refine lf ?_
      exact ⟨_,H,wb [some 512,some 9005,some 112]⟩
     refine Sm.skip ?_
     refine lf ?_
     exact ⟨_,H,wb [some 9004,some 9005,some 112]⟩
    rintro kept_3 H
    try dsimp only at H
    unfold bji at H
    refine Sm.st (cy8.eq_1 ..) ?_
    refine Sm.cut (fun (x:(List aj0))=>cyb n__1 kept_3 x (if ((gt l (Int.toNat v16)).Len) < n__1 then ((gt l (Int.toNat v16)).Len) else n__1) l (l.length:Int) v16) (fun x=>bjg n n__1 kept_3 x (if ((gt l (Int.toNat v16)).Len) < n__1 then ((gt l (Int.toNat v16)).Len) else n__1) l (l.length:Int) v16=some z9) ?_ ?_
    ·refine rA ?_
     refine cnd H (fun h16 H=>?_) (fun h16 H=>?_)
     ·obtain ⟨hg17,H⟩:=aj7 H
      refine eA ?_
      refine lf ?_
      exact ⟨_,H,wb [some 9008,some 768]⟩
     refine Sm.skip ?_
     refine lf ?_
     exact ⟨_,H,wb [some 9008,some 9009]⟩
    rintro rest_3 H
    try dsimp only at H
    unfold bjg at H
    refine Sm.st (cyb.eq_1 ..) ?_
    refine eA ?_
    refine lf ?_
    exact ⟨((IntKind.wrap .i64 (n__1 - (if ((gt l (Int.toNat v16)).Len) < n__1 then ((gt l (Int.toNat v16)).Len) else n__1))),kept_3,rest_3),H,wb [some 9011,some 9012]⟩
   rintro ⟨n__2,kept_2,rest_2⟩ H
   try dsimp only at H
   unfold bz6 at H
   refine Sm.st (cyt.eq_1 ..) ?_
   refine eA ?_
   refine lf ?_
   exact nx H (wb [some 9006,some 9007])
  refine Sm.exit ?_
  refine lf ?_
  refine lx H fun hyy=>?_
  subst hyy
  have H:=Ho9
  try dsimp only at H
  refine lf ?_
  exact ⟨(kept_1,rest_1),H,wb [some 9004,some 9005]⟩
 rintro ⟨kept,rest⟩ H
 try dsimp only at H
 unfold bzj at H
 refine Sm.st (cyi.eq_1 ..) ?_
 refine rA ?_
 refine Sm.ret ?_
 refine lf ?_
 obtain rfl:=Option.some.inj H
 exact rto [some 9000,some 9001]
def ayv (n:Nat) (d:List aj4) (d_i:Nat) (p1:Int):Option (Int×(List aj4)) :=
 gd (d_i < d.length∧d_i < d.length) <|
 (by4 n ((gt d d_i).Extents) (if 1 > (if ((gt d d_i).Used) > p1 then ((gt d d_i).Used) else p1) then 1 else (if ((gt d d_i).Used) > p1 then ((gt d d_i).Used) else p1))).bind fun r1 =>
 gd (d_i < d.length) <|
 some (0,(List.set d d_i (⟨(gt d d_i).Name,((gt d d_i).Dcb),r1.1,(gt d d_i).Used⟩:aj4)))
theorem dw5 (n:Nat) (d:List aj4) (d_i:Nat) (p1:Int) (r:Int×(List aj4)) (H:ayv n d d_i p1=some r):az6 Tryz.prog 96 [.ref (.elt 0 11 [.str,.int .i64,.int .i64,.bool,.bool,.int .i64,.int .i64,.int .i64,.int .i64,.slice 80,.int .i64] d_i 0),.ref (.box 1 0)] [.row 41 (List.map aj3 d),.box [.c (.int .i64) (.int p1)]] [.c (.int .i64) (.int r.1)] [.row 41 (List.map aj3 r.2),.box [.c (.int .i64) (.int p1)]]:=by
 have hΓ:=g1 (fjm n) (@g0 (aj2 Tryz.prog))
 refine az2 (Tryz.f96.body.getD .skip) h00 Tryz.func96 rfl Tryz.call96 (Nat.le_of_ble_eq_true rfl) (Nat.le_of_ble_eq_true rfl) ?_
 unfold ayv at H
 simp only [Tryz.f96,Option.getD]
 refine rA ?_
 obtain ⟨⟨hg3,hg4⟩,H⟩:=aj7 H
 obtain ⟨r1,hr1,H⟩:=bind_some H
 obtain ⟨hg5,H⟩:=aj7 H
 refine sQ [0,1,2,3,4,5,6,7,8,9,10,11,12,13,14,15,16,17] [(none,[],[]),(none,[],[]),(none,[1000001,0],[]),(none,[0],[]),(none,[0],[]),(none,[1],[]),(none,[],[]),(none,[1000001,0],[]),(none,[0],[]),(none,[0],[]),(none,[],[]),(none,[],[271,270,269,268,267,266,265,264,263,262,261,260,259,258,257,256]),(none,[],[]),(none,[],[]),(none,[],[]),(none,[1000001,0],[]),(none,[0],[]),(none,[0,256],[0,256])] fun K2 hK2=>?_
 have q:=And.intro @dze.eq_1 hr1
 iterate 2 refine oQq ?_
 refine oQVq ?_
 iterate 4 refine oQq ?_
 refine oQVq ?_
 iterate 7 refine oQq ?_
 refine oQVq ?_
 iterate 2 refine oQq ?_
 refine cw0 ?_
 refine hK2 _ ?_
 refine rA ?_
 refine Sm.ret ?_
 refine lf ?_
 obtain rfl:=Option.some.inj H
 exact rtM [some 0,some 1]
def bzf (n:Nat) (v:aj5) (name:List UInt8) (how:Int):Option (aj5×Int) :=
 (awq n v).bind fun r1 =>
 bif (r1 != 0) then
  some ((⟨[],0,0,0,[]⟩:aj5),r1)
 else
  (ajy n v name).bind fun r2 =>
  bif (!r2.2) then
   some ((⟨[],0,0,0,[]⟩:aj5),3)
  else
   (ajt n v).bind fun r3 =>
   gd ((0≤r2.1∧r2.1 < (r3.Sets.length:Int))) <|
   (ayv n r3.Sets (Int.toNat r2.1) how).bind fun r4 =>
   gd (r4.2.length=r3.Sets.length) <|
   bif (r4.1 != 0) then
    some ((⟨[],0,0,0,[]⟩:aj5),r4.1)
   else
    some ((⟨r3.Serial,r3.Cyls,r3.Heads,r3.Size,r4.2⟩:aj5),0)
theorem ejf (n:Nat) (v:aj5) (name:List UInt8) (how:Int) (r:aj5×Int) (H:bzf n v name how=some r):az6 Tryz.prog 87 [.dat (true,[.str,.int .i64,.int .i64,.int .i64,.slice 41]) [.str v.Serial,.int v.Cyls,.int v.Heads,.int v.Size,.slice (List.map aj3 v.Sets)],.dat (false,[.str]) [.str name],.ref (.fnv 96 [.box 0 0])] [.box [.c (.int .i64) (.int how)]] [.agg [.c .str (.str r.1.Serial),.c (.int .i64) (.int r.1.Cyls),.c (.int .i64) (.int r.1.Heads),.c (.int .i64) (.int r.1.Size),.own 1 [.str,.int .i64,.int .i64,.bool,.bool,.int .i64,.int .i64,.int .i64,.int .i64,.slice 80,.int .i64] 0 r.1.Sets.length],.c (.int .i64) (.int r.2)] [.box [.c (.int .i64) (.int how)],.row 41 (List.map aj3 r.1.Sets)]:=by
 have hΓ:=g1 (ayp n) (g1 (aw8 n) (g1 (azg n) (@g0 (aj2 Tryz.prog))))
 refine az2 (Tryz.f87.body.getD .skip) h00 Tryz.func87 rfl Tryz.call87 (Nat.le_of_ble_eq_true rfl) (Nat.le_of_ble_eq_true rfl) ?_
 unfold bzf at H
 simp only [Tryz.f87,Option.getD]
 refine rA ?_
 refine Sm.seqK fun K2 hK2=>?_
 obtain ⟨r1,hr1,H⟩:=bind_some H
 have q:=And.intro @ajq.eq_1 hr1
 refine rAq ?_
 refine rA ?_
 refine cnd H (fun h5 H=>?_) (fun h5 H=>?_)
 ·refine rA ?_
  refine Sm.ret ?_
  refine lf ?_
  obtain rfl:=Option.some.inj H
  exact rtM [some 0,none]
 refine Sm.skip ?_
 refine hK2 _ ?_
 obtain ⟨r2,hr2,H⟩:=bind_some H
 have q:=And.intro @ajq.eq_1 (And.intro @ajn.eq_1 hr2)
 refine rAq ?_
 refine Sm.seqK fun K8 hK8=>?_
 refine rA ?_
 refine cnd H (fun h10 H=>?_) (fun h10 H=>?_)
 ·refine rA ?_
  refine Sm.ret ?_
  refine lf ?_
  obtain rfl:=Option.some.inj H
  exact rtM [some 0,none]
 refine Sm.skip ?_
 refine hK8 _ ?_
 obtain ⟨r3,hr3,H⟩:=bind_some H
 have q:=And.intro @ajq.eq_1 (And.intro @ajn.eq_1 (And.intro @awn.eq_1 hr3))
 refine rAq ?_
 refine Sm.seqK fun K13 hK13=>?_
 refine sX fun K14 hK14=>?_
 obtain ⟨hg15,H⟩:=aj7 H
 obtain ⟨r4,hr4,H⟩:=bind_some H
 obtain ⟨hg16,H⟩:=aj7 H
 have q:=hr4
 iterate 5 refine oX ?_
 refine oMq (dw5 n _ _ _ r4 hr4) [464,0] [] ?_
 refine oXq ?_
 refine hK14 _ ?_
 refine rA ?_
 refine cnd H (fun h18 H=>?_) (fun h18 H=>?_)
 ·refine rA ?_
  refine Sm.ret ?_
  refine lf ?_
  obtain rfl:=Option.some.inj H
  exact rtM [some 0,none]
 refine Sm.skip ?_
 refine hK13 _ ?_
 refine rA ?_
 refine Sm.ret ?_
 refine lf ?_
 obtain rfl:=Option.some.inj H
 exact rtM [some 0,some 464]
def bzw (n:Nat) (v:aj5) (name:List UInt8) (keep:Int):Option (aj5×Int) :=
 (bzf n v name keep).bind fun r1 =>
 some (r1.1,r1.2)
def bw0 (n:Nat):Go.AE.Fn:=mkFn (A:=aj5×(List UInt8)×Int) (R:=aj5×Int) 47 [(true,[.str,.int .i64,.int .i64,.int .i64,.slice 41]),(false,[.str]),(false,[.int .i64])] true (fun xs=>((⟨(cg (xs.getD 0 []) 0).toStr,(cg (xs.getD 0 []) 1).toInt,(cg (xs.getD 0 []) 2).toInt,(cg (xs.getD 0 []) 3).toInt,((cg (xs.getD 0 []) 4).toSl.map aqd)⟩:aj5),(cg (xs.getD 1 []) 0).toStr,(cg (xs.getD 2 []) 0).toInt)) (fun a=>[[.str a.1.Serial,.int a.1.Cyls,.int a.1.Heads,.int a.1.Size,.slice (List.map aj3 a.1.Sets)],[.str a.2.1],[.int a.2.2]]) (fun a=>bzw n a.1 a.2.1 a.2.2) (fun r=>[.agg [.c .str (.str r.1.Serial),.c (.int .i64) (.int r.1.Cyls),.c (.int .i64) (.int r.1.Heads),.c (.int .i64) (.int r.1.Size),.own 0 [.str,.int .i64,.int .i64,.bool,.bool,.int .i64,.int .i64,.int .i64,.int .i64,.slice 80,.int .i64] 0 r.1.Sets.length],.c (.int .i64) (.int r.2)]) (fun r=>[.row 41 (List.map aj3 r.1.Sets)])
theorem ezq (n:Nat):aj2 Tryz.prog (bw0 n):=by
 have hΓ:=@g0 (aj2 Tryz.prog)
 refine aj8 (Tryz.f47.body.getD .skip) h00 Tryz.func47 rfl Tryz.call47 (by decide) (by intro h;cases h) ?_
 rintro ⟨v,name,keep⟩ r H
 try dsimp only at H
 unfold bzw at H
 simp only [Tryz.f47,Option.getD]
 refine rA ?_
 refine sX fun K2 hK2=>?_
 obtain ⟨r1,hr1,H⟩:=bind_some H
 have q:=hr1
 iterate 2 refine oX ?_
 refine oY ?_
 refine oMq (ejf n _ _ _ r1 hr1) [80] [176] ?_
 iterate 4 refine oXq ?_
 refine hK2 _ ?_
 refine Sm.ret ?_
 refine lf ?_
 obtain rfl:=Option.some.inj H
 exact rto [some 176]
def bjs (n:Nat) (d:List aj4) (d_i:Nat) (p1:Int) (p1_:Int) (p1__:Bool) (p1___:Bool) (p1____:Int) (p1_____:Int) (p1______:Int) (p1_______:Int) (p2:Int):Option (Int×(List aj4)) :=
 (aqm n (⟨p1,p1_,p1__,p1___,p1____,p1_____,p1______,p1_______⟩:TDcb)).bind fun r1 =>
 bif (!r1) then
  some (1,d)
 else
  gd (d_i < d.length) <|
  (bqd n ((gt d d_i).Extents)).bind fun r2 =>
  (aqa n p2 0 r2).bind fun r3 =>
  bif (!r3) then
   some (6,d)
  else
   gd (d_i < d.length∧d_i < d.length) <|
   some (0,(List.set (List.set d d_i (⟨(gt d d_i).Name,(⟨p1,p1_,p1__,p1___,p1____,p1_____,p1______,p1_______⟩:TDcb),(gt d d_i).Extents,(gt d d_i).Used⟩:aj4)) d_i (⟨(gt (List.set d d_i (⟨(gt d d_i).Name,(⟨p1,p1_,p1__,p1___,p1____,p1_____,p1______,p1_______⟩:TDcb),(gt d d_i).Extents,(gt d d_i).Used⟩:aj4)) d_i).Name,((gt (List.set d d_i (⟨(gt d d_i).Name,(⟨p1,p1_,p1__,p1___,p1____,p1_____,p1______,p1_______⟩:TDcb),(gt d d_i).Extents,(gt d d_i).Used⟩:aj4)) d_i).Dcb),(gt (List.set d d_i (⟨(gt d d_i).Name,(⟨p1,p1_,p1__,p1___,p1____,p1_____,p1______,p1_______⟩:TDcb),(gt d d_i).Extents,(gt d d_i).Used⟩:aj4)) d_i).Extents,p2⟩:aj4)))
theorem dww (n:Nat) (d:List aj4) (d_i:Nat) (p1:Int) (p1_:Int) (p1__:Bool) (p1___:Bool) (p1____:Int) (p1_____:Int) (p1______:Int) (p1_______:Int) (p2:Int) (r:Int×(List aj4)) (H:bjs n d d_i p1 p1_ p1__ p1___ p1____ p1_____ p1______ p1_______ p2=some r):az6 Tryz.prog 98 [.ref (.elt 0 11 [.str,.int .i64,.int .i64,.bool,.bool,.int .i64,.int .i64,.int .i64,.int .i64,.slice 80,.int .i64] d_i 0),.ref (.box 1 0),.ref (.box 2 0)] [.row 41 (List.map aj3 d),.box [.c (.int .i64) (.int p1),.c (.int .i64) (.int p1_),.c .bool (.bool p1__),.c .bool (.bool p1___),.c (.int .i64) (.int p1____),.c (.int .i64) (.int p1_____),.c (.int .i64) (.int p1______),.c (.int .i64) (.int p1_______)],.box [.c (.int .i64) (.int p2)]] [.c (.int .i64) (.int r.1)] [.row 41 (List.map aj3 r.2),.box [.c (.int .i64) (.int p1),.c (.int .i64) (.int p1_),.c .bool (.bool p1__),.c .bool (.bool p1___),.c (.int .i64) (.int p1____),.c (.int .i64) (.int p1_____),.c (.int .i64) (.int p1______),.c (.int .i64) (.int p1_______)],.box [.c (.int .i64) (.int p2)]]:=by
 have hΓ:=g1 (byh n) (g1 (djq n) (g1 (dy1 n) (@g0 (aj2 Tryz.prog))))
 refine az2 (Tryz.f98.body.getD .skip) h00 Tryz.func98 rfl Tryz.call98 (Nat.le_of_ble_eq_true rfl) (Nat.le_of_ble_eq_true rfl) ?_
 unfold bjs at H
 simp only [Tryz.f98,Option.getD]
 refine rA ?_
 refine Sm.seqK fun K2 hK2=>?_
 obtain ⟨r1,hr1,H⟩:=bind_some H
 have q:=And.intro @aw2.eq_1 hr1
 refine rAq ?_
 refine cnd H (fun h4 H=>?_) (fun h4 H=>?_)
 ·refine rA ?_
  refine Sm.ret ?_
  refine lf ?_
  obtain rfl:=Option.some.inj H
  exact rtM [some 0,some 1,some 2]
 refine Sm.skip ?_
 refine hK2 _ ?_
 refine Sm.seqK fun K6 hK6=>?_
 obtain ⟨hg8,H⟩:=aj7 H
 obtain ⟨r2,hr2,H⟩:=bind_some H
 obtain ⟨r3,hr3,H⟩:=bind_some H
 refine sQ [0,1,2,3,4,5,6,7] [(none,[2],[]),(none,[],[]),(none,[1000001,0],[]),(none,[0],[]),(none,[0],[]),(none,[],[223,222,221,220,219,218,217,216,215,214,213,212,211,210,209,208]),(none,[],[239,238,237,236,235,234,233,232,231,230,229,228,227,226,225,224]),(none,[],[])] fun K7 hK7=>?_
 have q:=And.intro @aw2.eq_1 (And.intro @cqu.eq_1 (And.intro @bkn.eq_1 (And.intro hr2 hr3)))
 iterate 2 refine oQq ?_
 refine oQVq ?_
 iterate 5 refine oQq ?_
 refine cw0 ?_
 refine hK7 _ ?_
 refine cnd H (fun h9 H=>?_) (fun h9 H=>?_)
 ·refine rA ?_
  refine Sm.ret ?_
  refine lf ?_
  obtain rfl:=Option.some.inj H
  exact rtM [some 0,some 1,some 2]
 refine Sm.skip ?_
 refine hK6 _ ?_
 obtain ⟨⟨hg12,hg13⟩,H⟩:=aj7 H
 refine sQ [0,1,2,3,4,5,6,7,8,9] [(none,[],[]),(none,[],[]),(none,[1],[]),(none,[2],[]),(none,[1000001,0],[]),(none,[0],[]),(none,[0],[0]),(none,[1000001,0],[]),(none,[0],[]),(none,[0],[0])] fun K11 hK11=>?_
 iterate 4 refine oQ ?_
 refine oQV ?_
 iterate 2 refine oQ ?_
 refine oQV ?_
 iterate 2 refine oQ ?_
 refine cw0 ?_
 refine hK11 _ ?_
 refine rA ?_
 refine Sm.ret ?_
 refine lf ?_
 obtain rfl:=Option.some.inj H
 exact rtM [some 0,some 1,some 2]
def bzc (n:Nat) (v:aj5) (name:List UInt8) (how:Int) (how_:Int) (how__:Bool) (how___:Bool) (how____:Int) (how_____:Int) (how______:Int) (how_______:Int) (how________:Int):Option (aj5×Int) :=
 (awq n v).bind fun r1 =>
 bif (r1 != 0) then
  some ((⟨[],0,0,0,[]⟩:aj5),r1)
 else
  (ajy n v name).bind fun r2 =>
  bif (!r2.2) then
   some ((⟨[],0,0,0,[]⟩:aj5),3)
  else
   (ajt n v).bind fun r3 =>
   gd ((0≤r2.1∧r2.1 < (r3.Sets.length:Int))) <|
   (bjs n r3.Sets (Int.toNat r2.1) how how_ how__ how___ how____ how_____ how______ how_______ how________).bind fun r4 =>
   gd (r4.2.length=r3.Sets.length) <|
   bif (r4.1 != 0) then
    some ((⟨[],0,0,0,[]⟩:aj5),r4.1)
   else
    some ((⟨r3.Serial,r3.Cyls,r3.Heads,r3.Size,r4.2⟩:aj5),0)
theorem dym (n:Nat) (v:aj5) (name:List UInt8) (how:Int) (how_:Int) (how__:Bool) (how___:Bool) (how____:Int) (how_____:Int) (how______:Int) (how_______:Int) (how________:Int) (r:aj5×Int) (H:bzc n v name how how_ how__ how___ how____ how_____ how______ how_______ how________=some r):az6 Tryz.prog 87 [.dat (true,[.str,.int .i64,.int .i64,.int .i64,.slice 41]) [.str v.Serial,.int v.Cyls,.int v.Heads,.int v.Size,.slice (List.map aj3 v.Sets)],.dat (false,[.str]) [.str name],.ref (.fnv 98 [.box 0 0,.box 1 0])] [.box [.c (.int .i64) (.int how),.c (.int .i64) (.int how_),.c .bool (.bool how__),.c .bool (.bool how___),.c (.int .i64) (.int how____),.c (.int .i64) (.int how_____),.c (.int .i64) (.int how______),.c (.int .i64) (.int how_______)],.box [.c (.int .i64) (.int how________)]] [.agg [.c .str (.str r.1.Serial),.c (.int .i64) (.int r.1.Cyls),.c (.int .i64) (.int r.1.Heads),.c (.int .i64) (.int r.1.Size),.own 2 [.str,.int .i64,.int .i64,.bool,.bool,.int .i64,.int .i64,.int .i64,.int .i64,.slice 80,.int .i64] 0 r.1.Sets.length],.c (.int .i64) (.int r.2)] [.box [.c (.int .i64) (.int how),.c (.int .i64) (.int how_),.c .bool (.bool how__),.c .bool (.bool how___),.c (.int .i64) (.int how____),.c (.int .i64) (.int how_____),.c (.int .i64) (.int how______),.c (.int .i64) (.int how_______)],.box [.c (.int .i64) (.int how________)],.row 41 (List.map aj3 r.1.Sets)]:=by
 have hΓ:=g1 (ayp n) (g1 (aw8 n) (g1 (azg n) (@g0 (aj2 Tryz.prog))))
 refine az2 (Tryz.f87.body.getD .skip) h00 Tryz.func87 rfl Tryz.call87 (Nat.le_of_ble_eq_true rfl) (Nat.le_of_ble_eq_true rfl) ?_
 unfold bzc at H
 simp only [Tryz.f87,Option.getD]
 refine rA ?_
 refine Sm.seqK fun K2 hK2=>?_
 obtain ⟨r1,hr1,H⟩:=bind_some H
 have q:=And.intro @ajq.eq_1 hr1
 refine rAq ?_
 refine rA ?_
 refine cnd H (fun h5 H=>?_) (fun h5 H=>?_)
 ·refine rA ?_
  refine Sm.ret ?_
  refine lf ?_
  obtain rfl:=Option.some.inj H
  exact rtM [some 0,some 1,none]
 refine Sm.skip ?_
 refine hK2 _ ?_
 obtain ⟨r2,hr2,H⟩:=bind_some H
 have q:=And.intro @ajq.eq_1 (And.intro @ajn.eq_1 hr2)
 refine rAq ?_
 refine Sm.seqK fun K8 hK8=>?_
 refine rA ?_
 refine cnd H (fun h10 H=>?_) (fun h10 H=>?_)
 ·refine rA ?_
  refine Sm.ret ?_
  refine lf ?_
  obtain rfl:=Option.some.inj H
  exact rtM [some 0,some 1,none]
 refine Sm.skip ?_
 refine hK8 _ ?_
 obtain ⟨r3,hr3,H⟩:=bind_some H
 have q:=And.intro @ajq.eq_1 (And.intro @ajn.eq_1 (And.intro @awn.eq_1 hr3))
 refine rAq ?_
 refine Sm.seqK fun K13 hK13=>?_
 refine sX fun K14 hK14=>?_
 obtain ⟨hg15,H⟩:=aj7 H
 obtain ⟨r4,hr4,H⟩:=bind_some H
 obtain ⟨hg16,H⟩:=aj7 H
 have q:=hr4
 iterate 5 refine oX ?_
 refine oMq (dww n _ _ _ _ _ _ _ _ _ _ _ r4 hr4) [464,0,1] [] ?_
 refine oXq ?_
 refine hK14 _ ?_
 refine rA ?_
 refine cnd H (fun h18 H=>?_) (fun h18 H=>?_)
 ·refine rA ?_
  refine Sm.ret ?_
  refine lf ?_
  obtain rfl:=Option.some.inj H
  exact rtM [some 0,some 1,none]
 refine Sm.skip ?_
 refine hK13 _ ?_
 refine rA ?_
 refine Sm.ret ?_
 refine lf ?_
 obtain rfl:=Option.some.inj H
 exact rtM [some 0,some 1,some 464]
def bys (n:Nat) (v:aj5) (name:List UInt8) (c:TDcb) (used:Int):Option (aj5×Int) :=
 (bzc n v name c.Org c.Format c.Blocked c.Asa c.Lrecl c.Blksize c.KeyLen c.KeyPos used).bind fun r1 =>
 some (r1.1,r1.2)
def cj7 (n:Nat):Go.AE.Fn:=mkFn (A:=aj5×(List UInt8)×TDcb×Int) (R:=aj5×Int) 48 [(true,[.str,.int .i64,.int .i64,.int .i64,.slice 41]),(false,[.str]),(true,[.int .i64,.int .i64,.bool,.bool,.int .i64,.int .i64,.int .i64,.int .i64]),(false,[.int .i64])] true (fun xs=>((⟨(cg (xs.getD 0 []) 0).toStr,(cg (xs.getD 0 []) 1).toInt,(cg (xs.getD 0 []) 2).toInt,(cg (xs.getD 0 []) 3).toInt,((cg (xs.getD 0 []) 4).toSl.map aqd)⟩:aj5),(cg (xs.getD 1 []) 0).toStr,(⟨(cg (xs.getD 2 []) 0).toInt,(cg (xs.getD 2 []) 1).toInt,(cg (xs.getD 2 []) 2).toBool,(cg (xs.getD 2 []) 3).toBool,(cg (xs.getD 2 []) 4).toInt,(cg (xs.getD 2 []) 5).toInt,(cg (xs.getD 2 []) 6).toInt,(cg (xs.getD 2 []) 7).toInt⟩:TDcb),(cg (xs.getD 3 []) 0).toInt)) (fun a=>[[.str a.1.Serial,.int a.1.Cyls,.int a.1.Heads,.int a.1.Size,.slice (List.map aj3 a.1.Sets)],[.str a.2.1],[.int a.2.2.1.Org,.int a.2.2.1.Format,.bool a.2.2.1.Blocked,.bool a.2.2.1.Asa,.int a.2.2.1.Lrecl,.int a.2.2.1.Blksize,.int a.2.2.1.KeyLen,.int a.2.2.1.KeyPos],[.int a.2.2.2]]) (fun a=>bys n a.1 a.2.1 a.2.2.1 a.2.2.2) (fun r=>[.agg [.c .str (.str r.1.Serial),.c (.int .i64) (.int r.1.Cyls),.c (.int .i64) (.int r.1.Heads),.c (.int .i64) (.int r.1.Size),.own 0 [.str,.int .i64,.int .i64,.bool,.bool,.int .i64,.int .i64,.int .i64,.int .i64,.slice 80,.int .i64] 0 r.1.Sets.length],.c (.int .i64) (.int r.2)]) (fun r=>[.row 41 (List.map aj3 r.1.Sets)])
theorem fjo (n:Nat):aj2 Tryz.prog (cj7 n):=by
 have hΓ:=@g0 (aj2 Tryz.prog)
 refine aj8 (Tryz.f48.body.getD .skip) h00 Tryz.func48 rfl Tryz.call48 (by decide) (by intro h;cases h) ?_
 rintro ⟨v,name,c,used⟩ r H
 try dsimp only at H
 unfold bys at H
 simp only [Tryz.f48,Option.getD]
 refine rA ?_
 refine sX fun K2 hK2=>?_
 obtain ⟨r1,hr1,H⟩:=bind_some H
 have q:=hr1
 iterate 2 refine oX ?_
 refine oY ?_
 refine oMq (dym n _ _ _ _ _ _ _ _ _ _ _ r1 hr1) [96,112] [208] ?_
 iterate 4 refine oXq ?_
 refine hK2 _ ?_
 refine Sm.ret ?_
 refine lf ?_
 obtain rfl:=Option.some.inj H
 exact rto [some 208]
def bj0 (n:Nat) (p0:List aj4) (p0_i:Nat):Option Int :=
 some 0
theorem djx (n:Nat) (p0:List aj4) (p0_i:Nat) (r:Int) (H:bj0 n p0 p0_i=some r):az6 Tryz.prog 88 [.ref (.elt 0 11 [.str,.int .i64,.int .i64,.bool,.bool,.int .i64,.int .i64,.int .i64,.int .i64,.slice 80,.int .i64] p0_i 0)] [.row 41 (List.map aj3 p0)] [.c (.int .i64) (.int r)] [.row 41 (List.map aj3 p0)]:=by
 have hΓ:=@g0 (aj2 Tryz.prog)
 refine az2 (Tryz.f88.body.getD .skip) h00 Tryz.func88 rfl Tryz.call88 (Nat.le_of_ble_eq_true rfl) (Nat.le_of_ble_eq_true rfl) ?_
 unfold bj0 at H
 simp only [Tryz.f88,Option.getD]
 refine rA ?_
 refine rA ?_
 refine Sm.ret ?_
 refine lf ?_
 obtain rfl:=Option.some.inj H
 exact rtM [some 0]
def bz8 (n:Nat) (v:aj5) (name:List UInt8):Option (aj5×Int) :=
 (awq n v).bind fun r1 =>
 bif (r1 != 0) then
  some ((⟨[],0,0,0,[]⟩:aj5),r1)
 else
  (ajy n v name).bind fun r2 =>
  bif (!r2.2) then
   some ((⟨[],0,0,0,[]⟩:aj5),3)
  else
   (ajt n v).bind fun r3 =>
   gd ((0≤r2.1∧r2.1 < (r3.Sets.length:Int))) <|
   (bj0 n r3.Sets (Int.toNat r2.1)).bind fun r4 =>
   bif (r4 != 0) then
    some ((⟨[],0,0,0,[]⟩:aj5),r4)
   else
    some (r3,0)
theorem eju (n:Nat) (v:aj5) (name:List UInt8) (r:aj5×Int) (H:bz8 n v name=some r):az6 Tryz.prog 87 [.dat (true,[.str,.int .i64,.int .i64,.int .i64,.slice 41]) [.str v.Serial,.int v.Cyls,.int v.Heads,.int v.Size,.slice (List.map aj3 v.Sets)],.dat (false,[.str]) [.str name],.ref (.fnv 88 [])] [] [.agg [.c .str (.str r.1.Serial),.c (.int .i64) (.int r.1.Cyls),.c (.int .i64) (.int r.1.Heads),.c (.int .i64) (.int r.1.Size),.own 0 [.str,.int .i64,.int .i64,.bool,.bool,.int .i64,.int .i64,.int .i64,.int .i64,.slice 80,.int .i64] 0 r.1.Sets.length],.c (.int .i64) (.int r.2)] [.row 41 (List.map aj3 r.1.Sets)]:=by
 have hΓ:=g1 (ayp n) (g1 (aw8 n) (g1 (azg n) (@g0 (aj2 Tryz.prog))))
 refine az2 (Tryz.f87.body.getD .skip) h00 Tryz.func87 rfl Tryz.call87 (Nat.le_of_ble_eq_true rfl) (Nat.le_of_ble_eq_true rfl) ?_
 unfold bz8 at H
 simp only [Tryz.f87,Option.getD]
 refine rA ?_
 refine Sm.seqK fun K2 hK2=>?_
 obtain ⟨r1,hr1,H⟩:=bind_some H
 have q:=And.intro @ajq.eq_1 hr1
 refine rAq ?_
 refine rA ?_
 refine cnd H (fun h5 H=>?_) (fun h5 H=>?_)
 ·refine rA ?_
  refine Sm.ret ?_
  refine lf ?_
  obtain rfl:=Option.some.inj H
  exact rtM [none]
 refine Sm.skip ?_
 refine hK2 _ ?_
 obtain ⟨r2,hr2,H⟩:=bind_some H
 have q:=And.intro @ajq.eq_1 (And.intro @ajn.eq_1 hr2)
 refine rAq ?_
 refine Sm.seqK fun K8 hK8=>?_
 refine rA ?_
 refine cnd H (fun h10 H=>?_) (fun h10 H=>?_)
 ·refine rA ?_
  refine Sm.ret ?_
  refine lf ?_
  obtain rfl:=Option.some.inj H
  exact rtM [none]
 refine Sm.skip ?_
 refine hK8 _ ?_
 obtain ⟨r3,hr3,H⟩:=bind_some H
 have q:=And.intro @ajq.eq_1 (And.intro @ajn.eq_1 (And.intro @awn.eq_1 hr3))
 refine rAq ?_
 refine Sm.seqK fun K13 hK13=>?_
 refine sX fun K14 hK14=>?_
 obtain ⟨hg15,H⟩:=aj7 H
 obtain ⟨r4,hr4,H⟩:=bind_some H
 have q:=hr4
 iterate 5 refine oX ?_
 refine oMq (djx n _ _ r4 hr4) [464] [] ?_
 refine oXq ?_
 refine hK14 _ ?_
 refine rA ?_
 refine cnd H (fun h17 H=>?_) (fun h17 H=>?_)
 ·refine rA ?_
  refine Sm.ret ?_
  refine lf ?_
  obtain rfl:=Option.some.inj H
  exact rtM [none]
 refine Sm.skip ?_
 refine hK13 _ ?_
 refine rA ?_
 refine Sm.ret ?_
 refine lf ?_
 obtain rfl:=Option.some.inj H
 exact rtM [some 464]
def aqv (n:Nat) (d:aj4) (p1:List UInt8):Option Bool :=
 some (d.Name == p1)
theorem cjf (n:Nat) (d:aj4) (p1:List UInt8) (r:Bool) (H:aqv n d p1=some r):az6 Tryz.prog 90 [.dat (true,[.str,.int .i64,.int .i64,.bool,.bool,.int .i64,.int .i64,.int .i64,.int .i64,.slice 80,.int .i64]) [.str d.Name,.int d.Dcb.Org,.int d.Dcb.Format,.bool d.Dcb.Blocked,.bool d.Dcb.Asa,.int d.Dcb.Lrecl,.int d.Dcb.Blksize,.int d.Dcb.KeyLen,.int d.Dcb.KeyPos,.slice (List.map aj1 d.Extents),.int d.Used],.ref (.box 0 0)] [.box [.c .str (.str p1)]] [.c .bool (.bool r)] [.box [.c .str (.str p1)]]:=by
 have hΓ:=@g0 (aj2 Tryz.prog)
 refine az2 (Tryz.f90.body.getD .skip) h00 Tryz.func90 rfl Tryz.call90 (Nat.le_of_ble_eq_true rfl) (Nat.le_of_ble_eq_true rfl) ?_
 unfold aqv at H
 simp only [Tryz.f90,Option.getD]
 refine rA ?_
 refine rA ?_
 refine Sm.ret ?_
 refine lf ?_
 obtain rfl:=Option.some.inj H
 exact rtM [some 0]
abbrev ayf (s:List aj4) (f:List UInt8):S:=stB [] [(0,.row 41 (List.map aj3 s)),(1,.box [.c .str (.str f)])]
def az1 (n:Nat) (s:List aj4) (f:List UInt8):Option Int :=
 some (-1)
abbrev ayn (s:List aj4) (f:List UInt8) (v7:Int) (v8:Int):S:=stB [(0,.own 0 [.str,.int .i64,.int .i64,.bool,.bool,.int .i64,.int .i64,.int .i64,.int .i64,.slice 80,.int .i64] 0 s.length),(1,.fnv 90 [.box 1 0]),(7,.c (.int .i64) (.int v7)),(8,.c (.int .i64) (.int v8))] [(0,.row 41 (List.map aj3 s)),(1,.box [.c .str (.str f)])]
def aq1 (n:Nat) (s:List aj4) (f:List UInt8) (v7:Int) (v8:Int):Option ((Int) ⊕ (((Int) ⊕ (Unit)))) :=
 bif (decide (v8 < v7)) then
  gd ((0≤v8∧v8 < (s.length:Int))∧(Int.toNat v8) < s.length) <|
  (aqv n (gt s (Int.toNat v8)) f).bind fun r1 =>
  bif r1 then
   some (.inr (.inl v8))
  else
   some (.inl (IntKind.wrap .i64 (v8+1)))
 else
  some (.inr (.inr ()))
def awp (n:Nat) (s:List aj4) (f:List UInt8):Option Int :=
 (ajj (fun (x:Int)=>aq1 n s f ((s.length:Nat):Int) x) n 0).bind fun y4 =>
 match y4 with
 | .inl vv =>
  some vv
 | .inr vv =>
  az1 n s f
theorem cjq (n:Nat) (s:List aj4) (f:List UInt8) (r:Int) (H:awp n s f=some r):az6 Tryz.prog 141 [.ref (.own 0 [.str,.int .i64,.int .i64,.bool,.bool,.int .i64,.int .i64,.int .i64,.int .i64,.slice 80,.int .i64] 0 s.length),.ref (.fnv 90 [.box 1 0])] [.row 41 (List.map aj3 s),.box [.c .str (.str f)]] [.c (.int .i64) (.int r)] [.row 41 (List.map aj3 s),.box [.c .str (.str f)]]:=by
 have hΓ:=@g0 (aj2 Tryz.prog)
 refine az2 (Tryz.f141.body.getD .skip) h00 Tryz.func141 rfl Tryz.call141 (Nat.le_of_ble_eq_true rfl) (Nat.le_of_ble_eq_true rfl) ?_
 unfold awp at H
 simp only [Tryz.f141,Option.getD]
 refine rA ?_
 refine Sm.cut (fun (x:Unit)=>ayf s f) (fun x=>az1 n s f=some r) ?_ ?_
 ·refine rA ?_
  refine Sm.block ?_
  obtain ⟨y4,hy4,Ho4⟩:=bind_some H
  refine Sm.loopB _ (fun x=>ayn s f ((s.length:Nat):Int) x) hy4 (wb [some 0,some 1]) ?_
  rintro v8 z4 H
  try dsimp only at H
  unfold aq1 at H
  refine Sm.st (ayn.eq_1 ..) ?_
  refine rA ?_
  refine Sm.seqK fun K6 hK6=>?_
  refine cnd H (fun h7 H=>?_) (fun h7 H=>?_)
  ·refine Sm.skip ?_
   refine hK6 _ ?_
   refine Sm.seqK fun K8 hK8=>?_
   refine Sm.block ?_
   refine rA ?_
   refine sX fun K10 hK10=>?_
   obtain ⟨⟨hg11,hg12⟩,H⟩:=aj7 H
   obtain ⟨r1,hr1,H⟩:=bind_some H
   have q:=hr1
   iterate 5 refine oX ?_
   refine oMq (cjf n _ _ r1 hr1) [1] [] ?_
   refine hK10 _ ?_
   refine cnd H (fun h13 H=>?_) (fun h13 H=>?_)
   ·refine rA ?_
    refine Sm.ret ?_
    refine lf ?_
    refine lx H fun hyy=>?_
    subst hyy
    have H:=Ho4
    try dsimp only at H
    refine lf ?_
    obtain rfl:=Option.some.inj H
    exact rtM [some 0,some 1]
   refine Sm.skip ?_
   refine hK8 _ ?_
   refine eA ?_
   refine lf ?_
   exact nx H (wb [some 0,some 1])
  refine Sm.exit ?_
  refine lf ?_
  refine lx H fun hyy=>?_
  subst hyy
  have H:=Ho4
  try dsimp only at H
  refine lf ?_
  exact ⟨(),H,wb [some 0,some 1]⟩
 rintro ⟨⟩ H
 try dsimp only at H
 unfold az1 at H
 refine Sm.st (ayf.eq_1 ..) ?_
 refine rA ?_
 refine Sm.ret ?_
 refine lf ?_
 obtain rfl:=Option.some.inj H
 exact rtM [some 0,some 1]
abbrev aym (b0:List aj4) (del:List UInt8) (i:Int):S:=stB [(0,.own 0 [.str,.int .i64,.int .i64,.bool,.bool,.int .i64,.int .i64,.int .i64,.int .i64,.slice 80,.int .i64] 0 b0.length),(5,.c (.int .i64) (.int i))] [(0,.row 41 (List.map aj3 b0)),(1,.box [.c .str (.str del)])]
def aw0 (n:Nat) (b0:List aj4) (del:List UInt8) (i:Int):Option (Nat×(List aj4)) :=
 gd ((0≤i∧i≤(b0.length:Int)∧(b0.length:Int)≤(b0.length:Int))∧((Int.toNat i)+(Int.toNat ((b0.length:Int) - i)))≤b0.length) <|
 gd ((0≤i∧i≤(b0.length:Int))) <|
 some ((Int.toNat (i - 0)),(bkl b0 (Int.toNat i) (ak0 (Int.toNat ((b0.length:Int) - i)) (⟨[],(⟨0,0,false,false,0,0,0,0⟩:TDcb),[],0⟩:aj4))))
abbrev ayh (b0_2:List aj4) (del:List UInt8) (i_2:Int) (j:Int):S:=stB [(0,.own 0 [.str,.int .i64,.int .i64,.bool,.bool,.int .i64,.int .i64,.int .i64,.int .i64,.slice 80,.int .i64] 0 b0_2.length),(1,.fnv 90 [.box 1 0]),(5,.c (.int .i64) (.int i_2)),(6,.c (.int .i64) (.int j))] [(0,.row 41 (List.map aj3 b0_2)),(1,.box [.c .str (.str del)])]
def aq2 (n:Nat) (b0_2:List aj4) (del:List UInt8) (i_2:Int) (j:Int):Option (((List aj4)×Int×Int) ⊕ (((List aj4)×Int))) :=
 some (.inl (b0_2,i_2,(IntKind.wrap .i64 (j+1))))
abbrev ayc (del:List UInt8) (b0_1:List aj4) (i_1:Int) (j:Int):S:=stB [(0,.own 0 [.str,.int .i64,.int .i64,.bool,.bool,.int .i64,.int .i64,.int .i64,.int .i64,.slice 80,.int .i64] 0 b0_1.length),(1,.fnv 90 [.box 1 0]),(5,.c (.int .i64) (.int i_1)),(6,.c (.int .i64) (.int j))] [(0,.row 41 (List.map aj3 b0_1)),(1,.box [.c .str (.str del)])]
def ajr (n:Nat) (del:List UInt8) (b0_1:List aj4) (i_1:Int) (j:Int):Option (((List aj4)×Int×Int) ⊕ (((List aj4)×Int))) :=
 bif (decide (j < ((b0_1.length:Nat):Int))) then
  gd ((0≤j∧j < (b0_1.length:Int))∧(Int.toNat j) < b0_1.length) <|
  (aqv n (gt b0_1 (Int.toNat j)) del).bind fun r2 =>
  bif (!r2) then
   gd ((0≤i_1∧i_1 < (b0_1.length:Int))∧(Int.toNat i_1) < b0_1.length) <|
   aq2 n (List.set b0_1 (Int.toNat i_1) (gt b0_1 (Int.toNat j))) del (IntKind.wrap .i64 (i_1+1)) j
  else
   aq2 n b0_1 del i_1 j
 else
  some (.inr (b0_1,i_1))
def aqr (n:Nat) (s:List aj4) (del:List UInt8):Option (Nat×(List aj4)) :=
 (awp n s del).bind fun r1 =>
 bif (r1 == (-1)) then
  some (s.length,s)
 else
  (ajj (fun (x:(List aj4)×Int×Int)=>ajr n del x.1 x.2.1 x.2.2) n (s,r1,(IntKind.wrap .i64 (r1+1)))).bind fun y13 =>
  aw0 n y13.1 del y13.2
theorem cjs (n:Nat) (s:List aj4) (del:List UInt8) (r:Nat×(List aj4)) (H:aqr n s del=some r):az6 Tryz.prog 89 [.ref (.own 0 [.str,.int .i64,.int .i64,.bool,.bool,.int .i64,.int .i64,.int .i64,.int .i64,.slice 80,.int .i64] 0 s.length),.ref (.fnv 90 [.box 1 0])] [.row 41 (List.map aj3 s),.box [.c .str (.str del)]] [.own 0 [.str,.int .i64,.int .i64,.bool,.bool,.int .i64,.int .i64,.int .i64,.int .i64,.slice 80,.int .i64] 0 r.1] [.row 41 (List.map aj3 r.2),.box [.c .str (.str del)]]:=by
 have hΓ:=@g0 (aj2 Tryz.prog)
 refine az2 (Tryz.f89.body.getD .skip) h00 Tryz.func89 rfl Tryz.call89 (Nat.le_of_ble_eq_true rfl) (Nat.le_of_ble_eq_true rfl) ?_
 unfold aqr at H
 simp only [Tryz.f89,Option.getD]
 refine rA ?_
 refine sX fun K2 hK2=>?_
 obtain ⟨r1,hr1,H⟩:=bind_some H
 have q:=hr1
 iterate 2 refine oX ?_
 refine oMq (cjq n _ _ r1 hr1) [0,1] [] ?_
 refine oXq ?_
 refine hK2 _ ?_
 refine Sm.seqK fun K3 hK3=>?_
 refine rA ?_
 refine cnd H (fun h5 H=>?_) (fun h5 H=>?_)
 ·refine rA ?_
  refine Sm.ret ?_
  refine lf ?_
  obtain rfl:=Option.some.inj H
  exact rtM [some 0,some 1]
 refine Sm.skip ?_
 refine hK3 _ ?_
 refine Sm.cut (fun (x:(List aj4)×Int)=>aym x.1 del x.2) (fun x=>aw0 n x.1 del x.2=some r) ?_ ?_
 ·refine rA ?_
  refine Sm.block ?_
  obtain ⟨y13,hy13,Ho13⟩:=bind_some H
  refine Sm.loopB _ (fun x=>ayc del x.1 x.2.1 x.2.2) hy13 (wb [some 0,some 1]) ?_
  rintro ⟨b0_1,i_1,j⟩ z13 H
  try dsimp only at H
  unfold ajr at H
  refine Sm.st (ayc.eq_1 ..) ?_
  refine Sm.seqK fun K14 hK14=>?_
  refine rA ?_
  refine cnd H (fun h16 H=>?_) (fun h16 H=>?_)
  ·refine Sm.skip ?_
   refine hK14 _ ?_
   refine Sm.cut (fun (x:(List aj4)×Int)=>ayh x.1 del x.2 j) (fun x=>aq2 n x.1 del x.2 j=some z13) ?_ ?_
   ·refine Sm.block ?_
    obtain ⟨⟨hg23,hg24⟩,H⟩:=aj7 H
    refine rA ?_
    refine sX fun K18 hK18=>?_
    obtain ⟨r2,hr2,H⟩:=bind_some H
    have q:=hr2
    iterate 2 refine oX ?_
    refine oMq (cjf n _ _ r2 hr2) [1] [] ?_
    refine oXq ?_
    refine hK18 _ ?_
    refine cnd H (fun h19 H=>?_) (fun h19 H=>?_)
    ·obtain ⟨⟨hg21,hg22⟩,H⟩:=aj7 H
     refine rA ?_
     refine eA ?_
     refine lf ?_
     exact ⟨((List.set b0_1 (Int.toNat i_1) (gt b0_1 (Int.toNat j))),(IntKind.wrap .i64 (i_1+1))),H,wb [some 0,some 1]⟩
    refine Sm.skip ?_
    refine lf ?_
    exact ⟨(b0_1,i_1),H,wb [some 0,some 1]⟩
   rintro ⟨b0_2,i_2⟩ H
   try dsimp only at H
   unfold aq2 at H
   refine Sm.st (ayh.eq_1 ..) ?_
   refine eA ?_
   refine lf ?_
   exact nx H (wb [some 0,some 1])
  refine Sm.exit ?_
  refine lf ?_
  refine lx H fun hyy=>?_
  subst hyy
  have H:=Ho13
  try dsimp only at H
  refine lf ?_
  exact ⟨(b0_1,i_1),H,wb [some 0,some 1]⟩
 rintro ⟨b0,i⟩ H
 try dsimp only at H
 unfold aw0 at H
 refine Sm.st (aym.eq_1 ..) ?_
 refine sX fun K7 hK7=>?_
 obtain ⟨⟨hg8,hg9⟩,H⟩:=aj7 H
 iterate 3 refine oX ?_
 refine oY ?_
 refine hK7 _ ?_
 obtain ⟨hg11,H⟩:=aj7 H
 refine rA ?_
 refine Sm.ret ?_
 refine lf ?_
 obtain rfl:=Option.some.inj H
 exact rtM [some 0,some 1]
def bzt (n:Nat) (v:aj5) (name:List UInt8):Option (aj5×Int) :=
 (bz8 n v name).bind fun r1 =>
 bif (r1.2 != 0) then
  some ((⟨[],0,0,0,[]⟩:aj5),r1.2)
 else
  (aqr n r1.1.Sets name).bind fun r2 =>
  some ((⟨r1.1.Serial,r1.1.Cyls,r1.1.Heads,r1.1.Size,(List.take r2.1 r2.2)⟩:aj5),0)
def cw3 (n:Nat):Go.AE.Fn:=mkFn (A:=aj5×(List UInt8)) (R:=aj5×Int) 43 [(true,[.str,.int .i64,.int .i64,.int .i64,.slice 41]),(false,[.str])] true (fun xs=>((⟨(cg (xs.getD 0 []) 0).toStr,(cg (xs.getD 0 []) 1).toInt,(cg (xs.getD 0 []) 2).toInt,(cg (xs.getD 0 []) 3).toInt,((cg (xs.getD 0 []) 4).toSl.map aqd)⟩:aj5),(cg (xs.getD 1 []) 0).toStr)) (fun a=>[[.str a.1.Serial,.int a.1.Cyls,.int a.1.Heads,.int a.1.Size,.slice (List.map aj3 a.1.Sets)],[.str a.2]]) (fun a=>bzt n a.1 a.2) (fun r=>[.agg [.c .str (.str r.1.Serial),.c (.int .i64) (.int r.1.Cyls),.c (.int .i64) (.int r.1.Heads),.c (.int .i64) (.int r.1.Size),.c (.slice 41) (.slice (List.map aj3 r.1.Sets))],.c (.int .i64) (.int r.2)]) (fun r=>[])
theorem ek4 (n:Nat):aj2 Tryz.prog (cw3 n):=by
 have hΓ:=@g0 (aj2 Tryz.prog)
 refine aj8 (Tryz.f43.body.getD .skip) h00 Tryz.func43 rfl Tryz.call43 (by decide) (by intro h;cases h) ?_
 rintro ⟨v,name⟩ r H
 try dsimp only at H
 unfold bzt at H
 simp only [Tryz.f43,Option.getD]
 refine rA ?_
 refine sX fun K2 hK2=>?_
 obtain ⟨r1,hr1,H⟩:=bind_some H
 have q:=hr1
 iterate 2 refine oX ?_
 refine oMq (eju n _ _ r1 hr1) [] [176] ?_
 iterate 6 refine oXq ?_
 refine hK2 _ ?_
 refine Sm.seqK fun K3 hK3=>?_
 refine rA ?_
 refine cnd H (fun h5 H=>?_) (fun h5 H=>?_)
 ·refine rA ?_
  refine Sm.ret ?_
  refine lf ?_
  obtain rfl:=Option.some.inj H
  exact rt []
 refine Sm.skip ?_
 refine hK3 _ ?_
 refine sX fun K7 hK7=>?_
 obtain ⟨r2,hr2,H⟩:=bind_some H
 have q:=hr2
 iterate 2 refine oX ?_
 refine oY ?_
 refine oMq (cjs n _ _ r2 hr2) [176,48] [] ?_
 iterate 2 refine oXq ?_
 refine hK7 _ ?_
 refine rA ?_
 refine Sm.ret ?_
 refine lf ?_
 obtain rfl:=Option.some.inj H
 exact rt []
def bjw (n:Nat) (d:List aj4) (d_i:Nat) (p1:List UInt8) (p2:List UInt8) (p2_:Int) (p2__:Int) (p2___:Int) (p2____:List aj4):Option (Int×(List aj4)) :=
 (byo n p1).bind fun r1 =>
 bif (!r1) then
  some (1,d)
 else
  (ajy n (⟨p2,p2_,p2__,p2___,p2____⟩:aj5) p1).bind fun r2 =>
  bif r2.2 then
   some (4,d)
  else
   gd (d_i < d.length) <|
   some (0,(List.set d d_i (⟨p1,((gt d d_i).Dcb),(gt d d_i).Extents,(gt d d_i).Used⟩:aj4)))
theorem dws (n:Nat) (d:List aj4) (d_i:Nat) (p1:List UInt8) (p2:List UInt8) (p2_:Int) (p2__:Int) (p2___:Int) (p2____:List aj4) (r:Int×(List aj4)) (H:bjw n d d_i p1 p2 p2_ p2__ p2___ p2____=some r):az6 Tryz.prog 91 [.ref (.elt 0 11 [.str,.int .i64,.int .i64,.bool,.bool,.int .i64,.int .i64,.int .i64,.int .i64,.slice 80,.int .i64] d_i 0),.ref (.box 1 0),.ref (.box 2 0)] [.row 41 (List.map aj3 d),.box [.c .str (.str p1)],.box [.c .str (.str p2),.c (.int .i64) (.int p2_),.c (.int .i64) (.int p2__),.c (.int .i64) (.int p2___),.c (.slice 41) (.slice (List.map aj3 p2____))]] [.c (.int .i64) (.int r.1)] [.row 41 (List.map aj3 r.2),.box [.c .str (.str p1)],.box [.c .str (.str p2),.c (.int .i64) (.int p2_),.c (.int .i64) (.int p2__),.c (.int .i64) (.int p2___),.c (.slice 41) (.slice (List.map aj3 p2____))]]:=by
 have hΓ:=g1 (dz2 n) (g1 (aw8 n) (@g0 (aj2 Tryz.prog)))
 refine az2 (Tryz.f91.body.getD .skip) h00 Tryz.func91 rfl Tryz.call91 (Nat.le_of_ble_eq_true rfl) (Nat.le_of_ble_eq_true rfl) ?_
 unfold bjw at H
 simp only [Tryz.f91,Option.getD]
 refine rA ?_
 refine Sm.seqK fun K2 hK2=>?_
 obtain ⟨r1,hr1,H⟩:=bind_some H
 have q:=And.intro @bj1.eq_1 hr1
 refine rAq ?_
 refine cnd H (fun h4 H=>?_) (fun h4 H=>?_)
 ·refine rA ?_
  refine Sm.ret ?_
  refine lf ?_
  obtain rfl:=Option.some.inj H
  exact rtM [some 0,some 1,some 2]
 refine Sm.skip ?_
 refine hK2 _ ?_
 refine Sm.seqK fun K6 hK6=>?_
 obtain ⟨r2,hr2,H⟩:=bind_some H
 have q:=And.intro @bj1.eq_1 (And.intro @ajn.eq_1 hr2)
 refine rAq ?_
 refine rA ?_
 refine cnd H (fun h9 H=>?_) (fun h9 H=>?_)
 ·refine rA ?_
  refine Sm.ret ?_
  refine lf ?_
  obtain rfl:=Option.some.inj H
  exact rtM [some 0,some 1,some 2]
 refine Sm.skip ?_
 refine hK6 _ ?_
 refine sX fun K11 hK11=>?_
 obtain ⟨hg12,H⟩:=aj7 H
 iterate 2 refine oX ?_
 refine oE gy1 ?_
 iterate 2 refine oX ?_
 refine hK11 _ ?_
 refine rA ?_
 refine Sm.ret ?_
 refine lf ?_
 obtain rfl:=Option.some.inj H
 exact rtM [some 0,some 1,some 2]
def bza (n:Nat) (v:aj5) (name:List UInt8) (how:List UInt8) (how_:List UInt8) (how__:Int) (how___:Int) (how____:Int) (how_____:List aj4):Option (aj5×Int) :=
 (awq n v).bind fun r1 =>
 bif (r1 != 0) then
  some ((⟨[],0,0,0,[]⟩:aj5),r1)
 else
  (ajy n v name).bind fun r2 =>
  bif (!r2.2) then
   some ((⟨[],0,0,0,[]⟩:aj5),3)
  else
   (ajt n v).bind fun r3 =>
   gd ((0≤r2.1∧r2.1 < (r3.Sets.length:Int))) <|
   (bjw n r3.Sets (Int.toNat r2.1) how how_ how__ how___ how____ how_____).bind fun r4 =>
   gd (r4.2.length=r3.Sets.length) <|
   bif (r4.1 != 0) then
    some ((⟨[],0,0,0,[]⟩:aj5),r4.1)
   else
    some ((⟨r3.Serial,r3.Cyls,r3.Heads,r3.Size,r4.2⟩:aj5),0)
theorem ejm (n:Nat) (v:aj5) (name:List UInt8) (how:List UInt8) (how_:List UInt8) (how__:Int) (how___:Int) (how____:Int) (how_____:List aj4) (r:aj5×Int) (H:bza n v name how how_ how__ how___ how____ how_____=some r):az6 Tryz.prog 87 [.dat (true,[.str,.int .i64,.int .i64,.int .i64,.slice 41]) [.str v.Serial,.int v.Cyls,.int v.Heads,.int v.Size,.slice (List.map aj3 v.Sets)],.dat (false,[.str]) [.str name],.ref (.fnv 91 [.box 0 0,.box 1 0])] [.box [.c .str (.str how)],.box [.c .str (.str how_),.c (.int .i64) (.int how__),.c (.int .i64) (.int how___),.c (.int .i64) (.int how____),.c (.slice 41) (.slice (List.map aj3 how_____))]] [.agg [.c .str (.str r.1.Serial),.c (.int .i64) (.int r.1.Cyls),.c (.int .i64) (.int r.1.Heads),.c (.int .i64) (.int r.1.Size),.own 2 [.str,.int .i64,.int .i64,.bool,.bool,.int .i64,.int .i64,.int .i64,.int .i64,.slice 80,.int .i64] 0 r.1.Sets.length],.c (.int .i64) (.int r.2)] [.box [.c .str (.str how)],.box [.c .str (.str how_),.c (.int .i64) (.int how__),.c (.int .i64) (.int how___),.c (.int .i64) (.int how____),.c (.slice 41) (.slice (List.map aj3 how_____))],.row 41 (List.map aj3 r.1.Sets)]:=by
 have hΓ:=g1 (ayp n) (g1 (aw8 n) (g1 (azg n) (@g0 (aj2 Tryz.prog))))
 refine az2 (Tryz.f87.body.getD .skip) h00 Tryz.func87 rfl Tryz.call87 (Nat.le_of_ble_eq_true rfl) (Nat.le_of_ble_eq_true rfl) ?_
 unfold bza at H
 simp only [Tryz.f87,Option.getD]
 refine rA ?_
 refine Sm.seqK fun K2 hK2=>?_
 obtain ⟨r1,hr1,H⟩:=bind_some H
 have q:=And.intro @ajq.eq_1 hr1
 refine rAq ?_
 refine rA ?_
 refine cnd H (fun h5 H=>?_) (fun h5 H=>?_)
 ·refine rA ?_
  refine Sm.ret ?_
  refine lf ?_
  obtain rfl:=Option.some.inj H
  exact rtM [some 0,some 1,none]
 refine Sm.skip ?_
 refine hK2 _ ?_
 obtain ⟨r2,hr2,H⟩:=bind_some H
 have q:=And.intro @ajq.eq_1 (And.intro @ajn.eq_1 hr2)
 refine rAq ?_
 refine Sm.seqK fun K8 hK8=>?_
 refine rA ?_
 refine cnd H (fun h10 H=>?_) (fun h10 H=>?_)
 ·refine rA ?_
  refine Sm.ret ?_
  refine lf ?_
  obtain rfl:=Option.some.inj H
  exact rtM [some 0,some 1,none]
 refine Sm.skip ?_
 refine hK8 _ ?_
 obtain ⟨r3,hr3,H⟩:=bind_some H
 have q:=And.intro @ajq.eq_1 (And.intro @ajn.eq_1 (And.intro @awn.eq_1 hr3))
 refine rAq ?_
 refine Sm.seqK fun K13 hK13=>?_
 refine sX fun K14 hK14=>?_
 obtain ⟨hg15,H⟩:=aj7 H
 obtain ⟨r4,hr4,H⟩:=bind_some H
 obtain ⟨hg16,H⟩:=aj7 H
 have q:=hr4
 iterate 5 refine oX ?_
 refine oMq (dws n _ _ _ _ _ _ _ _ r4 hr4) [464,0,1] [] ?_
 refine oXq ?_
 refine hK14 _ ?_
 refine rA ?_
 refine cnd H (fun h18 H=>?_) (fun h18 H=>?_)
 ·refine rA ?_
  refine Sm.ret ?_
  refine lf ?_
  obtain rfl:=Option.some.inj H
  exact rtM [some 0,some 1,none]
 refine Sm.skip ?_
 refine hK13 _ ?_
 refine rA ?_
 refine Sm.ret ?_
 refine lf ?_
 obtain rfl:=Option.some.inj H
 exact rtM [some 0,some 1,some 464]
def aqg (n:Nat) (s:List aj4):Option (List aj4):=fwv (fun x y=>bwl n x y) s
theorem cq6 (n:Nat) (s:List aj4) (r:List aj4) (H:aqg n s=some r):az6 Tryz.prog 92 [.ref (.own 0 [.str,.int .i64,.int .i64,.bool,.bool,.int .i64,.int .i64,.int .i64,.int .i64,.slice 80,.int .i64] 0 s.length),.ref (.fnv 93 [])] [.row 41 (List.map aj3 s)] [] [.row 41 (List.map aj3 r)] :=
 dkc hz0 ty41 Tryz.isAgg41 Tryz.sizeOf41 (by decide) (by decide) (by intro args w;exact Tryz.call93 args w) aj3 (fun _=>rfl) (fun x y=>bwl n x y) (fun x y c h=>hww x y c h) s r H
def byf (n:Nat) (v:aj5) (old:List UInt8) (name:List UInt8):Option (aj5×Int) :=
 (bza n v old name v.Serial v.Cyls v.Heads v.Size v.Sets).bind fun r1 =>
 (aqg n r1.1.Sets).bind fun r2 =>
 some ((⟨r1.1.Serial,r1.1.Cyls,r1.1.Heads,r1.1.Size,(List.take r1.1.Sets.length r2)⟩:aj5),r1.2)
def dzn (n:Nat):Go.AE.Fn:=mkFn (A:=aj5×(List UInt8)×(List UInt8)) (R:=aj5×Int) 45 [(true,[.str,.int .i64,.int .i64,.int .i64,.slice 41]),(false,[.str]),(false,[.str])] true (fun xs=>((⟨(cg (xs.getD 0 []) 0).toStr,(cg (xs.getD 0 []) 1).toInt,(cg (xs.getD 0 []) 2).toInt,(cg (xs.getD 0 []) 3).toInt,((cg (xs.getD 0 []) 4).toSl.map aqd)⟩:aj5),(cg (xs.getD 1 []) 0).toStr,(cg (xs.getD 2 []) 0).toStr)) (fun a=>[[.str a.1.Serial,.int a.1.Cyls,.int a.1.Heads,.int a.1.Size,.slice (List.map aj3 a.1.Sets)],[.str a.2.1],[.str a.2.2]]) (fun a=>byf n a.1 a.2.1 a.2.2) (fun r=>[.agg [.c .str (.str r.1.Serial),.c (.int .i64) (.int r.1.Cyls),.c (.int .i64) (.int r.1.Heads),.c (.int .i64) (.int r.1.Size),.c (.slice 41) (.slice (List.map aj3 r.1.Sets))],.c (.int .i64) (.int r.2)]) (fun r=>[])
theorem fjw (n:Nat):aj2 Tryz.prog (dzn n):=by
 have hΓ:=@g0 (aj2 Tryz.prog)
 refine aj8 (Tryz.f45.body.getD .skip) h00 Tryz.func45 rfl Tryz.call45 (by decide) (by intro h;cases h) ?_
 rintro ⟨v,old,name⟩ r H
 try dsimp only at H
 unfold byf at H
 simp only [Tryz.f45,Option.getD]
 refine rA ?_
 refine sX fun K2 hK2=>?_
 obtain ⟨r1,hr1,H⟩:=bind_some H
 have q:=hr1
 iterate 2 refine oX ?_
 refine oY ?_
 refine oMq (ejm n _ _ _ _ _ _ _ _ r1 hr1) [80,48] [224] ?_
 iterate 6 refine oXq ?_
 refine hK2 _ ?_
 refine sX fun K3 hK3=>?_
 obtain ⟨r2,hr2,H⟩:=bind_some H
 have q:=hr2
 iterate 2 refine oX ?_
 refine oMq (cq6 n _ r2 hr2) [224] [] ?_
 refine hK3 _ ?_
 refine rA ?_
 refine Sm.ret ?_
 refine lf ?_
 obtain rfl:=Option.some.inj H
 exact rt []
def bzx (n:Nat) (c:Int):Option Bool :=
 some (if (decide (c ≥ 65))=true then (decide (c≤90)) else false)
def bkp (n:Nat):Go.AE.Fn:=mkFn (A:=Int) (R:=Bool) 114 [(false,[.int .u8])] false (fun xs=>(cg (xs.getD 0 []) 0).toInt) (fun a=>[[.int a]]) (fun a=>bzx n a) (fun r=>[.c .bool (.bool r)]) (fun r=>[])
theorem dqj (n:Nat):aj2 Tryz.prog (bkp n):=by
 have hΓ:=@g0 (aj2 Tryz.prog)
 refine aj8 (Tryz.f114.body.getD .skip) h00 Tryz.func114 rfl Tryz.call114 (by decide) (by intro _ r;exact ⟨rfl,by simp⟩) ?_
 rintro c r H
 try dsimp only at H
 unfold bzx at H
 simp only [Tryz.f114,Option.getD]
 refine rA ?_
 refine rA ?_
 refine Sm.ret ?_
 refine lf ?_
 obtain rfl:=Option.some.inj H
 exact rt []
def bjz (n:Nat) (c:Int):Option Bool :=
 some (if (decide (c ≥ 48))=true then (decide (c≤57)) else false)
def cj4 (n:Nat):Go.AE.Fn:=mkFn (A:=Int) (R:=Bool) 115 [(false,[.int .u8])] false (fun xs=>(cg (xs.getD 0 []) 0).toInt) (fun a=>[[.int a]]) (fun a=>bjz n a) (fun r=>[.c .bool (.bool r)]) (fun r=>[])
theorem dzk (n:Nat):aj2 Tryz.prog (cj4 n):=by
 have hΓ:=@g0 (aj2 Tryz.prog)
 refine aj8 (Tryz.f115.body.getD .skip) h00 Tryz.func115 rfl Tryz.call115 (by decide) (by intro _ r;exact ⟨rfl,by simp⟩) ?_
 rintro c r H
 try dsimp only at H
 unfold bjz at H
 simp only [Tryz.f115,Option.getD]
 refine rA ?_
 refine rA ?_
 refine Sm.ret ?_
 refine lf ?_
 obtain rfl:=Option.some.inj H
 exact rt []
def ajl (n:Nat) (n_:Int) (lo:Int) (hi:Int):Option Bool :=
 some (if (decide (n_ ≥ lo))=true then (decide (n_≤hi)) else false)
def bjq (n:Nat):Go.AE.Fn:=mkFn (A:=Int×Int×Int) (R:=Bool) 71 [(false,[.int .i64]),(false,[.int .i64]),(false,[.int .i64])] false (fun xs=>((cg (xs.getD 0 []) 0).toInt,(cg (xs.getD 1 []) 0).toInt,(cg (xs.getD 2 []) 0).toInt)) (fun a=>[[.int a.1],[.int a.2.1],[.int a.2.2]]) (fun a=>ajl n a.1 a.2.1 a.2.2) (fun r=>[.c .bool (.bool r)]) (fun r=>[])
theorem ck4 (n:Nat):aj2 Tryz.prog (bjq n):=by
 have hΓ:=@g0 (aj2 Tryz.prog)
 refine aj8 (Tryz.f71.body.getD .skip) h00 Tryz.func71 rfl Tryz.call71 (by decide) (by intro _ r;exact ⟨rfl,by simp⟩) ?_
 rintro ⟨n_,lo,hi⟩ r H
 try dsimp only at H
 unfold ajl at H
 simp only [Tryz.f71,Option.getD]
 refine rA ?_
 refine rA ?_
 refine Sm.ret ?_
 refine lf ?_
 obtain rfl:=Option.some.inj H
 exact rt []
abbrev cka (s:List UInt8):S:=stB [(0,.c .str (.str s))] []
def bwa (n:Nat) (s:List UInt8):Option Bool :=
 (ajl n (s.length:Int) 1 6).bind fun r1 =>
 some r1
abbrev czj (s:List UInt8) (i:Int):S:=stB [(0,.c .str (.str s)),(3,.c (.int .i64) (.int i))] []
def ayk (n:Nat) (s:List UInt8) (i:Int):Option ((Int) ⊕ (((Bool) ⊕ (Unit)))) :=
 bif (decide (i < (s.length:Int))) then
  gd ((0≤i∧i < (s.length:Int))) <|
  (bzx n (((s.getD (Int.toNat i) 0).toNat:Nat):Int)).bind fun r2 =>
  gd (((!r2)=true→(0≤i∧i < (s.length:Int)))∧((!r2)=true→(bjz n (((s.getD (Int.toNat i) 0).toNat:Nat):Int)).isSome=true)) <|
  bif (if (!r2)=true then (!((bjz n (((s.getD (Int.toNat i) 0).toNat:Nat):Int)).getD default)) else false) then
   some (.inr (.inl false))
  else
   some (.inl (IntKind.wrap .i64 (i+1)))
 else
  some (.inr (.inr ()))
def bk3 (n:Nat) (s:List UInt8):Option Bool :=
 (ajj (fun (x:Int)=>ayk n s x) n 0).bind fun y4 =>
 match y4 with
 | .inl vv =>
  some vv
 | .inr vv =>
  bwa n s
def bkk (n:Nat):Go.AE.Fn:=mkFn (A:=(List UInt8)) (R:=Bool) 70 [(false,[.str])] false (fun xs=>(cg (xs.getD 0 []) 0).toStr) (fun a=>[[.str a]]) (fun a=>bk3 n a) (fun r=>[.c .bool (.bool r)]) (fun r=>[])
theorem ekq (n:Nat):aj2 Tryz.prog (bkk n):=by
 have hΓ:=g1 (dqj n) (g1 (dzk n) (g1 (ck4 n) (@g0 (aj2 Tryz.prog))))
 refine aj8 (Tryz.f70.body.getD .skip) h00 Tryz.func70 rfl Tryz.call70 (by decide) (by intro _ r;exact ⟨rfl,by simp⟩) ?_
 rintro s r H
 try dsimp only at H
 unfold bk3 at H
 simp only [Tryz.f70,Option.getD]
 refine rA ?_
 refine Sm.cut (fun (x:Unit)=>cka s) (fun x=>bwa n s=some r) ?_ ?_
 ·refine rA ?_
  refine Sm.block ?_
  obtain ⟨y4,hy4,Ho4⟩:=bind_some H
  refine Sm.loopB _ (fun x=>czj s x) hy4 (wb []) ?_
  rintro i z4 H
  try dsimp only at H
  unfold ayk at H
  refine Sm.st (czj.eq_1 ..) ?_
  refine Sm.seqK fun K5 hK5=>?_
  refine rA ?_
  refine cnd H (fun h7 H=>?_) (fun h7 H=>?_)
  ·refine Sm.skip ?_
   refine hK5 _ ?_
   refine Sm.seqK fun K8 hK8=>?_
   refine Sm.block ?_
   obtain ⟨hg12,H⟩:=aj7 H
   obtain ⟨r2,hr2,H⟩:=bind_some H
   obtain ⟨⟨hg13,hg14⟩,H⟩:=aj7 H
   have q:=And.intro @bkp.eq_1 (And.intro @cj4.eq_1 hr2)
   refine rAq ?_
   refine cnd H (fun h10 H=>?_) (fun h10 H=>?_)
   ·refine rA ?_
    refine Sm.ret ?_
    refine lf ?_
    refine lx H fun hyy=>?_
    subst hyy
    have H:=Ho4
    try dsimp only at H
    refine lf ?_
    obtain rfl:=Option.some.inj H
    exact rt []
   refine Sm.skip ?_
   refine hK8 _ ?_
   refine eA ?_
   refine lf ?_
   exact nx H (wb [])
  refine Sm.exit ?_
  refine lf ?_
  refine lx H fun hyy=>?_
  subst hyy
  have H:=Ho4
  try dsimp only at H
  refine lf ?_
  exact ⟨(),H,wb []⟩
 rintro ⟨⟩ H
 try dsimp only at H
 unfold bwa at H
 refine Sm.st (cka.eq_1 ..) ?_
 obtain ⟨r1,hr1,H⟩:=bind_some H
 have q:=And.intro @bkp.eq_1 (And.intro @cj4.eq_1 (And.intro @bjq.eq_1 hr1))
 refine rAq ?_
 refine Sm.ret ?_
 refine lf ?_
 obtain rfl:=Option.some.inj H
 exact rt []
abbrev czc (s:List UInt8):S:=stB [(0,.c .str (.str s))] []
def akg (n:Nat) (s:List UInt8):Option Bool :=
 some (if (decide ((s.length:Int) ≥ 1))=true then (decide ((s.length:Int)≤8)) else false)
abbrev ckf (s:List UInt8) (i:Int):S:=stB [(0,.c .str (.str s)),(3,.c (.int .i64) (.int i))] []
def ak4 (n:Nat) (s:List UInt8) (i:Int):Option ((Int) ⊕ (((Bool) ⊕ (Unit)))) :=
 bif (decide (i < (s.length:Int))) then
  gd ((0≤i∧i < (s.length:Int))∧((!((((s.getD (Int.toNat i) 0).toNat:Nat):Int) == 64))=true→(0≤i∧i < (s.length:Int)))∧((!(if ((((s.getD (Int.toNat i) 0).toNat:Nat):Int) == 64)=true then true else ((((s.getD (Int.toNat i) 0).toNat:Nat):Int) == 35)))=true→(0≤i∧i < (s.length:Int)))) <|
  gd ((0≤i∧i < (s.length:Int))) <|
  (bzx n (((s.getD (Int.toNat i) 0).toNat:Nat):Int)).bind fun r1 =>
  gd ((((if (!r1)=true then (!(if (if ((((s.getD (Int.toNat i) 0).toNat:Nat):Int) == 64)=true then true else ((((s.getD (Int.toNat i) 0).toNat:Nat):Int) == 35))=true then true else ((((s.getD (Int.toNat i) 0).toNat:Nat):Int) == 36))) else false) && (!(i == 0)))=true→(0≤i∧i < (s.length:Int)))∧(((if (!r1)=true then (!(if (if ((((s.getD (Int.toNat i) 0).toNat:Nat):Int) == 64)=true then true else ((((s.getD (Int.toNat i) 0).toNat:Nat):Int) == 35))=true then true else ((((s.getD (Int.toNat i) 0).toNat:Nat):Int) == 36))) else false) && (!(i == 0)))=true→(bjz n (((s.getD (Int.toNat i) 0).toNat:Nat):Int)).isSome=true)∧(((if (!r1)=true then (!(if (if ((((s.getD (Int.toNat i) 0).toNat:Nat):Int) == 64)=true then true else ((((s.getD (Int.toNat i) 0).toNat:Nat):Int) == 35))=true then true else ((((s.getD (Int.toNat i) 0).toNat:Nat):Int) == 36))) else false) && !(i == 0))=true→((if (!r1)=true then (!(if (if ((((s.getD (Int.toNat i) 0).toNat:Nat):Int) == 64)=true then true else ((((s.getD (Int.toNat i) 0).toNat:Nat):Int) == 35))=true then true else ((((s.getD (Int.toNat i) 0).toNat:Nat):Int) == 36))) else false) && (!(i == 0)))=true)) <|
  bif (if (if (!r1)=true then (!(if (if ((((s.getD (Int.toNat i) 0).toNat:Nat):Int) == 64)=true then true else ((((s.getD (Int.toNat i) 0).toNat:Nat):Int) == 35))=true then true else ((((s.getD (Int.toNat i) 0).toNat:Nat):Int) == 36))) else false)=true then (if (i == 0)=true then true else (!((bjz n (((s.getD (Int.toNat i) 0).toNat:Nat):Int)).getD default))) else false) then
   some (.inr (.inl false))
  else
   some (.inl (IntKind.wrap .i64 (i+1)))
 else
  some (.inr (.inr ()))
def bzm (n:Nat) (s:List UInt8):Option Bool :=
 (ajj (fun (x:Int)=>ak4 n s x) n 0).bind fun y4 =>
 match y4 with
 | .inl vv =>
  some vv
 | .inr vv =>
  akg n s
def dqr (n:Nat):Go.AE.Fn:=mkFn (A:=(List UInt8)) (R:=Bool) 55 [(false,[.str])] false (fun xs=>(cg (xs.getD 0 []) 0).toStr) (fun a=>[[.str a]]) (fun a=>bzm n a) (fun r=>[.c .bool (.bool r)]) (fun r=>[])
theorem ekn (n:Nat):aj2 Tryz.prog (dqr n):=by
 have hΓ:=g1 (dqj n) (g1 (dzk n) (@g0 (aj2 Tryz.prog)))
 refine aj8 (Tryz.f55.body.getD .skip) h00 Tryz.func55 rfl Tryz.call55 (by decide) (by intro _ r;exact ⟨rfl,by simp⟩) ?_
 rintro s r H
 try dsimp only at H
 unfold bzm at H
 simp only [Tryz.f55,Option.getD]
 refine rA ?_
 refine Sm.cut (fun (x:Unit)=>czc s) (fun x=>akg n s=some r) ?_ ?_
 ·refine rA ?_
  refine Sm.block ?_
  obtain ⟨y4,hy4,Ho4⟩:=bind_some H
  refine Sm.loopB _ (fun x=>ckf s x) hy4 (wb []) ?_
  rintro i z4 H
  try dsimp only at H
  unfold ak4 at H
  refine Sm.st (ckf.eq_1 ..) ?_
  refine Sm.seqK fun K5 hK5=>?_
  refine rA ?_
  refine cnd H (fun h7 H=>?_) (fun h7 H=>?_)
  ·refine Sm.skip ?_
   refine hK5 _ ?_
   refine Sm.seqK fun K8 hK8=>?_
   refine Sm.block ?_
   obtain ⟨⟨hg17,hg18,hg19⟩,H⟩:=aj7 H
   refine rA ?_
   obtain ⟨hg13,H⟩:=aj7 H
   obtain ⟨r1,hr1,H⟩:=bind_some H
   obtain ⟨⟨hg14,hg15,hg16⟩,H⟩:=aj7 H
   have q:=And.intro @bkp.eq_1 (And.intro @cj4.eq_1 hr1)
   refine rAq ?_
   refine cnd H (fun h11 H=>?_) (fun h11 H=>?_)
   ·refine rA ?_
    refine Sm.ret ?_
    refine lf ?_
    refine lx H fun hyy=>?_
    subst hyy
    have H:=Ho4
    try dsimp only at H
    refine lf ?_
    obtain rfl:=Option.some.inj H
    exact rt []
   refine Sm.skip ?_
   refine hK8 _ ?_
   refine eA ?_
   refine lf ?_
   exact nx H (wb [])
  refine Sm.exit ?_
  refine lf ?_
  refine lx H fun hyy=>?_
  subst hyy
  have H:=Ho4
  try dsimp only at H
  refine lf ?_
  exact ⟨(),H,wb []⟩
 rintro ⟨⟩ H
 try dsimp only at H
 unfold akg at H
 refine Sm.st (czc.eq_1 ..) ?_
 refine rA ?_
 refine Sm.ret ?_
 refine lf ?_
 obtain rfl:=Option.some.inj H
 exact rt []
abbrev dqw (s:List UInt8):S:=stB [(0,.c .str (.str s))] []
def bkm (n:Nat) (s:List UInt8):Option Bool :=
 some (decide ((s.length:Int)≤44))
abbrev dqh (s:List UInt8) (from__1:Int) (i:Int):S:=stB [(0,.c .str (.str s)),(3,.c (.int .i64) (.int from__1)),(4,.c (.int .i64) (.int i))] []
def akv (n:Nat) (s:List UInt8) (from__1:Int) (i:Int):Option ((Int×Int) ⊕ (((Bool) ⊕ (Unit)))) :=
 some (.inl (from__1,(IntKind.wrap .i64 (i+1))))
abbrev dqn (s:List UInt8) (from_:Int) (i:Int):S:=stB [(0,.c .str (.str s)),(3,.c (.int .i64) (.int from_)),(4,.c (.int .i64) (.int i))] []
def awe (n:Nat) (s:List UInt8) (from_:Int) (i:Int):Option ((Int×Int) ⊕ (((Bool) ⊕ (Unit)))) :=
 bif (decide (i≤(s.length:Int))) then
  gd (((!(i == (s.length:Int)))=true→(0≤i∧i < (s.length:Int)))) <|
  bif (if (i == (s.length:Int))=true then true else ((((s.getD (Int.toNat i) 0).toNat:Nat):Int) == 46)) then
   gd ((0≤from_∧from_≤i∧i≤(s.length:Int))) <|
   (bzm n (List.drop (Int.toNat from_) (List.take (Int.toNat i) s))).bind fun r1 =>
   bif (!r1) then
    some (.inr (.inl false))
   else
    akv n s (IntKind.wrap .i64 (i+1)) i
  else
   akv n s from_ i
 else
  some (.inr (.inr ()))
def bwy (n:Nat) (s:List UInt8):Option Bool :=
 (ajj (fun (x:Int×Int)=>awe n s x.1 x.2) n (0,0)).bind fun y5 =>
 match y5 with
 | .inl vv =>
  some vv
 | .inr vv =>
  bkm n s
def azr (n:Nat):Go.AE.Fn:=mkFn (A:=(List UInt8)) (R:=Bool) 18 [(false,[.str])] false (fun xs=>(cg (xs.getD 0 []) 0).toStr) (fun a=>[[.str a]]) (fun a=>bwy n a) (fun r=>[.c .bool (.bool r)]) (fun r=>[])
theorem dj6 (n:Nat):aj2 Tryz.prog (azr n):=by
 have hΓ:=g1 (ekn n) (@g0 (aj2 Tryz.prog))
 refine aj8 (Tryz.f18.body.getD .skip) h00 Tryz.func18 rfl Tryz.call18 (by decide) (by intro _ r;exact ⟨rfl,by simp⟩) ?_
 rintro s r H
 try dsimp only at H
 unfold bwy at H
 simp only [Tryz.f18,Option.getD]
 refine rA ?_
 refine rA ?_
 refine Sm.cut (fun (x:Unit)=>dqw s) (fun x=>bkm n s=some r) ?_ ?_
 ·refine rA ?_
  refine Sm.block ?_
  obtain ⟨y5,hy5,Ho5⟩:=bind_some H
  refine Sm.loopB _ (fun x=>dqn s x.1 x.2) hy5 (wb []) ?_
  rintro ⟨from_,i⟩ z5 H
  try dsimp only at H
  unfold awe at H
  refine Sm.st (dqn.eq_1 ..) ?_
  refine Sm.seqK fun K6 hK6=>?_
  refine rA ?_
  refine cnd H (fun h8 H=>?_) (fun h8 H=>?_)
  ·refine Sm.skip ?_
   refine hK6 _ ?_
   refine Sm.cut (fun (x:Int)=>dqh s x i) (fun x=>akv n s x i=some z5) ?_ ?_
   ·refine Sm.block ?_
    obtain ⟨hg16,H⟩:=aj7 H
    refine rA ?_
    refine cnd H (fun h10 H=>?_) (fun h10 H=>?_)
    ·refine Sm.seqK fun K11 hK11=>?_
     obtain ⟨hg15,H⟩:=aj7 H
     obtain ⟨r1,hr1,H⟩:=bind_some H
     have q:=And.intro @dqr.eq_1 hr1
     refine rAq ?_
     refine cnd H (fun h13 H=>?_) (fun h13 H=>?_)
     ·refine rA ?_
      refine Sm.ret ?_
      refine lf ?_
      refine lx H fun hyy=>?_
      subst hyy
      have H:=Ho5
      try dsimp only at H
      refine lf ?_
      obtain rfl:=Option.some.inj H
      exact rt []
     refine Sm.skip ?_
     refine hK11 _ ?_
     refine eA ?_
     refine lf ?_
     exact ⟨_,H,wb []⟩
    refine Sm.skip ?_
    refine lf ?_
    exact ⟨_,H,wb []⟩
   rintro from__1 H
   try dsimp only at H
   unfold akv at H
   refine Sm.st (dqh.eq_1 ..) ?_
   refine eA ?_
   refine lf ?_
   exact nx H (wb [])
  refine Sm.exit ?_
  refine lf ?_
  refine lx H fun hyy=>?_
  subst hyy
  have H:=Ho5
  try dsimp only at H
  refine lf ?_
  exact ⟨(),H,wb []⟩
 rintro ⟨⟩ H
 try dsimp only at H
 unfold bkm at H
 refine Sm.st (dqw.eq_1 ..) ?_
 refine rA ?_
 refine Sm.ret ?_
 refine lf ?_
 obtain rfl:=Option.some.inj H
 exact rt []
def aq0 (n:Nat) (d:TDcb):Option Bool :=
 (ajl n d.Org 1 3).bind fun r1 =>
 gd ((r1=true→(ajl n d.Format 1 3).isSome=true)∧((if r1=true then ((ajl n d.Format 1 3).getD default) else false)=true→(ajl n d.Lrecl 0 1024).isSome=true)∧((if (if r1=true then ((ajl n d.Format 1 3).getD default) else false)=true then ((ajl n d.Lrecl 0 1024).getD default) else false)=true→(ajl n d.Blksize 0 1024).isSome=true)∧((if (if (if r1=true then ((ajl n d.Format 1 3).getD default) else false)=true then ((ajl n d.Lrecl 0 1024).getD default) else false)=true then ((ajl n d.Blksize 0 1024).getD default) else false)=true→(ajl n d.KeyPos 0 1024).isSome=true)∧((if (if (if (if r1=true then ((ajl n d.Format 1 3).getD default) else false)=true then ((ajl n d.Lrecl 0 1024).getD default) else false)=true then ((ajl n d.Blksize 0 1024).getD default) else false)=true then ((ajl n d.KeyPos 0 1024).getD default) else false)=true→(ajl n d.KeyLen 0 64).isSome=true)) <|
 some (if (if (if (if (if r1=true then ((ajl n d.Format 1 3).getD default) else false)=true then ((ajl n d.Lrecl 0 1024).getD default) else false)=true then ((ajl n d.Blksize 0 1024).getD default) else false)=true then ((ajl n d.KeyPos 0 1024).getD default) else false)=true then ((ajl n d.KeyLen 0 64).getD default) else false)
def aqf (n:Nat):Go.AE.Fn:=mkFn (A:=TDcb) (R:=Bool) 127 [(true,[.int .i64,.int .i64,.bool,.bool,.int .i64,.int .i64,.int .i64,.int .i64])] false (fun xs=>(⟨(cg (xs.getD 0 []) 0).toInt,(cg (xs.getD 0 []) 1).toInt,(cg (xs.getD 0 []) 2).toBool,(cg (xs.getD 0 []) 3).toBool,(cg (xs.getD 0 []) 4).toInt,(cg (xs.getD 0 []) 5).toInt,(cg (xs.getD 0 []) 6).toInt,(cg (xs.getD 0 []) 7).toInt⟩:TDcb)) (fun a=>[[.int a.Org,.int a.Format,.bool a.Blocked,.bool a.Asa,.int a.Lrecl,.int a.Blksize,.int a.KeyLen,.int a.KeyPos]]) (fun a=>aq0 n a) (fun r=>[.c .bool (.bool r)]) (fun r=>[])
theorem bka (n:Nat):aj2 Tryz.prog (aqf n):=by
 have hΓ:=g1 (ck4 n) (@g0 (aj2 Tryz.prog))
 refine aj8 (Tryz.f127.body.getD .skip) h00 Tryz.func127 rfl Tryz.call127 (by decide) (by intro _ r;exact ⟨rfl,by simp⟩) ?_
 rintro d r H
 try dsimp only at H
 unfold aq0 at H
 simp only [Tryz.f127,Option.getD]
 refine rA ?_
 obtain ⟨r1,hr1,H⟩:=bind_some H
 obtain ⟨⟨hg3,hg4,hg5,hg6,hg7⟩,H⟩:=aj7 H
 have q:=And.intro @bjq.eq_1 hr1
 refine rAq ?_
 refine Sm.ret ?_
 refine lf ?_
 obtain rfl:=Option.some.inj H
 exact rt []
def czg (n:Nat) (x_:aj0):Option Bool :=
 some (if (if (if (decide (x_.At ≥ 0))=true then (decide (x_.Len ≥ 1)) else false)=true then (decide (x_.At < 512)) else false)=true then (decide (x_.Len≤(IntKind.wrap .i64 (512 - x_.At)))) else false)
def ezd (n:Nat):Go.AE.Fn:=mkFn (A:=aj0) (R:=Bool) 161 [(true,[.int .i64,.int .i64])] false (fun xs=>(⟨(cg (xs.getD 0 []) 0).toInt,(cg (xs.getD 0 []) 1).toInt⟩:aj0)) (fun a=>[[.int a.At,.int a.Len]]) (fun a=>czg n a) (fun r=>[.c .bool (.bool r)]) (fun r=>[])
theorem gjb (n:Nat):aj2 Tryz.prog (ezd n):=by
 have hΓ:=@g0 (aj2 Tryz.prog)
 refine aj8 (Tryz.f161.body.getD .skip) h00 Tryz.func161 rfl Tryz.call161 (by decide) (by intro _ r;exact ⟨rfl,by simp⟩) ?_
 rintro x_ r H
 try dsimp only at H
 unfold czg at H
 simp only [Tryz.f161,Option.getD]
 refine rA ?_
 refine rA ?_
 refine Sm.ret ?_
 refine lf ?_
 obtain rfl:=Option.some.inj H
 exact rt []
abbrev cz1 (out:List Int):S:=stB [(5,.own 9000 [.int .i64] 0 out.length)] [(9000,.row 3 (List.map cy1 out))]
def byg (n:Nat) (out:List Int):Option ((List Int)×Bool) :=
 some (out,true)
abbrev cz4 (l:List aj0) (seen_1:List Bool) (out_2:List Int) (i:Int):S:=stB [(0,.c (.slice 80) (.slice (List.map aj1 l))),(4,.elt 9006 1 [.bool] 0 0),(5,.own 9007 [.int .i64] 0 out_2.length),(6,.c (.int .i64) (.int i))] [(9006,.row 4 (List.map aki seen_1)),(9007,.row 3 (List.map cy1 out_2))]
def bwo (n:Nat) (l:List aj0) (seen_1:List Bool) (out_2:List Int) (i:Int):Option (((List Bool)×(List Int)×Int) ⊕ ((((List Int)×Bool) ⊕ ((List Int))))) :=
 some (.inl (seen_1,out_2,(IntKind.wrap .i64 (i+1))))
abbrev czx (l:List aj0) (i:Int) (seen_2:List Bool) (out_3:List Int) (k:Int):S:=stB [(0,.c (.slice 80) (.slice (List.map aj1 l))),(4,.elt 9010 1 [.bool] 0 0),(5,.own 9011 [.int .i64] 0 out_3.length),(6,.c (.int .i64) (.int i)),(7,.c (.int .i64) (.int k))] [(9010,.row 4 (List.map aki seen_2)),(9011,.row 3 (List.map cy1 out_3))]
def akb (n:Nat) (l:List aj0) (i:Int) (seen_2:List Bool) (out_3:List Int) (k:Int):Option (((List Bool)×(List Int)×Int) ⊕ ((((List Int)×Bool) ⊕ ((List Bool)×(List Int))))) :=
 gd ((0≤i∧i < (l.length:Int))∧(0≤i∧i < (l.length:Int))) <|
 bif (decide (k < (IntKind.wrap .i64 (((gt l (Int.toNat i)).At)+((gt l (Int.toNat i)).Len))))) then
  gd ((0≤k∧k < 512∧seen_2.length=512)∧(Int.toNat k) < seen_2.length) <|
  bif (gt seen_2 (Int.toNat k)) then
   some (.inr (.inl ([],false)))
  else
   gd ((0≤k∧k < 512∧seen_2.length=512)∧(Int.toNat k) < seen_2.length) <|
   gd ((out_3.length+1)≤2147483648) <|
   some (.inl ((List.set seen_2 (Int.toNat k) true),(out_3 ++ [k]),(IntKind.wrap .i64 (k+1))))
 else
  some (.inr (.inr (seen_2,out_3)))
abbrev ckc (l:List aj0) (seen:List Bool) (out_1:List Int) (i:Int):S:=stB [(0,.c (.slice 80) (.slice (List.map aj1 l))),(4,.elt 9004 1 [.bool] 0 0),(5,.own 9005 [.int .i64] 0 out_1.length),(6,.c (.int .i64) (.int i))] [(9004,.row 4 (List.map aki seen)),(9005,.row 3 (List.map cy1 out_1))]
def ak5 (n:Nat) (l:List aj0) (seen:List Bool) (out_1:List Int) (i:Int):Option (((List Bool)×(List Int)×Int) ⊕ ((((List Int)×Bool) ⊕ ((List Int))))) :=
 bif (decide (i < (l.length:Int))) then
  gd ((0≤i∧i < (l.length:Int))) <|
  (czg n (gt l (Int.toNat i))).bind fun r1 =>
  bif (!r1) then
   some (.inr (.inl ([],false)))
  else
   gd ((0≤i∧i < (l.length:Int))) <|
   (ajj (fun (x:(List Bool)×(List Int)×Int)=>akb n l i x.1 x.2.1 x.2.2) n (seen,out_1,(gt l (Int.toNat i)).At)).bind fun y15 =>
   match y15 with
   | .inl vv =>
    some (.inr (.inl (vv.1,vv.2)))
   | .inr vv =>
    bwo n l vv.1 vv.2 i
 else
  some (.inr (.inr out_1))
def azm (n:Nat) (l:List aj0):Option ((List Int)×Bool) :=
 (ajj (fun (x:(List Bool)×(List Int)×Int)=>ak5 n l x.1 x.2.1 x.2.2) n ((ak0 512 false),[],0)).bind fun y6 =>
 match y6 with
 | .inl vv =>
  some (vv.1,vv.2)
 | .inr vv =>
  byg n vv
def azi (n:Nat):Go.AE.Fn:=mkFn (A:=(List aj0)) (R:=(List Int)×Bool) 120 [(false,[.slice 80])] false (fun xs=>((cg (xs.getD 0 []) 0).toSl.map ajm)) (fun a=>[[.slice (List.map aj1 a)]]) (fun a=>azm n a) (fun r=>[.own 0 [.int .i64] 0 r.1.length,.c .bool (.bool r.2)]) (fun r=>[.row 3 (List.map cy1 r.1)])
theorem bkd (n:Nat):aj2 Tryz.prog (azi n):=by
 have hΓ:=g1 (gjb n) (@g0 (aj2 Tryz.prog))
 refine aj8 (Tryz.f120.body.getD .skip) h00 Tryz.func120 rfl Tryz.call120 (by decide) (fun _ r=>⟨rfl,m1 ⟨3,_,_,rfl,ty3,rfl⟩ m0⟩) ?_
 rintro l r H
 try dsimp only at H
 unfold azm at H
 simp only [Tryz.f120,Option.getD]
 refine rA ?_
 refine sX fun K2 hK2=>?_
 refine oY ?_
 refine hK2 _ ?_
 refine rA ?_
 refine Sm.cut (fun (x:(List Int))=>cz1 x) (fun x=>byg n x=some r) ?_ ?_
 ·refine rA ?_
  refine Sm.block ?_
  obtain ⟨y6,hy6,Ho6⟩:=bind_some H
  refine Sm.loopB _ (fun x=>ckc l x.1 x.2.1 x.2.2) hy6 (wb [some 64,none]) ?_
  rintro ⟨seen,out_1,i⟩ z6 H
  try dsimp only at H
  unfold ak5 at H
  refine Sm.st (ckc.eq_1 ..) ?_
  refine Sm.seqK fun K7 hK7=>?_
  refine rA ?_
  refine cnd H (fun h9 H=>?_) (fun h9 H=>?_)
  ·refine Sm.skip ?_
   refine hK7 _ ?_
   refine Sm.cut (fun (x:(List Bool)×(List Int))=>cz4 l x.1 x.2 i) (fun x=>bwo n l x.1 x.2 i=some z6) ?_ ?_
   ·refine Sm.block ?_
    refine Sm.seqK fun K10 hK10=>?_
    obtain ⟨hg33,H⟩:=aj7 H
    obtain ⟨r1,hr1,H⟩:=bind_some H
    have q:=And.intro @ezd.eq_1 hr1
    refine rAq ?_
    refine cnd H (fun h12 H=>?_) (fun h12 H=>?_)
    ·refine rA ?_
     refine Sm.ret ?_
     refine lf ?_
     refine lx H fun hyy=>?_
     subst hyy
     have H:=Ho6
     try dsimp only at H
     refine lf ?_
     obtain rfl:=Option.some.inj H
     exact rto [none]
    refine Sm.skip ?_
    refine hK10 _ ?_
    obtain ⟨hg32,H⟩:=aj7 H
    refine rA ?_
    refine Sm.block ?_
    obtain ⟨y15,hy15,Ho15⟩:=bind_some H
    refine Sm.loopB _ (fun x=>czx l i x.1 x.2.1 x.2.2) hy15 (wb [some 9004,some 9005]) ?_
    rintro ⟨seen_2,out_3,k⟩ z15 H
    try dsimp only at H
    unfold akb at H
    refine Sm.st (czx.eq_1 ..) ?_
    refine Sm.seqK fun K16 hK16=>?_
    obtain ⟨⟨hg30,hg31⟩,H⟩:=aj7 H
    refine rD ?_
    refine cnd H (fun h18 H=>?_) (fun h18 H=>?_)
    ·refine Sm.skip ?_
     refine hK16 _ ?_
     refine Sm.seqK fun K19 hK19=>?_
     refine Sm.block ?_
     refine Sm.seqK fun K20 hK20=>?_
     obtain ⟨⟨hg28,hg29⟩,H⟩:=aj7 H
     refine rA ?_
     refine cnd H (fun h22 H=>?_) (fun h22 H=>?_)
     ·refine rA ?_
      refine Sm.ret ?_
      refine lf ?_
      refine lx H fun hyy=>?_
      subst hyy
      have H:=Ho15
      try dsimp only at H
      refine lf ?_
      refine lx H fun hyy=>?_
      subst hyy
      have H:=Ho6
      try dsimp only at H
      refine lf ?_
      obtain rfl:=Option.some.inj H
      exact rto [none]
     refine Sm.skip ?_
     refine hK20 _ ?_
     obtain ⟨⟨hg26,hg27⟩,H⟩:=aj7 H
     refine rA ?_
     obtain ⟨hg25,H⟩:=aj7 H
     refine eA ?_
     refine hK19 _ ?_
     refine eA ?_
     refine lf ?_
     exact nx H (wb [some 9010,some 768])
    refine Sm.exit ?_
    refine lf ?_
    refine lx H fun hyy=>?_
    subst hyy
    have H:=Ho15
    try dsimp only at H
    refine lf ?_
    exact ⟨(seen_2,out_3),H,wb [some 9010,some 9011]⟩
   rintro ⟨seen_1,out_2⟩ H
   try dsimp only at H
   unfold bwo at H
   refine Sm.st (cz4.eq_1 ..) ?_
   refine eA ?_
   refine lf ?_
   exact nx H (wb [some 9006,some 9007])
  refine Sm.exit ?_
  refine lf ?_
  refine lx H fun hyy=>?_
  subst hyy
  have H:=Ho6
  try dsimp only at H
  refine lf ?_
  exact ⟨_,H,wb [some 9005]⟩
 rintro out H
 try dsimp only at H
 unfold byg at H
 refine Sm.st (cz1.eq_1 ..) ?_
 refine rA ?_
 refine Sm.ret ?_
 refine lf ?_
 obtain rfl:=Option.some.inj H
 exact rto [some 9000]
def az3 (n:Nat) (l:List aj0):Option Bool :=
 (azm n l).bind fun r1 =>
 some r1.2
def akl (n:Nat):Go.AE.Fn:=mkFn (A:=(List aj0)) (R:=Bool) 73 [(false,[.slice 80])] false (fun xs=>((cg (xs.getD 0 []) 0).toSl.map ajm)) (fun a=>[[.slice (List.map aj1 a)]]) (fun a=>az3 n a) (fun r=>[.c .bool (.bool r)]) (fun r=>[])
theorem cj9 (n:Nat):aj2 Tryz.prog (akl n):=by
 have hΓ:=g1 (bkd n) (@g0 (aj2 Tryz.prog))
 refine aj8 (Tryz.f73.body.getD .skip) h00 Tryz.func73 rfl Tryz.call73 (by decide) (by intro _ r;exact ⟨rfl,by simp⟩) ?_
 rintro l r H
 try dsimp only at H
 unfold az3 at H
 simp only [Tryz.f73,Option.getD]
 refine rA ?_
 obtain ⟨r1,hr1,H⟩:=bind_some H
 have q:=And.intro @azi.eq_1 hr1
 refine rAq ?_
 refine rA ?_
 refine Sm.ret ?_
 refine lf ?_
 obtain rfl:=Option.some.inj H
 exact rt []
def ayi (n:Nat) (l:List aj0):Option Int :=
 (azm n l).bind fun r1 =>
 some ((r1.1.length:Nat):Int)
def bk5 (n:Nat):Go.AE.Fn:=mkFn (A:=(List aj0)) (R:=Int) 128 [(false,[.slice 80])] false (fun xs=>((cg (xs.getD 0 []) 0).toSl.map ajm)) (fun a=>[[.slice (List.map aj1 a)]]) (fun a=>ayi n a) (fun r=>[.c (.int .i64) (.int r)]) (fun r=>[])
theorem dk2 (n:Nat):aj2 Tryz.prog (bk5 n):=by
 have hΓ:=g1 (bkd n) (@g0 (aj2 Tryz.prog))
 refine aj8 (Tryz.f128.body.getD .skip) h00 Tryz.func128 rfl Tryz.call128 (by decide) (by intro _ r;exact ⟨rfl,by simp⟩) ?_
 rintro l r H
 try dsimp only at H
 unfold ayi at H
 simp only [Tryz.f128,Option.getD]
 refine rA ?_
 obtain ⟨r1,hr1,H⟩:=bind_some H
 have q:=And.intro @azi.eq_1 hr1
 refine rAq ?_
 refine rA ?_
 refine Sm.ret ?_
 refine lf ?_
 obtain rfl:=Option.some.inj H
 exact rt []
abbrev cyk (d:aj4):S:=stB [(3,.box 9000 0)] [(9000,.box [.c .str (.str d.Name),.c (.int .i64) (.int d.Dcb.Org),.c (.int .i64) (.int d.Dcb.Format),.c .bool (.bool d.Dcb.Blocked),.c .bool (.bool d.Dcb.Asa),.c (.int .i64) (.int d.Dcb.Lrecl),.c (.int .i64) (.int d.Dcb.Blksize),.c (.int .i64) (.int d.Dcb.KeyLen),.c (.int .i64) (.int d.Dcb.KeyPos),.c (.slice 80) (.slice (List.map aj1 d.Extents)),.c (.int .i64) (.int d.Used)])]
def bzh (n:Nat) (d:aj4):Option Bool :=
 (bwy n d.Name).bind fun r1 =>
 gd ((r1=true→(aq0 n d.Dcb).isSome=true)∧((if r1=true then ((aq0 n d.Dcb).getD default) else false)=true→(ajl n (d.Extents.length:Int) 1 8).isSome=true)∧((if (if r1=true then ((aq0 n d.Dcb).getD default) else false)=true then ((ajl n (d.Extents.length:Int) 1 8).getD default) else false)=true→(az3 n d.Extents).isSome=true)∧((if (if (if r1=true then ((aq0 n d.Dcb).getD default) else false)=true then ((ajl n (d.Extents.length:Int) 1 8).getD default) else false)=true then ((az3 n d.Extents).getD default) else false)=true→(ayi n d.Extents).isSome=true)∧((if (if (if r1=true then ((aq0 n d.Dcb).getD default) else false)=true then ((ajl n (d.Extents.length:Int) 1 8).getD default) else false)=true then ((az3 n d.Extents).getD default) else false)=true→(ajl n d.Used 0 ((ayi n d.Extents).getD default)).isSome=true)) <|
 some (if (if (if (if r1=true then ((aq0 n d.Dcb).getD default) else false)=true then ((ajl n (d.Extents.length:Int) 1 8).getD default) else false)=true then ((az3 n d.Extents).getD default) else false)=true then ((ajl n d.Used 0 ((ayi n d.Extents).getD default)).getD default) else false)
abbrev cy3 (v:aj5) (d:aj4) (k:Int):S:=stB [(2,.box 9003 0),(3,.box 9004 0),(5,.c (.int .i64) (.int k))] [(9003,.box [.c .str (.str v.Serial),.c (.int .i64) (.int v.Cyls),.c (.int .i64) (.int v.Heads),.c (.int .i64) (.int v.Size),.c (.slice 41) (.slice (List.map aj3 v.Sets))]),(9004,.box [.c .str (.str d.Name),.c (.int .i64) (.int d.Dcb.Org),.c (.int .i64) (.int d.Dcb.Format),.c .bool (.bool d.Dcb.Blocked),.c .bool (.bool d.Dcb.Asa),.c (.int .i64) (.int d.Dcb.Lrecl),.c (.int .i64) (.int d.Dcb.Blksize),.c (.int .i64) (.int d.Dcb.KeyLen),.c (.int .i64) (.int d.Dcb.KeyPos),.c (.slice 80) (.slice (List.map aj1 d.Extents)),.c (.int .i64) (.int d.Used)])]
def bjo (n:Nat) (v:aj5) (d:aj4) (k:Int):Option ((Int) ⊕ (((Bool) ⊕ (Unit)))) :=
 bif (decide (k < (d.Extents.length:Int))) then
  gd ((0≤k∧k < (d.Extents.length:Int))) <|
  bif (if (decide (((gt d.Extents (Int.toNat k)).At)≤v.Size))=true then true else (decide ((IntKind.wrap .i64 (((gt d.Extents (Int.toNat k)).At)+((gt d.Extents (Int.toNat k)).Len))) > (IntKind.wrap .i64 (v.Cyls * v.Heads))))) then
   some (.inr (.inl false))
  else
   some (.inl (IntKind.wrap .i64 (k+1)))
 else
  some (.inr (.inr ()))
def cj0 (n:Nat) (v:aj5) (d:aj4):Option Bool :=
 (ajj (fun (x:Int)=>bjo n v d x) n 0).bind fun y9 =>
 match y9 with
 | .inl vv =>
  some vv
 | .inr vv =>
  bzh n d
def cze (n:Nat):Go.AE.Fn:=mkFn (A:=aj5×aj4) (R:=Bool) 72 [(true,[.str,.int .i64,.int .i64,.int .i64,.slice 41]),(true,[.str,.int .i64,.int .i64,.bool,.bool,.int .i64,.int .i64,.int .i64,.int .i64,.slice 80,.int .i64])] false (fun xs=>((⟨(cg (xs.getD 0 []) 0).toStr,(cg (xs.getD 0 []) 1).toInt,(cg (xs.getD 0 []) 2).toInt,(cg (xs.getD 0 []) 3).toInt,((cg (xs.getD 0 []) 4).toSl.map aqd)⟩:aj5),(⟨(cg (xs.getD 1 []) 0).toStr,(⟨(cg (xs.getD 1 []) 1).toInt,(cg (xs.getD 1 []) 2).toInt,(cg (xs.getD 1 []) 3).toBool,(cg (xs.getD 1 []) 4).toBool,(cg (xs.getD 1 []) 5).toInt,(cg (xs.getD 1 []) 6).toInt,(cg (xs.getD 1 []) 7).toInt,(cg (xs.getD 1 []) 8).toInt⟩:TDcb),((cg (xs.getD 1 []) 9).toSl.map ajm),(cg (xs.getD 1 []) 10).toInt⟩:aj4))) (fun a=>[[.str a.1.Serial,.int a.1.Cyls,.int a.1.Heads,.int a.1.Size,.slice (List.map aj3 a.1.Sets)],[.str a.2.Name,.int a.2.Dcb.Org,.int a.2.Dcb.Format,.bool a.2.Dcb.Blocked,.bool a.2.Dcb.Asa,.int a.2.Dcb.Lrecl,.int a.2.Dcb.Blksize,.int a.2.Dcb.KeyLen,.int a.2.Dcb.KeyPos,.slice (List.map aj1 a.2.Extents),.int a.2.Used]]) (fun a=>cj0 n a.1 a.2) (fun r=>[.c .bool (.bool r)]) (fun r=>[])
theorem eyd (n:Nat):aj2 Tryz.prog (cze n):=by
 have hΓ:=g1 (dj6 n) (g1 (bka n) (g1 (ck4 n) (g1 (cj9 n) (g1 (dk2 n) (@g0 (aj2 Tryz.prog))))))
 refine aj8 (Tryz.f72.body.getD .skip) h00 Tryz.func72 rfl Tryz.call72 (by decide) (by intro _ r;exact ⟨rfl,by simp⟩) ?_
 rintro ⟨v,d⟩ r H
 try dsimp only at H
 unfold cj0 at H
 simp only [Tryz.f72,Option.getD]
 refine rA ?_
 refine Sm.cut (fun (x:Unit)=>cyk d) (fun x=>bzh n d=some r) ?_ ?_
 ·refine rA ?_
  refine Sm.block ?_
  obtain ⟨y9,hy9,Ho9⟩:=bind_some H
  refine Sm.loopB _ (fun x=>cy3 v d x) hy9 (wb [some 32,some 48]) ?_
  rintro k z9 H
  try dsimp only at H
  unfold bjo at H
  refine Sm.st (cy3.eq_1 ..) ?_
  refine Sm.seqK fun K10 hK10=>?_
  refine rA ?_
  refine cnd H (fun h12 H=>?_) (fun h12 H=>?_)
  ·refine Sm.skip ?_
   refine hK10 _ ?_
   refine Sm.seqK fun K13 hK13=>?_
   refine Sm.block ?_
   obtain ⟨hg18,H⟩:=aj7 H
   refine rA ?_
   refine rA ?_
   refine cnd H (fun h16 H=>?_) (fun h16 H=>?_)
   ·refine rA ?_
    refine Sm.ret ?_
    refine lf ?_
    refine lx H fun hyy=>?_
    subst hyy
    have H:=Ho9
    try dsimp only at H
    refine lf ?_
    obtain rfl:=Option.some.inj H
    exact rt []
   refine Sm.skip ?_
   refine hK13 _ ?_
   refine eA ?_
   refine lf ?_
   exact nx H (wb [some 9003,some 9004])
  refine Sm.exit ?_
  refine lf ?_
  refine lx H fun hyy=>?_
  subst hyy
  have H:=Ho9
  try dsimp only at H
  refine lf ?_
  exact ⟨(),H,wb [some 9004]⟩
 rintro ⟨⟩ H
 try dsimp only at H
 unfold bzh at H
 refine Sm.st (cyk.eq_1 ..) ?_
 obtain ⟨r1,hr1,H⟩:=bind_some H
 obtain ⟨⟨hg3,hg4,hg5,hg6,hg7⟩,H⟩:=aj7 H
 have q:=And.intro @azr.eq_1 (And.intro @aqf.eq_1 (And.intro @bjq.eq_1 (And.intro @akl.eq_1 (And.intro @bk5.eq_1 hr1))))
 refine rDq ?_
 refine Sm.ret ?_
 refine lf ?_
 obtain rfl:=Option.some.inj H
 exact rt []
abbrev dke (l:List aj0):S:=stB [(3,.own 9000 [.int .i64,.int .i64] 0 l.length)] [(9000,.row 80 (List.map aj1 l))]
def cjj (n:Nat) (l:List aj0):Option (List aj0) :=
 some l
abbrev dkd (v:aj5) (l_1:List aj0) (k:Int):S:=stB [(1,.box 9004 0),(3,.own 9005 [.int .i64,.int .i64] 0 l_1.length),(4,.c (.int .i64) (.int k))] [(9004,.box [.c .str (.str v.Serial),.c (.int .i64) (.int v.Cyls),.c (.int .i64) (.int v.Heads),.c (.int .i64) (.int v.Size),.c (.slice 41) (.slice (List.map aj3 v.Sets))]),(9005,.row 80 (List.map aj1 l_1))]
def bqa (n:Nat) (v:aj5) (l_1:List aj0) (k:Int):Option (((List aj0)×Int) ⊕ (((List aj0)))) :=
 bif (decide (k < (v.Sets.length:Int))) then
  gd ((0≤k∧k < (v.Sets.length:Int))∧(l_1.length+((gt v.Sets (Int.toNat k)).Extents).length)≤2147483648) <|
  some (.inl ((l_1 ++ (gt v.Sets (Int.toNat k)).Extents),(IntKind.wrap .i64 (k+1))))
 else
  some (.inr l_1)
def cq9 (n:Nat) (v:aj5):Option (List aj0) :=
 (ajj (fun (x:(List aj0)×Int)=>bqa n v x.1 x.2) n ([],0)).bind fun y5 =>
 cjj n y5
def dwk (n:Nat):Go.AE.Fn:=mkFn (A:=aj5) (R:=(List aj0)) 74 [(true,[.str,.int .i64,.int .i64,.int .i64,.slice 41])] false (fun xs=>(⟨(cg (xs.getD 0 []) 0).toStr,(cg (xs.getD 0 []) 1).toInt,(cg (xs.getD 0 []) 2).toInt,(cg (xs.getD 0 []) 3).toInt,((cg (xs.getD 0 []) 4).toSl.map aqd)⟩:aj5)) (fun a=>[[.str a.Serial,.int a.Cyls,.int a.Heads,.int a.Size,.slice (List.map aj3 a.Sets)]]) (fun a=>cq9 n a) (fun r=>[.own 0 [.int .i64,.int .i64] 0 r.length]) (fun r=>[.row 80 (List.map aj1 r)])
theorem ewz (n:Nat):aj2 Tryz.prog (dwk n):=by
 have hΓ:=@g0 (aj2 Tryz.prog)
 refine aj8 (Tryz.f74.body.getD .skip) h00 Tryz.func74 rfl Tryz.call74 (by decide) (fun _ r=>⟨rfl,m1 ⟨80,_,_,rfl,ty80,rfl⟩ m0⟩) ?_
 rintro v r H
 try dsimp only at H
 unfold cq9 at H
 simp only [Tryz.f74,Option.getD]
 refine rA ?_
 refine rA ?_
 refine Sm.cut (fun (x:(List aj0))=>dke x) (fun x=>cjj n x=some r) ?_ ?_
 ·refine rA ?_
  refine Sm.block ?_
  obtain ⟨y5,hy5,Ho5⟩:=bind_some H
  refine Sm.loopB _ (fun x=>dkd v x.1 x.2) hy5 (wb [some 16,none]) ?_
  rintro ⟨l_1,k⟩ z5 H
  try dsimp only at H
  unfold bqa at H
  refine Sm.st (dkd.eq_1 ..) ?_
  refine Sm.seqK fun K6 hK6=>?_
  refine rA ?_
  refine cnd H (fun h8 H=>?_) (fun h8 H=>?_)
  ·refine Sm.skip ?_
   refine hK6 _ ?_
   refine Sm.seqK fun K9 hK9=>?_
   refine Sm.block ?_
   obtain ⟨⟨hg10,hg11⟩,H⟩:=aj7 H
   refine eA ?_
   refine hK9 _ ?_
   refine eA ?_
   refine lf ?_
   exact nx H (wb [some 9004,some 304])
  refine Sm.exit ?_
  refine lf ?_
  refine lx H fun hyy=>?_
  subst hyy
  have H:=Ho5
  try dsimp only at H
  refine lf ?_
  exact ⟨_,H,wb [some 9005]⟩
 rintro l H
 try dsimp only at H
 unfold cjj at H
 refine Sm.st (dke.eq_1 ..) ?_
 refine rA ?_
 refine Sm.ret ?_
 refine lf ?_
 obtain rfl:=Option.some.inj H
 exact rto [some 9000]
abbrev cys (v:aj5):S:=stB [(1,.box 9000 0)] [(9000,.box [.c .str (.str v.Serial),.c (.int .i64) (.int v.Cyls),.c (.int .i64) (.int v.Heads),.c (.int .i64) (.int v.Size),.c (.slice 41) (.slice (List.map aj3 v.Sets))])]
def bz9 (n:Nat) (v:aj5):Option Bool :=
 (cq9 n v).bind fun r2 =>
 (az3 n r2).bind fun r3 =>
 some r3
abbrev cye (v:aj5) (k:Int):S:=stB [(1,.box 9002 0),(3,.c (.int .i64) (.int k))] [(9002,.box [.c .str (.str v.Serial),.c (.int .i64) (.int v.Cyls),.c (.int .i64) (.int v.Heads),.c (.int .i64) (.int v.Size),.c (.slice 41) (.slice (List.map aj3 v.Sets))])]
def azx (n:Nat) (v:aj5) (k:Int):Option ((Int) ⊕ (((Bool) ⊕ (Unit)))) :=
 bif (decide (k < (v.Sets.length:Int))) then
  gd ((0≤k∧k < (v.Sets.length:Int))) <|
  (cj0 n v (gt v.Sets (Int.toNat k))).bind fun r4 =>
  gd ((((!(!r4)) && (decide (k > 0)))=true→(0≤(IntKind.wrap .i64 (k - 1))∧(IntKind.wrap .i64 (k - 1)) < (v.Sets.length:Int)))∧(((!(!r4)) && (decide (k > 0)))=true→(0≤k∧k < (v.Sets.length:Int)))) <|
  bif (if (!r4)=true then true else (if (decide (k > 0))=true then (!Op.bytesLess ((gt v.Sets (Int.toNat (IntKind.wrap .i64 (k - 1)))).Name) ((gt v.Sets (Int.toNat k)).Name)) else false)) then
   some (.inr (.inl false))
  else
   some (.inl (IntKind.wrap .i64 (k+1)))
 else
  some (.inr (.inr ()))
def bq0 (n:Nat) (v:aj5):Option Bool :=
 (bk3 n v.Serial).bind fun r1 =>
 gd (((!(!r1))=true→(ajl n v.Cyls 1 64).isSome=true)∧((!(if (!r1)=true then true else (!((ajl n v.Cyls 1 64).getD default))))=true→(ajl n v.Heads 1 8).isSome=true)∧((!(if (if (!r1)=true then true else (!((ajl n v.Cyls 1 64).getD default)))=true then true else (!((ajl n v.Heads 1 8).getD default))))=true→(ajl n v.Size 1 (IntKind.wrap .i64 ((IntKind.wrap .i64 (v.Cyls * v.Heads)) - 1))).isSome=true)) <|
 bif (if (if (if (if (if (!r1)=true then true else (!((ajl n v.Cyls 1 64).getD default)))=true then true else (!((ajl n v.Heads 1 8).getD default)))=true then true else (!((ajl n v.Size 1 (IntKind.wrap .i64 ((IntKind.wrap .i64 (v.Cyls * v.Heads)) - 1))).getD default)))=true then true else (decide ((v.Sets.length:Int) > 64)))=true then true else (decide ((v.Sets.length:Int) > (IntKind.wrap .i64 (14 * v.Size))))) then
  some false
 else
  (ajj (fun (x:Int)=>azx n v x) n 0).bind fun y8 =>
  match y8 with
  | .inl vv =>
   some vv
  | .inr vv =>
   bz9 n v
def awz (n:Nat):Go.AE.Fn:=mkFn (A:=aj5) (R:=Bool) 31 [(true,[.str,.int .i64,.int .i64,.int .i64,.slice 41])] false (fun xs=>(⟨(cg (xs.getD 0 []) 0).toStr,(cg (xs.getD 0 []) 1).toInt,(cg (xs.getD 0 []) 2).toInt,(cg (xs.getD 0 []) 3).toInt,((cg (xs.getD 0 []) 4).toSl.map aqd)⟩:aj5)) (fun a=>[[.str a.Serial,.int a.Cyls,.int a.Heads,.int a.Size,.slice (List.map aj3 a.Sets)]]) (fun a=>bq0 n a) (fun r=>[.c .bool (.bool r)]) (fun r=>[])
theorem cz2 (n:Nat):aj2 Tryz.prog (awz n):=by
 have hΓ:=g1 (ekq n) (g1 (ck4 n) (g1 (eyd n) (g1 (ewz n) (g1 (cj9 n) (@g0 (aj2 Tryz.prog))))))
 refine aj8 (Tryz.f31.body.getD .skip) h00 Tryz.func31 rfl Tryz.call31 (by decide) (by intro _ r;exact ⟨rfl,by simp⟩) ?_
 rintro v r H
 try dsimp only at H
 unfold bq0 at H
 simp only [Tryz.f31,Option.getD]
 refine rA ?_
 refine Sm.seqK fun K2 hK2=>?_
 obtain ⟨r1,hr1,H⟩:=bind_some H
 obtain ⟨⟨hg19,hg20,hg21⟩,H⟩:=aj7 H
 have q:=And.intro @bkk.eq_1 (And.intro @bjq.eq_1 hr1)
 refine rAq ?_
 refine cnd H (fun h4 H=>?_) (fun h4 H=>?_)
 ·refine rA ?_
  refine Sm.ret ?_
  refine lf ?_
  obtain rfl:=Option.some.inj H
  exact rt []
 refine Sm.skip ?_
 refine hK2 _ ?_
 refine Sm.cut (fun (x:Unit)=>cys v) (fun x=>bz9 n v=some r) ?_ ?_
 ·refine rA ?_
  refine Sm.block ?_
  obtain ⟨y8,hy8,Ho8⟩:=bind_some H
  refine Sm.loopB _ (fun x=>cye v x) hy8 (wb [some 16]) ?_
  rintro k z8 H
  try dsimp only at H
  unfold azx at H
  refine Sm.st (cye.eq_1 ..) ?_
  refine Sm.seqK fun K9 hK9=>?_
  refine rA ?_
  refine cnd H (fun h11 H=>?_) (fun h11 H=>?_)
  ·refine Sm.skip ?_
   refine hK9 _ ?_
   refine Sm.seqK fun K12 hK12=>?_
   refine Sm.block ?_
   obtain ⟨hg16,H⟩:=aj7 H
   obtain ⟨r4,hr4,H⟩:=bind_some H
   obtain ⟨⟨hg17,hg18⟩,H⟩:=aj7 H
   have q:=And.intro @bkk.eq_1 (And.intro @bjq.eq_1 (And.intro @cze.eq_1 hr4))
   refine rDq ?_
   refine cnd H (fun h14 H=>?_) (fun h14 H=>?_)
   ·refine rA ?_
    refine Sm.ret ?_
    refine lf ?_
    refine lx H fun hyy=>?_
    subst hyy
    have H:=Ho8
    try dsimp only at H
    refine lf ?_
    obtain rfl:=Option.some.inj H
    exact rt []
   refine Sm.skip ?_
   refine hK12 _ ?_
   refine eA ?_
   refine lf ?_
   exact nx H (wb [some 9002])
  refine Sm.exit ?_
  refine lf ?_
  refine lx H fun hyy=>?_
  subst hyy
  have H:=Ho8
  try dsimp only at H
  refine lf ?_
  exact ⟨(),H,wb [some 9002]⟩
 rintro ⟨⟩ H
 try dsimp only at H
 unfold bz9 at H
 refine Sm.st (cys.eq_1 ..) ?_
 obtain ⟨r2,hr2,H⟩:=bind_some H
 obtain ⟨r3,hr3,H⟩:=bind_some H
 have q:=And.intro @bkk.eq_1 (And.intro @bjq.eq_1 (And.intro @cze.eq_1 (And.intro @dwk.eq_1 (And.intro @akl.eq_1 (And.intro hr2 hr3)))))
 refine rAq ?_
 refine Sm.ret ?_
 refine lf ?_
 obtain rfl:=Option.some.inj H
 exact rt []
abbrev cya:S:=stB [] []
def bzb (n:Nat):Option Int :=
 some (-1)
abbrev cyo (name:List UInt8) (v:aj5) (k:Int):S:=stB [(1,.c .str (.str name)),(2,.box 9001 0),(5,.c (.int .i64) (.int k))] [(9001,.box [.c .str (.str v.Serial),.c (.int .i64) (.int v.Cyls),.c (.int .i64) (.int v.Heads),.c (.int .i64) (.int v.Size),.c (.slice 41) (.slice (List.map aj3 v.Sets))])]
def aqn (n:Nat) (name:List UInt8) (v:aj5) (k:Int):Option ((Int) ⊕ (((Int) ⊕ (Unit)))) :=
 bif (decide (k < (v.Sets.length:Int))) then
  gd ((0≤k∧k < (v.Sets.length:Int))) <|
  bif (((gt v.Sets (Int.toNat k)).Name) == name) then
   some (.inr (.inl k))
  else
   some (.inl (IntKind.wrap .i64 (k+1)))
 else
  some (.inr (.inr ()))
def aws (n:Nat) (v:aj5) (name:List UInt8):Option Int :=
 (ajj (fun (x:Int)=>aqn n name v x) n 0).bind fun y4 =>
 match y4 with
 | .inl vv =>
  some vv
 | .inr vv =>
  bzb n
def ajx (n:Nat):Go.AE.Fn:=mkFn (A:=aj5×(List UInt8)) (R:=Int) 58 [(true,[.str,.int .i64,.int .i64,.int .i64,.slice 41]),(false,[.str])] false (fun xs=>((⟨(cg (xs.getD 0 []) 0).toStr,(cg (xs.getD 0 []) 1).toInt,(cg (xs.getD 0 []) 2).toInt,(cg (xs.getD 0 []) 3).toInt,((cg (xs.getD 0 []) 4).toSl.map aqd)⟩:aj5),(cg (xs.getD 1 []) 0).toStr)) (fun a=>[[.str a.1.Serial,.int a.1.Cyls,.int a.1.Heads,.int a.1.Size,.slice (List.map aj3 a.1.Sets)],[.str a.2]]) (fun a=>aws n a.1 a.2) (fun r=>[.c (.int .i64) (.int r)]) (fun r=>[])
theorem bqp (n:Nat):aj2 Tryz.prog (ajx n):=by
 have hΓ:=@g0 (aj2 Tryz.prog)
 refine aj8 (Tryz.f58.body.getD .skip) h00 Tryz.func58 rfl Tryz.call58 (by decide) (by intro _ r;exact ⟨rfl,by simp⟩) ?_
 rintro ⟨v,name⟩ r H
 try dsimp only at H
 unfold aws at H
 simp only [Tryz.f58,Option.getD]
 refine rA ?_
 refine Sm.cut (fun (x:Unit)=>cya) (fun x=>bzb n=some r) ?_ ?_
 ·refine rA ?_
  refine Sm.block ?_
  obtain ⟨y4,hy4,Ho4⟩:=bind_some H
  refine Sm.loopB _ (fun x=>cyo name v x) hy4 (wb [some 32]) ?_
  rintro k z4 H
  try dsimp only at H
  unfold aqn at H
  refine Sm.st (cyo.eq_1 ..) ?_
  refine Sm.seqK fun K5 hK5=>?_
  refine rA ?_
  refine cnd H (fun h7 H=>?_) (fun h7 H=>?_)
  ·refine Sm.skip ?_
   refine hK5 _ ?_
   refine Sm.seqK fun K8 hK8=>?_
   refine Sm.block ?_
   obtain ⟨hg12,H⟩:=aj7 H
   refine rA ?_
   refine cnd H (fun h10 H=>?_) (fun h10 H=>?_)
   ·refine rA ?_
    refine Sm.ret ?_
    refine lf ?_
    refine lx H fun hyy=>?_
    subst hyy
    have H:=Ho4
    try dsimp only at H
    refine lf ?_
    obtain rfl:=Option.some.inj H
    exact rt []
   refine Sm.skip ?_
   refine hK8 _ ?_
   refine eA ?_
   refine lf ?_
   exact nx H (wb [some 9001])
  refine Sm.exit ?_
  refine lf ?_
  refine lx H fun hyy=>?_
  subst hyy
  have H:=Ho4
  try dsimp only at H
  refine lf ?_
  exact ⟨(),H,wb []⟩
 rintro ⟨⟩ H
 try dsimp only at H
 unfold bzb at H
 refine Sm.st (cya.eq_1 ..) ?_
 refine rA ?_
 refine Sm.ret ?_
 refine lf ?_
 obtain rfl:=Option.some.inj H
 exact rt []
abbrev dk9 (v2:List Bool) (out:List Bool):S:=stB [(2,.elt 9000 1 [.bool] 0 0),(3,.elt 9001 1 [.bool] 0 0)] [(9000,.row 4 (List.map aki v2)),(9001,.row 4 (List.map aki out))]
def cjk (n:Nat) (v2:List Bool) (out:List Bool):Option (List Bool) :=
 gd (out.length=512∧v2.length=512) <|
 gd (out.length=512) <|
 some out
abbrev dk7 (v2_1:List Bool) (t:List Int) (out_1:List Bool) (i:Int):S:=stB [(2,.elt 9005 1 [.bool] 0 0),(3,.elt 9006 1 [.bool] 0 0),(4,.own 9007 [.int .i64] 0 t.length),(6,.c (.int .i64) (.int i))] [(9005,.row 4 (List.map aki v2_1)),(9006,.row 4 (List.map aki out_1)),(9007,.row 3 (List.map cy1 t))]
def bqh (n:Nat) (v2_1:List Bool) (t:List Int) (out_1:List Bool) (i:Int):Option (((List Bool)×Int) ⊕ (((List Bool)))) :=
 bif (decide (i < ((t.length:Nat):Int))) then
  gd ((0≤i∧i < (t.length:Int))∧(Int.toNat i) < t.length∧(0≤(gt t (Int.toNat i))∧(gt t (Int.toNat i)) < 512∧out_1.length=512)∧(Int.toNat (gt t (Int.toNat i))) < out_1.length) <|
  some (.inl ((List.set out_1 (Int.toNat (gt t (Int.toNat i))) true),(IntKind.wrap .i64 (i+1))))
 else
  some (.inr out_1)
def cqg (n:Nat) (l:List aj0):Option (List Bool) :=
 (azm n l).bind fun r1 =>
 (ajj (fun (x:(List Bool)×Int)=>bqh n (ak0 512 false) r1.1 x.1 x.2) n ((ak0 512 false),0)).bind fun y8 =>
 cjk n (ak0 512 false) y8
def bkz (n:Nat):Go.AE.Fn:=mkFn (A:=(List aj0)) (R:=(List Bool)) 130 [(false,[.slice 80])] true (fun xs=>((cg (xs.getD 0 []) 0).toSl.map ajm)) (fun a=>[[.slice (List.map aj1 a)]]) (fun a=>cqg n a) (fun r=>[.c (.arr 159) (.slice (List.map aki r))]) (fun r=>[])
theorem ew7 (n:Nat):aj2 Tryz.prog (bkz n):=by
 have hΓ:=g1 (bkd n) (@g0 (aj2 Tryz.prog))
 refine aj8 (Tryz.f130.body.getD .skip) h00 Tryz.func130 rfl Tryz.call130 (by decide) (by intro h;cases h) ?_
 rintro l r H
 try dsimp only at H
 unfold cqg at H
 simp only [Tryz.f130,Option.getD]
 refine sX fun K1 hK1=>?_
 refine oY ?_
 refine hK1 _ ?_
 refine sX fun K2 hK2=>?_
 refine oY ?_
 refine hK2 _ ?_
 obtain ⟨r1,hr1,H⟩:=bind_some H
 have q:=And.intro @azi.eq_1 hr1
 refine rAq ?_
 refine Sm.cut (fun (x:(List Bool)×(List Bool))=>dk9 x.1 x.2) (fun x=>cjk n x.1 x.2=some r) ?_ ?_
 ·refine rA ?_
  refine Sm.block ?_
  obtain ⟨y8,hy8,Ho8⟩:=bind_some H
  refine Sm.loopB _ (fun x=>dk7 (ak0 512 false) r1.1 x.1 x.2) hy8 (wb [some 32,some 48,some 144]) ?_
  rintro ⟨out_1,i⟩ z8 H
  try dsimp only at H
  unfold bqh at H
  refine Sm.st (dk7.eq_1 ..) ?_
  refine Sm.seqK fun K9 hK9=>?_
  refine rA ?_
  refine cnd H (fun h11 H=>?_) (fun h11 H=>?_)
  ·refine Sm.skip ?_
   refine hK9 _ ?_
   refine Sm.seqK fun K12 hK12=>?_
   refine Sm.block ?_
   obtain ⟨⟨hg13,hg14,hg15,hg16⟩,H⟩:=aj7 H
   refine eA ?_
   refine hK12 _ ?_
   refine eA ?_
   refine lf ?_
   exact nx H (wb [some 9005,some 9006,some 9007])
  refine Sm.exit ?_
  refine lf ?_
  refine lx H fun hyy=>?_
  subst hyy
  have H:=Ho8
  try dsimp only at H
  refine lf ?_
  exact ⟨((ak0 512 false),out_1),H,wb [some 9005,some 9006]⟩
 rintro ⟨v2,out⟩ H
 try dsimp only at H
 unfold cjk at H
 refine Sm.st (dk9.eq_1 ..) ?_
 refine sX fun K4 hK4=>?_
 obtain ⟨⟨hg5,hg6⟩,H⟩:=aj7 H
 iterate 2 refine oY ?_
 refine hK4 _ ?_
 refine Sm.ret ?_
 refine lf ?_
 obtain ⟨hga,H⟩:=aj7 H
 obtain rfl:=Option.some.inj H
 refine Ret.ofR [] (.inr rfl) ?_
 simp only [z,seval]
 (repeat (first | refine gcI ?_ | trivial));try trivial
abbrev cz8 (out:List aj0):S:=stB [(3,.own 9000 [.int .i64,.int .i64] 0 out.length)] [(9000,.row 80 (List.map aj1 out))]
def bw2 (n:Nat) (out:List aj0):Option (List aj0) :=
 some out
abbrev cke (in_:List Bool) (out_2:List aj0) (k:Int):S:=stB [(1,.elt 9006 1 [.bool] 0 0),(3,.own 9007 [.int .i64,.int .i64] 0 out_2.length),(4,.c (.int .i64) (.int k))] [(9006,.row 4 (List.map aki in_)),(9007,.row 80 (List.map aj1 out_2))]
def ak2 (n:Nat) (in_:List Bool) (out_2:List aj0) (k:Int):Option (((List aj0)×Int) ⊕ (((List aj0)))) :=
 some (.inl (out_2,(IntKind.wrap .i64 (k+1))))
abbrev czd (in_:List Bool) (out_1:List aj0) (k:Int):S:=stB [(1,.elt 9004 1 [.bool] 0 0),(3,.own 9005 [.int .i64,.int .i64] 0 out_1.length),(4,.c (.int .i64) (.int k))] [(9004,.row 4 (List.map aki in_)),(9005,.row 80 (List.map aj1 out_1))]
def ak3 (n:Nat) (in_:List Bool) (out_1:List aj0) (k:Int):Option (((List aj0)×Int) ⊕ (((List aj0)))) :=
 bif (decide (k < 512)) then
  gd ((0≤k∧k < 512∧in_.length=512)∧(Int.toNat k) < in_.length) <|
  bif (!(gt in_ (Int.toNat k))) then
   ak2 n in_ out_1 k
  else
   gd (((decide (((out_1.length:Nat):Int) > 0))=true→(0≤(IntKind.wrap .i64 (((out_1.length:Nat):Int) - 1))∧(IntKind.wrap .i64 (((out_1.length:Nat):Int) - 1)) < (out_1.length:Int)))∧((decide (((out_1.length:Nat):Int) > 0))=true→(Int.toNat (IntKind.wrap .i64 (((out_1.length:Nat):Int) - 1))) < out_1.length)∧((decide (((out_1.length:Nat):Int) > 0))=true→(0≤(IntKind.wrap .i64 (((out_1.length:Nat):Int) - 1))∧(IntKind.wrap .i64 (((out_1.length:Nat):Int) - 1)) < (out_1.length:Int)))∧((decide (((out_1.length:Nat):Int) > 0))=true→(Int.toNat (IntKind.wrap .i64 (((out_1.length:Nat):Int) - 1))) < out_1.length)) <|
   bif (if (decide (((out_1.length:Nat):Int) > 0))=true then ((IntKind.wrap .i64 (((gt out_1 (Int.toNat (IntKind.wrap .i64 (((out_1.length:Nat):Int) - 1)))).At)+((gt out_1 (Int.toNat (IntKind.wrap .i64 (((out_1.length:Nat):Int) - 1)))).Len))) == k) else false) then
    gd ((0≤(IntKind.wrap .i64 (((out_1.length:Nat):Int) - 1))∧(IntKind.wrap .i64 (((out_1.length:Nat):Int) - 1)) < (out_1.length:Int))∧(Int.toNat (IntKind.wrap .i64 (((out_1.length:Nat):Int) - 1))) < out_1.length∧(0≤(IntKind.wrap .i64 (((out_1.length:Nat):Int) - 1))∧(IntKind.wrap .i64 (((out_1.length:Nat):Int) - 1)) < (out_1.length:Int))∧(Int.toNat (IntKind.wrap .i64 (((out_1.length:Nat):Int) - 1))) < out_1.length) <|
    ak2 n in_ (List.set out_1 (Int.toNat (IntKind.wrap .i64 (((out_1.length:Nat):Int) - 1))) (⟨(gt out_1 (Int.toNat (IntKind.wrap .i64 (((out_1.length:Nat):Int) - 1)))).At,(IntKind.wrap .i64 (((gt out_1 (Int.toNat (IntKind.wrap .i64 (((out_1.length:Nat):Int) - 1)))).Len)+1))⟩:aj0)) k
   else
    gd ((out_1.length+1)≤2147483648) <|
    ak2 n in_ (out_1 ++ [(⟨k,1⟩:aj0)]) k
 else
  some (.inr out_1)
def bqg (n:Nat) (in_:List Bool):Option (List aj0) :=
 (ajj (fun (x:(List aj0)×Int)=>ak3 n in_ x.1 x.2) n ([],0)).bind fun y5 =>
 bw2 n y5
def bqz (n:Nat):Go.AE.Fn:=mkFn (A:=(List Bool)) (R:=(List aj0)) 131 [(false,[.arr 159])] false (fun xs=>((cg (xs.getD 0 []) 0).toSl.map ewc)) (fun a=>[[.slice (List.map aki a)]]) (fun a=>bqg n a) (fun r=>[.own 0 [.int .i64,.int .i64] 0 r.length]) (fun r=>[.row 80 (List.map aj1 r)])
theorem dq2 (n:Nat):aj2 Tryz.prog (bqz n):=by
 have hΓ:=@g0 (aj2 Tryz.prog)
 refine aj8 (Tryz.f131.body.getD .skip) h00 Tryz.func131 rfl Tryz.call131 (by decide) (fun _ r=>⟨rfl,m1 ⟨80,_,_,rfl,ty80,rfl⟩ m0⟩) ?_
 rintro in_ r H
 try dsimp only at H
 unfold bqg at H
 simp only [Tryz.f131,Option.getD]
 refine sX fun K1 hK1=>?_
 refine oY ?_
 refine oX ?_
 refine hK1 _ ?_
 refine rA ?_
 refine Sm.cut (fun (x:(List aj0))=>cz8 x) (fun x=>bw2 n x=some r) ?_ ?_
 ·refine rA ?_
  refine Sm.block ?_
  obtain ⟨y5,hy5,Ho5⟩:=bind_some H
  refine Sm.loopB _ (fun x=>czd in_ x.1 x.2) hy5 (wb [some 16,none]) ?_
  rintro ⟨out_1,k⟩ z5 H
  try dsimp only at H
  unfold ak3 at H
  refine Sm.st (czd.eq_1 ..) ?_
  refine Sm.seqK fun K6 hK6=>?_
  refine rA ?_
  refine cnd H (fun h8 H=>?_) (fun h8 H=>?_)
  ·refine Sm.skip ?_
   refine hK6 _ ?_
   refine Sm.cut (fun (x:(List aj0))=>cke in_ x k) (fun x=>ak2 n in_ x k=some z5) ?_ ?_
   ·refine Sm.block ?_
    refine Sm.seqK fun K9 hK9=>?_
    obtain ⟨⟨hg24,hg25⟩,H⟩:=aj7 H
    refine rA ?_
    refine cnd H (fun h11 H=>?_) (fun h11 H=>?_)
    ·refine Sm.exit ?_
     refine lf ?_
     exact ⟨_,H,wb [some 9004,some 9005]⟩
    refine Sm.skip ?_
    refine hK9 _ ?_
    refine rA ?_
    obtain ⟨⟨hg20,hg21,hg22,hg23⟩,H⟩:=aj7 H
    refine rD ?_
    refine cnd H (fun h14 H=>?_) (fun h14 H=>?_)
    ·obtain ⟨⟨hg15,hg16,hg17,hg18⟩,H⟩:=aj7 H
     refine eA ?_
     refine lf ?_
     exact ⟨_,H,wb [some 9004,some 9005]⟩
    obtain ⟨hg19,H⟩:=aj7 H
    refine eA ?_
    refine lf ?_
    exact ⟨_,H,wb [some 9004,some 768]⟩
   rintro out_2 H
   try dsimp only at H
   unfold ak2 at H
   refine Sm.st (cke.eq_1 ..) ?_
   refine eA ?_
   refine lf ?_
   exact nx H (wb [some 9006,some 9007])
  refine Sm.exit ?_
  refine lf ?_
  refine lx H fun hyy=>?_
  subst hyy
  have H:=Ho5
  try dsimp only at H
  refine lf ?_
  exact ⟨_,H,wb [some 9005]⟩
 rintro out H
 try dsimp only at H
 unfold bw2 at H
 refine Sm.st (cz8.eq_1 ..) ?_
 refine rA ?_
 refine Sm.ret ?_
 refine lf ?_
 obtain rfl:=Option.some.inj H
 exact rto [some 9000]
abbrev dq4 (out:List Bool):S:=stB [(6,.elt 9000 1 [.bool] 0 0)] [(9000,.row 4 (List.map aki out))]
def bkj (n:Nat) (out:List Bool):Option (List aj0) :=
 gd (out.length=512) <|
 (bqg n out).bind fun r3 =>
 some r3
abbrev dqk (n_:Int) (in_:List Bool) (out_1:List Bool) (k:Int):S:=stB [(1,.c (.int .i64) (.int n_)),(5,.elt 9003 1 [.bool] 0 0),(6,.elt 9004 1 [.bool] 0 0),(7,.c (.int .i64) (.int k))] [(9003,.row 4 (List.map aki in_)),(9004,.row 4 (List.map aki out_1))]
def bj8 (n:Nat) (n_:Int) (in_:List Bool) (out_1:List Bool) (k:Int):Option (((List Bool)×Int) ⊕ (((List Bool)))) :=
 bif (decide (k < n_)) then
  gd ((0≤k∧k < 512∧in_.length=512)∧(Int.toNat k) < in_.length∧(0≤k∧k < 512∧out_1.length=512)∧(Int.toNat k) < out_1.length) <|
  some (.inl ((List.set out_1 (Int.toNat k) (!(gt in_ (Int.toNat k)))),(IntKind.wrap .i64 (k+1))))
 else
  some (.inr out_1)
def bqj (n:Nat) (used:List aj0) (n_:Int):Option (List aj0) :=
 (az3 n used).bind fun r1 =>
 bif (if (if (!r1)=true then true else (decide (n_ < 0)))=true then true else (decide (n_ > 512))) then
  some []
 else
  (cqg n used).bind fun r2 =>
  gd (512=512) <|
  (ajj (fun (x:(List Bool)×Int)=>bj8 n n_ r2 x.1 x.2) n ((ak0 512 false),0)).bind fun y12 =>
  bkj n y12
def ejj (n:Nat):Go.AE.Fn:=mkFn (A:=(List aj0)×Int) (R:=(List aj0)) 77 [(false,[.slice 80]),(false,[.int .i64])] false (fun xs=>(((cg (xs.getD 0 []) 0).toSl.map ajm),(cg (xs.getD 1 []) 0).toInt)) (fun a=>[[.slice (List.map aj1 a.1)],[.int a.2]]) (fun a=>bqj n a.1 a.2) (fun r=>[.own 0 [.int .i64,.int .i64] 0 r.length]) (fun r=>[.row 80 (List.map aj1 r)])
theorem fqs (n:Nat):aj2 Tryz.prog (ejj n):=by
 have hΓ:=g1 (cj9 n) (g1 (ew7 n) (g1 (dq2 n) (@g0 (aj2 Tryz.prog))))
 refine aj8 (Tryz.f77.body.getD .skip) h00 Tryz.func77 rfl Tryz.call77 (by decide) (fun _ r=>⟨rfl,m1 ⟨80,_,_,rfl,ty80,rfl⟩ m0⟩) ?_
 rintro ⟨used,n_⟩ r H
 try dsimp only at H
 unfold bqj at H
 simp only [Tryz.f77,Option.getD]
 refine rA ?_
 refine Sm.seqK fun K2 hK2=>?_
 obtain ⟨r1,hr1,H⟩:=bind_some H
 have q:=And.intro @akl.eq_1 hr1
 refine rAq ?_
 refine cnd H (fun h4 H=>?_) (fun h4 H=>?_)
 ·refine rA ?_
  refine Sm.ret ?_
  refine lf ?_
  obtain rfl:=Option.some.inj H
  exact rto [none]
 refine Sm.skip ?_
 refine hK2 _ ?_
 refine sX fun K6 hK6=>?_
 obtain ⟨r2,hr2,H⟩:=bind_some H
 obtain ⟨hg7,H⟩:=aj7 H
 have q:=And.intro @akl.eq_1 (And.intro @bkz.eq_1 hr2)
 iterate 2 refine oXq ?_
 iterate 2 refine oYq ?_
 refine hK6 _ ?_
 refine sX fun K8 hK8=>?_
 refine oY ?_
 refine hK8 _ ?_
 refine Sm.cut (fun (x:(List Bool))=>dq4 x) (fun x=>bkj n x=some r) ?_ ?_
 ·refine rA ?_
  refine Sm.block ?_
  obtain ⟨y12,hy12,Ho12⟩:=bind_some H
  refine Sm.loopB _ (fun x=>dqk n_ r2 x.1 x.2) hy12 (wb [some 80,some 96]) ?_
  rintro ⟨out_1,k⟩ z12 H
  try dsimp only at H
  unfold bj8 at H
  refine Sm.st (dqk.eq_1 ..) ?_
  refine Sm.seqK fun K13 hK13=>?_
  refine rA ?_
  refine cnd H (fun h15 H=>?_) (fun h15 H=>?_)
  ·refine Sm.skip ?_
   refine hK13 _ ?_
   refine Sm.seqK fun K16 hK16=>?_
   refine Sm.block ?_
   obtain ⟨⟨hg17,hg18,hg19,hg20⟩,H⟩:=aj7 H
   refine eA ?_
   refine hK16 _ ?_
   refine eA ?_
   refine lf ?_
   exact nx H (wb [some 9003,some 9004])
  refine Sm.exit ?_
  refine lf ?_
  refine lx H fun hyy=>?_
  subst hyy
  have H:=Ho12
  try dsimp only at H
  refine lf ?_
  exact ⟨_,H,wb [some 9004]⟩
 rintro out H
 try dsimp only at H
 unfold bkj at H
 refine Sm.st (dq4.eq_1 ..) ?_
 refine sX fun K9 hK9=>?_
 obtain ⟨hg10,H⟩:=aj7 H
 obtain ⟨r3,hr3,H⟩:=bind_some H
 have q:=And.intro @akl.eq_1 (And.intro @bkz.eq_1 (And.intro @bqz.eq_1 hr3))
 refine oYq ?_
 iterate 2 refine oXq ?_
 refine hK9 _ ?_
 refine Sm.ret ?_
 refine lf ?_
 obtain rfl:=Option.some.inj H
 exact rto [some 528]
def bqm (n:Nat) (v:aj5):Option (List aj0) :=
 (bq0 n v).bind fun r1 =>
 bif (!r1) then
  some []
 else
  (cq9 n v).bind fun r2 =>
  gd ((r2.length+1)≤2147483648) <|
  (bqj n (r2 ++ [(⟨0,(IntKind.wrap .i64 (v.Size+1))⟩:aj0)]) (IntKind.wrap .i64 (v.Cyls * v.Heads))).bind fun r3 =>
  some r3
def bjy (n:Nat):Go.AE.Fn:=mkFn (A:=aj5) (R:=(List aj0)) 35 [(true,[.str,.int .i64,.int .i64,.int .i64,.slice 41])] false (fun xs=>(⟨(cg (xs.getD 0 []) 0).toStr,(cg (xs.getD 0 []) 1).toInt,(cg (xs.getD 0 []) 2).toInt,(cg (xs.getD 0 []) 3).toInt,((cg (xs.getD 0 []) 4).toSl.map aqd)⟩:aj5)) (fun a=>[[.str a.Serial,.int a.Cyls,.int a.Heads,.int a.Size,.slice (List.map aj3 a.Sets)]]) (fun a=>bqm n a) (fun r=>[.own 0 [.int .i64,.int .i64] 0 r.length]) (fun r=>[.row 80 (List.map aj1 r)])
theorem djf (n:Nat):aj2 Tryz.prog (bjy n):=by
 have hΓ:=g1 (cz2 n) (g1 (ewz n) (g1 (fqs n) (@g0 (aj2 Tryz.prog))))
 refine aj8 (Tryz.f35.body.getD .skip) h00 Tryz.func35 rfl Tryz.call35 (by decide) (fun _ r=>⟨rfl,m1 ⟨80,_,_,rfl,ty80,rfl⟩ m0⟩) ?_
 rintro v r H
 try dsimp only at H
 unfold bqm at H
 simp only [Tryz.f35,Option.getD]
 refine rA ?_
 refine Sm.seqK fun K2 hK2=>?_
 obtain ⟨r1,hr1,H⟩:=bind_some H
 have q:=And.intro @awz.eq_1 hr1
 refine rAq ?_
 refine cnd H (fun h4 H=>?_) (fun h4 H=>?_)
 ·refine rA ?_
  refine Sm.ret ?_
  refine lf ?_
  obtain rfl:=Option.some.inj H
  exact rto [none]
 refine Sm.skip ?_
 refine hK2 _ ?_
 obtain ⟨r2,hr2,H⟩:=bind_some H
 obtain ⟨hg7,H⟩:=aj7 H
 obtain ⟨r3,hr3,H⟩:=bind_some H
 refine sQ [0,1,2,3,4,5,6,7,8,9,10,11,12,13,14] [(none,[16],[]),(none,[],[127,126,125,124,123,122,121,120,119,118,117,116,115,114,113,112]),(none,[16],[]),(none,[16],[]),(none,[],[]),(none,[],[]),(none,[],[192]),(none,[112,192],[208,112]),(none,[16],[]),(none,[16],[]),(none,[16],[]),(none,[16],[]),(none,[],[]),(none,[208],[319,318,317,316,315,314,313,312,311,310,309,308,307,306,305,304,208]),(none,[],[])] fun K6 hK6=>?_
 have q:=And.intro @awz.eq_1 (And.intro @dwk.eq_1 (And.intro @ejj.eq_1 (And.intro hr2 hr3)))
 iterate 15 refine oQq ?_
 refine cw0 ?_
 refine hK6 _ ?_
 refine Sm.ret ?_
 refine lf ?_
 obtain rfl:=Option.some.inj H
 exact rto [some 304]
abbrev dqt:S:=stB [] []
def bkr (n:Nat):Option Bool :=
 some true
abbrev dqd (a:List aj0) (b:List aj0) (i:Int):S:=stB [(0,.c (.slice 80) (.slice (List.map aj1 a))),(1,.c (.slice 80) (.slice (List.map aj1 b))),(5,.c (.int .i64) (.int i))] []
def bwf (n:Nat) (a:List aj0) (b:List aj0) (i:Int):Option ((Int) ⊕ (((Bool) ⊕ (Unit)))) :=
 bif (decide (i < (a.length:Int))) then
  gd ((0≤i∧i < (a.length:Int))∧(0≤i∧i < (b.length:Int))) <|
  bif (!((((gt a (Int.toNat i)).At) == ((gt b (Int.toNat i)).At)) && (((gt a (Int.toNat i)).Len) == ((gt b (Int.toNat i)).Len)))) then
   some (.inr (.inl false))
  else
   some (.inl (IntKind.wrap .i64 (i+1)))
 else
  some (.inr (.inr ()))
def by3 (n:Nat) (a:List aj0) (b:List aj0):Option Bool :=
 bif ((a.length:Int) != (b.length:Int)) then
  some false
 else
  (ajj (fun (x:Int)=>bwf n a b x) n 0).bind fun y8 =>
  match y8 with
  | .inl vv =>
   some vv
  | .inr vv =>
   bkr n
def byi (n:Nat):Go.AE.Fn:=mkFn (A:=(List aj0)×(List aj0)) (R:=Bool) 33 [(false,[.slice 80]),(false,[.slice 80])] false (fun xs=>(((cg (xs.getD 0 []) 0).toSl.map ajm),((cg (xs.getD 1 []) 0).toSl.map ajm))) (fun a=>[[.slice (List.map aj1 a.1)],[.slice (List.map aj1 a.2)]]) (fun a=>by3 n a.1 a.2) (fun r=>[.c .bool (.bool r)]) (fun r=>[])
theorem dyv (n:Nat):aj2 Tryz.prog (byi n):=by
 have hΓ:=@g0 (aj2 Tryz.prog)
 refine aj8 (Tryz.f33.body.getD .skip) h00 Tryz.func33 rfl Tryz.call33 (by decide) (by intro _ r;exact ⟨rfl,by simp⟩) ?_
 rintro ⟨a,b⟩ r H
 try dsimp only at H
 unfold by3 at H
 simp only [Tryz.f33,Option.getD]
 refine rA ?_
 refine Sm.seqK fun K2 hK2=>?_
 refine rA ?_
 refine cnd H (fun h4 H=>?_) (fun h4 H=>?_)
 ·refine rA ?_
  refine Sm.ret ?_
  refine lf ?_
  obtain rfl:=Option.some.inj H
  exact rt []
 refine Sm.skip ?_
 refine hK2 _ ?_
 refine Sm.cut (fun (x:Unit)=>dqt) (fun x=>bkr n=some r) ?_ ?_
 ·refine rA ?_
  refine Sm.block ?_
  obtain ⟨y8,hy8,Ho8⟩:=bind_some H
  refine Sm.loopB _ (fun x=>dqd a b x) hy8 (wb []) ?_
  rintro i z8 H
  try dsimp only at H
  unfold bwf at H
  refine Sm.st (dqd.eq_1 ..) ?_
  refine Sm.seqK fun K9 hK9=>?_
  refine rA ?_
  refine cnd H (fun h11 H=>?_) (fun h11 H=>?_)
  ·refine Sm.skip ?_
   refine hK9 _ ?_
   refine Sm.seqK fun K12 hK12=>?_
   refine Sm.block ?_
   obtain ⟨⟨hg16,hg17⟩,H⟩:=aj7 H
   refine rD ?_
   refine cnd H (fun h14 H=>?_) (fun h14 H=>?_)
   ·refine rA ?_
    refine Sm.ret ?_
    refine lf ?_
    refine lx H fun hyy=>?_
    subst hyy
    have H:=Ho8
    try dsimp only at H
    refine lf ?_
    obtain rfl:=Option.some.inj H
    exact rt []
   refine Sm.skip ?_
   refine hK12 _ ?_
   refine eA ?_
   refine lf ?_
   exact nx H (wb [])
  refine Sm.exit ?_
  refine lf ?_
  refine lx H fun hyy=>?_
  subst hyy
  have H:=Ho8
  try dsimp only at H
  refine lf ?_
  exact ⟨(),H,wb []⟩
 rintro ⟨⟩ H
 try dsimp only at H
 unfold bkr at H
 refine Sm.st (dqt.eq_1 ..) ?_
 refine rA ?_
 refine Sm.ret ?_
 refine lf ?_
 obtain rfl:=Option.some.inj H
 exact rt []
abbrev cyd:S:=stB [] []
def bz4 (n:Nat):Option Bool :=
 some true
abbrev cyg (n_:Int) (t:List Int) (i:Int):S:=stB [(1,.c (.int .i64) (.int n_)),(5,.own 9001 [.int .i64] 0 t.length),(7,.c (.int .i64) (.int i))] [(9001,.row 3 (List.map cy1 t))]
def bjr (n:Nat) (n_:Int) (t:List Int) (i:Int):Option ((Int) ⊕ (((Bool) ⊕ (Unit)))) :=
 bif (decide (i < ((t.length:Nat):Int))) then
  gd ((0≤i∧i < (t.length:Int))∧(Int.toNat i) < t.length) <|
  bif (decide ((gt t (Int.toNat i)) ≥ n_)) then
   some (.inr (.inl false))
  else
   some (.inl (IntKind.wrap .i64 (i+1)))
 else
  some (.inr (.inr ()))
def byn (n:Nat) (l:List aj0) (n_:Int):Option Bool :=
 (azm n l).bind fun r1 =>
 bif (!r1.2) then
  some false
 else
  gd ((!(!r1.2))=true) <|
  (cqg n l).bind fun r2 =>
  (bqg n r2).bind fun r3 =>
  gd ((!(!r1.2))=true) <|
  (by3 n l r3).bind fun r4 =>
  bif (!r4) then
   some false
  else
   (ajj (fun (x:Int)=>bjr n n_ r1.1 x) n 0).bind fun y14 =>
   match y14 with
   | .inl vv =>
    some vv
   | .inr vv =>
    bz4 n
def cj6 (n:Nat):Go.AE.Fn:=mkFn (A:=(List aj0)×Int) (R:=Bool) 167 [(false,[.slice 80]),(false,[.int .i64])] false (fun xs=>(((cg (xs.getD 0 []) 0).toSl.map ajm),(cg (xs.getD 1 []) 0).toInt)) (fun a=>[[.slice (List.map aj1 a.1)],[.int a.2]]) (fun a=>byn n a.1 a.2) (fun r=>[.c .bool (.bool r)]) (fun r=>[])
theorem fjl (n:Nat):aj2 Tryz.prog (cj6 n):=by
 have hΓ:=g1 (bkd n) (g1 (ew7 n) (g1 (dq2 n) (g1 (dyv n) (@g0 (aj2 Tryz.prog)))))
 refine aj8 (Tryz.f167.body.getD .skip) h00 Tryz.func167 rfl Tryz.call167 (by decide) (by intro _ r;exact ⟨rfl,by simp⟩) ?_
 rintro ⟨l,n_⟩ r H
 try dsimp only at H
 unfold byn at H
 simp only [Tryz.f167,Option.getD]
 refine rA ?_
 obtain ⟨r1,hr1,H⟩:=bind_some H
 have q:=And.intro @azi.eq_1 hr1
 refine rAq ?_
 refine Sm.seqK fun K3 hK3=>?_
 refine sX fun K4 hK4=>?_
 have q:=And.intro @azi.eq_1 (And.intro @bkz.eq_1 (And.intro @bqz.eq_1 @byi.eq_1))
 iterate 5 refine oXq ?_
 refine byw H (fun hs5 H=>?_) (fun hs5 H=>?_)
 ·have q:=And.intro @azi.eq_1 (And.intro @bkz.eq_1 (And.intro @bqz.eq_1 (And.intro @byi.eq_1 hs5)))
  refine oFq ?_
  refine oFq ?_
  refine oFq ?_
  refine oFq ?_
  refine oPl ?_
  refine hK4 _ ?_
  refine cndT ?_
  refine rA ?_
  refine Sm.ret ?_
  refine lf ?_
  obtain rfl:=Option.some.inj H
  exact rt []
 obtain ⟨hg8,H⟩:=aj7 H
 obtain ⟨r2,hr2,H⟩:=bind_some H
 obtain ⟨r3,hr3,H⟩:=bind_some H
 obtain ⟨hg9,H⟩:=aj7 H
 obtain ⟨r4,hr4,H⟩:=bind_some H
 have q:=And.intro @azi.eq_1 (And.intro @bkz.eq_1 (And.intro @bqz.eq_1 (And.intro @byi.eq_1 (And.intro hs5 (And.intro hr2 (And.intro hr3 hr4))))))
 refine oTG ?_
 refine oTG ?_
 refine oTG ?_
 refine oTG ?_
 refine oPr ?_
 refine hK4 _ ?_
 refine cnd H (fun h10 H=>?_) (fun h10 H=>?_)
 ·refine rA ?_
  refine Sm.ret ?_
  refine lf ?_
  obtain rfl:=Option.some.inj H
  exact rt []
 refine Sm.skip ?_
 refine hK3 _ ?_
 refine Sm.cut (fun (x:Unit)=>cyd) (fun x=>bz4 n=some r) ?_ ?_
 ·refine rA ?_
  refine Sm.block ?_
  obtain ⟨y14,hy14,Ho14⟩:=bind_some H
  refine Sm.loopB _ (fun x=>cyg n_ r1.1 x) hy14 (wb [some 160]) ?_
  rintro i z14 H
  try dsimp only at H
  unfold bjr at H
  refine Sm.st (cyg.eq_1 ..) ?_
  refine Sm.seqK fun K15 hK15=>?_
  refine rA ?_
  refine cnd H (fun h17 H=>?_) (fun h17 H=>?_)
  ·refine Sm.skip ?_
   refine hK15 _ ?_
   refine Sm.seqK fun K18 hK18=>?_
   refine Sm.block ?_
   obtain ⟨⟨hg22,hg23⟩,H⟩:=aj7 H
   refine rA ?_
   refine cnd H (fun h20 H=>?_) (fun h20 H=>?_)
   ·refine rA ?_
    refine Sm.ret ?_
    refine lf ?_
    refine lx H fun hyy=>?_
    subst hyy
    have H:=Ho14
    try dsimp only at H
    refine lf ?_
    obtain rfl:=Option.some.inj H
    exact rt []
   refine Sm.skip ?_
   refine hK18 _ ?_
   refine eA ?_
   refine lf ?_
   exact nx H (wb [some 9001])
  refine Sm.exit ?_
  refine lf ?_
  refine lx H fun hyy=>?_
  subst hyy
  have H:=Ho14
  try dsimp only at H
  refine lf ?_
  exact ⟨(),H,wb []⟩
 rintro ⟨⟩ H
 try dsimp only at H
 unfold bz4 at H
 refine Sm.st (cyd.eq_1 ..) ?_
 refine rA ?_
 refine Sm.ret ?_
 refine lf ?_
 obtain rfl:=Option.some.inj H
 exact rt []
abbrev dqi (out:List aj0):S:=stB [(3,.own 9000 [.int .i64,.int .i64] 0 out.length)] [(9000,.row 80 (List.map aj1 out))]
def bko (n:Nat) (out:List aj0):Option (List aj0) :=
 some out
abbrev dqe (l:List aj0) (out_2:List aj0) (i:Int):S:=stB [(0,.c (.slice 80) (.slice (List.map aj1 l))),(3,.own 9003 [.int .i64,.int .i64] 0 out_2.length),(4,.c (.int .i64) (.int i))] [(9003,.row 80 (List.map aj1 out_2))]
def bwh (n:Nat) (l:List aj0) (out_2:List aj0) (i:Int):Option (((List aj0)×Int) ⊕ (((List aj0)))) :=
 some (.inl (out_2,(IntKind.wrap .i64 (i+1))))
abbrev djr (l:List aj0) (out_1:List aj0) (i:Int):S:=stB [(0,.c (.slice 80) (.slice (List.map aj1 l))),(3,.own 9002 [.int .i64,.int .i64] 0 out_1.length),(4,.c (.int .i64) (.int i))] [(9002,.row 80 (List.map aj1 out_1))]
def bj6 (n:Nat) (l:List aj0) (out_1:List aj0) (i:Int):Option (((List aj0)×Int) ⊕ (((List aj0)))) :=
 bif (decide (i < (l.length:Int))) then
  gd ((0≤i∧i < (l.length:Int))) <|
  bif (decide (((gt l (Int.toNat i)).Len) > 0)) then
   gd ((0≤i∧i < (l.length:Int))∧(out_1.length+1)≤2147483648) <|
   bwh n l (out_1 ++ [(gt l (Int.toNat i))]) i
  else
   bwh n l out_1 i
 else
  some (.inr out_1)
def bq7 (n:Nat) (l:List aj0):Option (List aj0) :=
 (ajj (fun (x:(List aj0)×Int)=>bj6 n l x.1 x.2) n ([],0)).bind fun y5 =>
 bko n y5
def cw8 (n:Nat):Go.AE.Fn:=mkFn (A:=(List aj0)) (R:=(List aj0)) 168 [(false,[.slice 80])] false (fun xs=>((cg (xs.getD 0 []) 0).toSl.map ajm)) (fun a=>[[.slice (List.map aj1 a)]]) (fun a=>bq7 n a) (fun r=>[.own 0 [.int .i64,.int .i64] 0 r.length]) (fun r=>[.row 80 (List.map aj1 r)])
theorem dye (n:Nat):aj2 Tryz.prog (cw8 n):=by
 have hΓ:=@g0 (aj2 Tryz.prog)
 refine aj8 (Tryz.f168.body.getD .skip) h00 Tryz.func168 rfl Tryz.call168 (by decide) (fun _ r=>⟨rfl,m1 ⟨80,_,_,rfl,ty80,rfl⟩ m0⟩) ?_
 rintro l r H
 try dsimp only at H
 unfold bq7 at H
 simp only [Tryz.f168,Option.getD]
 refine rA ?_
 refine rA ?_
 refine Sm.cut (fun (x:(List aj0))=>dqi x) (fun x=>bko n x=some r) ?_ ?_
 ·refine rA ?_
  refine Sm.block ?_
  obtain ⟨y5,hy5,Ho5⟩:=bind_some H
  refine Sm.loopB _ (fun x=>djr l x.1 x.2) hy5 (wb [none]) ?_
  rintro ⟨out_1,i⟩ z5 H
  try dsimp only at H
  unfold bj6 at H
  refine Sm.st (djr.eq_1 ..) ?_
  refine Sm.seqK fun K6 hK6=>?_
  refine rA ?_
  refine cnd H (fun h8 H=>?_) (fun h8 H=>?_)
  ·refine Sm.skip ?_
   refine hK6 _ ?_
   refine Sm.cut (fun (x:(List aj0))=>dqe l x i) (fun x=>bwh n l x i=some z5) ?_ ?_
   ·refine Sm.block ?_
    obtain ⟨hg13,H⟩:=aj7 H
    refine rA ?_
    refine cnd H (fun h10 H=>?_) (fun h10 H=>?_)
    ·obtain ⟨⟨hg11,hg12⟩,H⟩:=aj7 H
     refine eA ?_
     refine lf ?_
     exact ⟨_,H,wb [some 368]⟩
    refine Sm.skip ?_
    refine lf ?_
    exact ⟨_,H,wb [some 9002]⟩
   rintro out_2 H
   try dsimp only at H
   unfold bwh at H
   refine Sm.st (dqe.eq_1 ..) ?_
   refine eA ?_
   refine lf ?_
   exact nx H (wb [some 9003])
  refine Sm.exit ?_
  refine lf ?_
  refine lx H fun hyy=>?_
  subst hyy
  have H:=Ho5
  try dsimp only at H
  refine lf ?_
  exact ⟨_,H,wb [some 9002]⟩
 rintro out H
 try dsimp only at H
 unfold bko at H
 refine Sm.st (dqi.eq_1 ..) ?_
 refine rA ?_
 refine Sm.ret ?_
 refine lf ?_
 obtain rfl:=Option.some.inj H
 exact rto [some 9000]
end Go.Proofs.YtijnkhcfondehaaGreatDoor
