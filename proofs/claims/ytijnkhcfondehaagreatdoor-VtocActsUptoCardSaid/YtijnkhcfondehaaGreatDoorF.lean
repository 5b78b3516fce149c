/- Text. -/
import Derived.Test.YtijnkhcfondehaaGreatDoorF1
set_option maxHeartbeats 8000000
set_option linter.unusedVariables false
set_option linter.unusedSimpArgs false
set_option maxRecDepth 100000
open Go.IntKind renaming wrap→jd
open _root_.Option renaming getD→jt
open Go.AE.Sm renaming seqK→jr,ret→js,skip→jq,cut→j4,block→jC,loopB→j3,exit→Jb
open Go.Proofs.Tryz renaming prog→je
namespace Go.Proofs.YtijnkhcfondehaaGreatDoor
open Go.AE
abbrev dq5:S:=stB [] []
def bk9 (n:Nat):Option Bool :=
 some true
abbrev djy (a:List aj0) (b:List aj0) (i:Int):S:=stB [(0,.c (.slice 80) (.slice (List.map aj1 a))),(1,.c (.slice 80) (.slice (List.map aj1 b))),(5,.c (.int .i64) (.int i))] []
def bqq (n:Nat) (a:List aj0) (b:List aj0) (i:Int):Option ((Int) ⊕ (((Bool) ⊕ (Unit)))) :=
 bif (decide (i < (a.length:Int))) then
  gd ((0≤i∧i < (a.length:Int))∧(0≤i∧i < (b.length:Int))) <|
  bif (!((((gt a (Int.toNat i)).At) == ((gt b (Int.toNat i)).At)) && (((gt a (Int.toNat i)).Len) == ((gt b (Int.toNat i)).Len)))) then
   some (.inr (.inl false))
  else
   some (.inl (jd .i64 (i+1)))
 else
  some (.inr (.inr ()))
def cjp (n:Nat) (a:List aj0) (b:List aj0):Option Bool :=
 bif ((a.length:Int) != (b.length:Int)) then
  some false
 else
  (ajk (fun (x:Int)=>bqq n a b x) n 0).bind fun y8 =>
  match y8 with
  | .inl vv =>
   some vv
  | .inr vv =>
   bk9 n
def ejj (n:Nat):Go.AE.Fn:=mkFn (A:=(List aj0)×(List aj0)) (R:=Bool) 33 [(false,[.slice 80]),(false,[.slice 80])] false (fun xs=>(((cg (xs.getD 0 []) 0).toSl.map ajl),((cg (xs.getD 1 []) 0).toSl.map ajl))) (fun a=>[[.slice (List.map aj1 a.1)],[.slice (List.map aj1 a.2)]]) (fun a=>cjp n a.1 a.2) (fun r=>[.c .bool (.bool r)]) (fun r=>[])
theorem fzr (n:Nat):aj2 je (ejj n):=by
 have hΓ:=@g0 (aj2 je)
 refine ajb (Tryz.f33.body.getD .skip) h00 Tryz.func33 rfl Tryz.call33 (by decide) (by intro _ r;exact ⟨rfl,by simp⟩) ?_
 rintro ⟨a,b⟩ r H
 try dsimp only at H
 unfold cjp at H
 simp only [Tryz.f33,jt]
 refine rA ?_
 refine jr fun K2 hK2=>?_
 refine rA ?_
 refine cnd H (fun h4 H=>?_) (fun h4 H=>?_)
 ·refine rA ?_
  refine js ?_
  refine lf ?_
  obtain rfl:=Option.some.inj H
  exact rt []
 refine jq ?_
 refine hK2 _ ?_
 refine j4 (fun (x:Unit)=>dq5) (fun x=>bk9 n=some r) ?_ ?_
 ·refine rA ?_
  refine jC ?_
  obtain ⟨y8,hy8,Ho8⟩:=bind_some H
  refine j3 _ (fun x=>djy a b x) hy8 (wb []) ?_
  rintro i z8 H
  try dsimp only at H
  unfold bqq at H
  refine Sm.st (djy.eq_1 ..) ?_
  refine jr fun K9 hK9=>?_
  refine rA ?_
  refine cnd H (fun h11 H=>?_) (fun h11 H=>?_)
  ·refine jq ?_
   refine hK9 _ ?_
   refine jr fun K12 hK12=>?_
   refine jC ?_
   obtain ⟨⟨hg16,hg17⟩,H⟩:=aj7 H
   refine rD ?_
   refine cnd H (fun h14 H=>?_) (fun h14 H=>?_)
   ·refine rA ?_
    refine js ?_
    refine lf ?_
    refine lx H fun hyy=>?_
    subst hyy
    have H:=Ho8
    try dsimp only at H
    refine lf ?_
    obtain rfl:=Option.some.inj H
    exact rt []
   refine jq ?_
   refine hK12 _ ?_
   refine eA ?_
   refine lf ?_
   exact nx H (wb [])
  refine Jb ?_
  refine lf ?_
  refine lx H fun hyy=>?_
  subst hyy
  have H:=Ho8
  try dsimp only at H
  refine lf ?_
  exact ⟨(),H,wb []⟩
 rintro ⟨⟩ H
 try dsimp only at H
 unfold bk9 at H
 refine Sm.st (dq5.eq_1 ..) ?_
 refine rA ?_
 refine js ?_
 refine lf ?_
 obtain rfl:=Option.some.inj H
 exact rt []
abbrev cyi:S:=stB [] []
def bwy (n:Nat):Option Bool :=
 some true
abbrev cyn (n_:Int) (t:List Int) (i:Int):S:=stB [(1,.c (.int .i64) (.int n_)),(5,.own 9001 [.int .i64] 0 t.length),(7,.c (.int .i64) (.int i))] [(9001,.row 3 (List.map cyy t))]
def bja (n:Nat) (n_:Int) (t:List Int) (i:Int):Option ((Int) ⊕ (((Bool) ⊕ (Unit)))) :=
 bif (decide (i < ((t.length:Nat):Int))) then
  gd ((0≤i∧i < (t.length:Int))∧(Int.toNat i) < t.length) <|
  bif (decide ((gt t (Int.toNat i)) ≥ n_)) then
   some (.inr (.inl false))
  else
   some (.inl (jd .i64 (i+1)))
 else
  some (.inr (.inr ()))
def bky (n:Nat) (l:List aj0) (n_:Int):Option Bool :=
 (az8 n l).bind fun r1 =>
 bif (!r1.2) then
  some false
 else
  gd ((!(!r1.2))=true) <|
  (cjz n l).bind fun r2 =>
  (bjt n r2).bind fun r3 =>
  gd ((!(!r1.2))=true) <|
  (cjp n l r3).bind fun r4 =>
  bif (!r4) then
   some false
  else
   (ajk (fun (x:Int)=>bja n n_ r1.1 x) n 0).bind fun y14 =>
   match y14 with
   | .inl vv =>
    some vv
   | .inr vv =>
    bwy n
def dzu (n:Nat):Go.AE.Fn:=mkFn (A:=(List aj0)×Int) (R:=Bool) 167 [(false,[.slice 80]),(false,[.int .i64])] false (fun xs=>(((cg (xs.getD 0 []) 0).toSl.map ajl),(cg (xs.getD 1 []) 0).toInt)) (fun a=>[[.slice (List.map aj1 a.1)],[.int a.2]]) (fun a=>bky n a.1 a.2) (fun r=>[.c .bool (.bool r)]) (fun r=>[])
theorem fqy (n:Nat):aj2 je (dzu n):=by
 have hΓ:=g1 (bk3 n) (g1 (ezr n) (g1 (dqb n) (g1 (fzr n) (@g0 (aj2 je)))))
 have qe:=aI @bqd.eq_1 (aI @dz5.eq_1 (aI @cql.eq_1 @ejj.eq_1))
 refine ajb (Tryz.f167.body.getD .skip) h00 Tryz.func167 rfl Tryz.call167 (by decide) (by intro _ r;exact ⟨rfl,by simp⟩) ?_
 rintro ⟨l,n_⟩ r H
 try dsimp only at H
 unfold bky at H
 simp only [Tryz.f167,jt]
 refine rA ?_
 obtain ⟨r1,hr1,H⟩:=bind_some H
 have q:=aI qe hr1
 refine rAq ?_
 refine jr fun K3 hK3=>?_
 refine sX fun K4 hK4=>?_
 have q:=qe
 iterate 5 refine oXq ?_
 refine bkv H (fun hs5 H=>?_) (fun hs5 H=>?_)
 ·have q:=aI qe hs5
  refine oFq ?_
  refine oFq ?_
  refine oFq ?_
  refine oFq ?_
  refine oPl ?_
  refine hK4 _ ?_
  refine cndT ?_
  refine rA ?_
  refine js ?_
  refine lf ?_
  obtain rfl:=Option.some.inj H
  exact rt []
 obtain ⟨hg8,H⟩:=aj7 H
 obtain ⟨r2,hr2,H⟩:=bind_some H
 obtain ⟨r3,hr3,H⟩:=bind_some H
 obtain ⟨hg9,H⟩:=aj7 H
 obtain ⟨r4,hr4,H⟩:=bind_some H
 have q:=aI qe (aI hs5 (aI hr2 (aI hr3 hr4)))
 refine oTG ?_
 refine oTG ?_
 refine oTG ?_
 refine oTG ?_
 refine oPr ?_
 refine hK4 _ ?_
 refine cnd H (fun h10 H=>?_) (fun h10 H=>?_)
 ·refine rA ?_
  refine js ?_
  refine lf ?_
  obtain rfl:=Option.some.inj H
  exact rt []
 refine jq ?_
 refine hK3 _ ?_
 refine j4 (fun (x:Unit)=>cyi) (fun x=>bwy n=some r) ?_ ?_
 ·refine rA ?_
  refine jC ?_
  obtain ⟨y14,hy14,Ho14⟩:=bind_some H
  refine j3 _ (fun x=>cyn n_ r1.1 x) hy14 (wb [some 160]) ?_
  rintro i z14 H
  try dsimp only at H
  unfold bja at H
  refine Sm.st (cyn.eq_1 ..) ?_
  refine jr fun K15 hK15=>?_
  refine rA ?_
  refine cnd H (fun h17 H=>?_) (fun h17 H=>?_)
  ·refine jq ?_
   refine hK15 _ ?_
   refine jr fun K18 hK18=>?_
   refine jC ?_
   obtain ⟨⟨hg22,hg23⟩,H⟩:=aj7 H
   refine rA ?_
   refine cnd H (fun h20 H=>?_) (fun h20 H=>?_)
   ·refine rA ?_
    refine js ?_
    refine lf ?_
    refine lx H fun hyy=>?_
    subst hyy
    have H:=Ho14
    try dsimp only at H
    refine lf ?_
    obtain rfl:=Option.some.inj H
    exact rt []
   refine jq ?_
   refine hK18 _ ?_
   refine eA ?_
   refine lf ?_
   exact nx H (wb [some 9001])
  refine Jb ?_
  refine lf ?_
  refine lx H fun hyy=>?_
  subst hyy
  have H:=Ho14
  try dsimp only at H
  refine lf ?_
  exact ⟨(),H,wb []⟩
 rintro ⟨⟩ H
 try dsimp only at H
 unfold bwy at H
 refine Sm.st (cyi.eq_1 ..) ?_
 refine rA ?_
 refine js ?_
 refine lf ?_
 obtain rfl:=Option.some.inj H
 exact rt []
abbrev dwp (out:List aj0):S:=stB [(3,.own 9000 [.int .i64,.int .i64] 0 out.length)] [(9000,.row 80 (List.map aj1 out))]
def bkb (n:Nat) (out:List aj0):Option (List aj0) :=
 some out
abbrev dqh (l:List aj0) (out_2:List aj0) (i:Int):S:=stB [(0,.c (.slice 80) (.slice (List.map aj1 l))),(3,.own 9003 [.int .i64,.int .i64] 0 out_2.length),(4,.c (.int .i64) (.int i))] [(9003,.row 80 (List.map aj1 out_2))]
def bw2 (n:Nat) (l:List aj0) (out_2:List aj0) (i:Int):Option (((List aj0)×Int) ⊕ (((List aj0)))) :=
 some (.inl (out_2,(jd .i64 (i+1))))
abbrev dqu (l:List aj0) (out_1:List aj0) (i:Int):S:=stB [(0,.c (.slice 80) (.slice (List.map aj1 l))),(3,.own 9002 [.int .i64,.int .i64] 0 out_1.length),(4,.c (.int .i64) (.int i))] [(9002,.row 80 (List.map aj1 out_1))]
def ayh (n:Nat) (l:List aj0) (out_1:List aj0) (i:Int):Option (((List aj0)×Int) ⊕ (((List aj0)))) :=
 bif (decide (i < (l.length:Int))) then
  gd ((0≤i∧i < (l.length:Int))) <|
  bif (decide (((gt l (Int.toNat i)).Len) > 0)) then
   gd ((0≤i∧i < (l.length:Int))∧(out_1.length+1)≤2147483648) <|
   bw2 n l (out_1 ++ [(gt l (Int.toNat i))]) i
  else
   bw2 n l out_1 i
 else
  some (.inr out_1)
def bjy (n:Nat) (l:List aj0):Option (List aj0) :=
 (ajk (fun (x:(List aj0)×Int)=>ayh n l x.1 x.2) n ([],0)).bind fun y5 =>
 bkb n y5
def dj6 (n:Nat):Go.AE.Fn:=mkFn (A:=(List aj0)) (R:=(List aj0)) 168 [(false,[.slice 80])] false (fun xs=>((cg (xs.getD 0 []) 0).toSl.map ajl)) (fun a=>[[.slice (List.map aj1 a)]]) (fun a=>bjy n a) (fun r=>[.own 0 [.int .i64,.int .i64] 0 r.length]) (fun r=>[.row 80 (List.map aj1 r)])
theorem ejc (n:Nat):aj2 je (dj6 n):=by
 have hΓ:=@g0 (aj2 je)
 refine ajb (Tryz.f168.body.getD .skip) h00 Tryz.func168 rfl Tryz.call168 (by decide) (fun _ r=>⟨rfl,m1 ⟨80,_,_,rfl,ty80,rfl⟩ m0⟩) ?_
 rintro l r H
 try dsimp only at H
 unfold bjy at H
 simp only [Tryz.f168,jt]
 refine rA ?_
 refine rA ?_
 refine j4 (fun (x:(List aj0))=>dwp x) (fun x=>bkb n x=some r) ?_ ?_
 ·refine rA ?_
  refine jC ?_
  obtain ⟨y5,hy5,Ho5⟩:=bind_some H
  refine j3 _ (fun x=>dqu l x.1 x.2) hy5 (wb [none]) ?_
  rintro ⟨out_1,i⟩ z5 H
  try dsimp only at H
  unfold ayh at H
  refine Sm.st (dqu.eq_1 ..) ?_
  refine jr fun K6 hK6=>?_
  refine rA ?_
  refine cnd H (fun h8 H=>?_) (fun h8 H=>?_)
  ·refine jq ?_
   refine hK6 _ ?_
   refine j4 (fun (x:(List aj0))=>dqh l x i) (fun x=>bw2 n l x i=some z5) ?_ ?_
   ·refine jC ?_
    obtain ⟨hg13,H⟩:=aj7 H
    refine rA ?_
    refine cnd H (fun h10 H=>?_) (fun h10 H=>?_)
    ·obtain ⟨⟨hg11,hg12⟩,H⟩:=aj7 H
     refine eA ?_
     refine lf ?_
     exact ⟨_,H,wb [some 368]⟩
    refine jq ?_
    refine lf ?_
    exact ⟨_,H,wb [some 9002]⟩
   rintro out_2 H
   try dsimp only at H
   unfold bw2 at H
   refine Sm.st (dqh.eq_1 ..) ?_
   refine eA ?_
   refine lf ?_
   exact nx H (wb [some 9003])
  refine Jb ?_
  refine lf ?_
  refine lx H fun hyy=>?_
  subst hyy
  have H:=Ho5
  try dsimp only at H
  refine lf ?_
  exact ⟨_,H,wb [some 9002]⟩
 rintro out H
 try dsimp only at H
 unfold bkb at H
 refine Sm.st (dwp.eq_1 ..) ?_
 refine rA ?_
 refine js ?_
 refine lf ?_
 obtain rfl:=Option.some.inj H
 exact rto [some 9000]
abbrev dqo:S:=stB [] []
def cqk (n:Nat):Option ((List aj0)×(List aj0)×Int) :=
 some ([],[],200)
abbrev dw4 (want_1:Int) (pieces:Int) (rest:List aj0) (got:List aj0) (first:Int) (longest:Int):S:=stB [(1,.c (.int .i64) (.int want_1)),(2,.c (.int .i64) (.int pieces)),(9,.own 9005 [.int .i64,.int .i64] 0 rest.length),(10,.own 9006 [.int .i64,.int .i64] 0 got.length),(11,.c (.int .i64) (.int first)),(12,.c (.int .i64) (.int longest))] [(9005,.row 80 (List.map aj1 rest)),(9006,.row 80 (List.map aj1 got))]
def ayf (n:Nat) (want_1:Int) (pieces:Int) (rest:List aj0) (got:List aj0) (first:Int) (longest:Int):Option ((Int×(List aj0)×(List aj0)) ⊕ ((((List aj0)×(List aj0)×Int) ⊕ (Unit)))) :=
 bif (decide (first ≥ 0)) then
  gd ((0≤first∧first < (rest.length:Int))∧(Int.toNat first) < rest.length∧(got.length+1)≤2147483648) <|
  gd ((0≤first∧first < (rest.length:Int))∧(Int.toNat first) < rest.length∧(0≤first∧first < (rest.length:Int))∧(Int.toNat first) < rest.length∧(0≤first∧first < (rest.length:Int))∧(Int.toNat first) < rest.length) <|
  (bjy n (List.set rest (Int.toNat first) (⟨(jd .i64 (((gt rest (Int.toNat first)).At)+want_1)),(jd .i64 (((gt rest (Int.toNat first)).Len) - want_1))⟩:aj0))).bind fun r2 =>
  some (.inr (.inl ((got ++ [(⟨(gt rest (Int.toNat first)).At,want_1⟩:aj0)]),r2,0)))
 else
  gd ((0≤longest∧longest < (rest.length:Int))∧(Int.toNat longest) < rest.length∧(got.length+1)≤2147483648) <|
  gd ((0≤longest∧longest < (rest.length:Int))∧(Int.toNat longest) < rest.length) <|
  gd ((0≤longest∧longest < (rest.length:Int))∧(Int.toNat longest) < rest.length) <|
  (bjy n (List.set rest (Int.toNat longest) (⟨(gt rest (Int.toNat longest)).At,0⟩:aj0))).bind fun r3 =>
  some (.inl ((jd .i64 (want_1 - ((gt rest (Int.toNat longest)).Len))),r3,(got ++ [(gt rest (Int.toNat longest))])))
abbrev dqr (want_1:Int) (pieces:Int) (rest:List aj0) (got:List aj0) (first_2:Int) (longest_2:Int) (i:Int):S:=stB [(1,.c (.int .i64) (.int want_1)),(2,.c (.int .i64) (.int pieces)),(9,.own 9011 [.int .i64,.int .i64] 0 rest.length),(10,.own 9012 [.int .i64,.int .i64] 0 got.length),(11,.c (.int .i64) (.int first_2)),(12,.c (.int .i64) (.int longest_2)),(13,.c (.int .i64) (.int i))] [(9011,.row 80 (List.map aj1 rest)),(9012,.row 80 (List.map aj1 got))]
def bqu (n:Nat) (want_1:Int) (pieces:Int) (rest:List aj0) (got:List aj0) (first_2:Int) (longest_2:Int) (i:Int):Option ((Int×Int×Int) ⊕ ((Int×Int))) :=
 some (.inl (first_2,longest_2,(jd .i64 (i - 1))))
abbrev dqg (want_1:Int) (pieces:Int) (rest:List aj0) (got:List aj0) (first_3:Int) (longest_1:Int) (i:Int):S:=stB [(1,.c (.int .i64) (.int want_1)),(2,.c (.int .i64) (.int pieces)),(9,.own 9013 [.int .i64,.int .i64] 0 rest.length),(10,.own 9014 [.int .i64,.int .i64] 0 got.length),(11,.c (.int .i64) (.int first_3)),(12,.c (.int .i64) (.int longest_1)),(13,.c (.int .i64) (.int i))] [(9013,.row 80 (List.map aj1 rest)),(9014,.row 80 (List.map aj1 got))]
def bqe (n:Nat) (want_1:Int) (pieces:Int) (rest:List aj0) (got:List aj0) (first_3:Int) (longest_1:Int) (i:Int):Option ((Int×Int×Int) ⊕ ((Int×Int))) :=
 gd ((0≤i∧i < (rest.length:Int))∧(Int.toNat i) < rest.length∧(0≤longest_1∧longest_1 < (rest.length:Int))∧(Int.toNat longest_1) < rest.length) <|
 bif (decide (((gt rest (Int.toNat i)).Len) ≥ ((gt rest (Int.toNat longest_1)).Len))) then
  bqu n want_1 pieces rest got first_3 i i
 else
  bqu n want_1 pieces rest got first_3 longest_1 i
abbrev dji (want_1:Int) (pieces:Int) (rest:List aj0) (got:List aj0) (first_1:Int) (longest_1:Int) (i:Int):S:=stB [(1,.c (.int .i64) (.int want_1)),(2,.c (.int .i64) (.int pieces)),(9,.own 9009 [.int .i64,.int .i64] 0 rest.length),(10,.own 9010 [.int .i64,.int .i64] 0 got.length),(11,.c (.int .i64) (.int first_1)),(12,.c (.int .i64) (.int longest_1)),(13,.c (.int .i64) (.int i))] [(9009,.row 80 (List.map aj1 rest)),(9010,.row 80 (List.map aj1 got))]
def ayl (n:Nat) (want_1:Int) (pieces:Int) (rest:List aj0) (got:List aj0) (first_1:Int) (longest_1:Int) (i:Int):Option ((Int×Int×Int) ⊕ ((Int×Int))) :=
 bif (decide (i ≥ 0)) then
  gd ((0≤i∧i < (rest.length:Int))∧(Int.toNat i) < rest.length) <|
  bif (decide (((gt rest (Int.toNat i)).Len) ≥ want_1)) then
   bqe n want_1 pieces rest got i longest_1 i
  else
   bqe n want_1 pieces rest got first_1 longest_1 i
 else
  some (.inr (first_1,longest_1))
abbrev dw8 (pieces:Int) (want_1:Int) (rest:List aj0) (got:List aj0):S:=stB [(1,.c (.int .i64) (.int want_1)),(2,.c (.int .i64) (.int pieces)),(9,.own 9003 [.int .i64,.int .i64] 0 rest.length),(10,.own 9004 [.int .i64,.int .i64] 0 got.length)] [(9003,.row 80 (List.map aj1 rest)),(9004,.row 80 (List.map aj1 got))]
def ak7 (n:Nat) (pieces:Int) (want_1:Int) (rest:List aj0) (got:List aj0):Option ((Int×(List aj0)×(List aj0)) ⊕ ((((List aj0)×(List aj0)×Int) ⊕ (Unit)))) :=
 bif (if (decide (((got.length:Nat):Int) < pieces))=true then (decide (((rest.length:Nat):Int) > 0)) else false) then
  (ajk (fun (x:Int×Int×Int)=>ayl n want_1 pieces rest got x.1 x.2.1 x.2.2) n ((-1),0,(jd .i64 (((rest.length:Nat):Int) - 1)))).bind fun y41 =>
  ayf n want_1 pieces rest got y41.1 y41.2
 else
  some (.inr (.inr ()))
def bwl (n:Nat) (free:List aj0) (want:Int) (pieces:Int):Option ((List aj0)×(List aj0)×Int) :=
 (bky n free 512).bind fun r1 =>
 bif (if (if (!r1)=true then true else (decide (want < 1)))=true then true else (decide (pieces < 1))) then
  some ([],[],1)
 else
  gd (free.length≤2147483648) <|
  (ajk (fun (x:Int×(List aj0)×(List aj0))=>ak7 n pieces x.1 x.2.1 x.2.2) n (want,free,[])).bind fun y10 =>
  match y10 with
  | .inl vv =>
   some (vv.1,vv.2.1,vv.2.2)
  | .inr vv =>
   cqk n
def djc (n:Nat):Go.AE.Fn:=mkFn (A:=(List aj0)×Int×Int) (R:=(List aj0)×(List aj0)×Int) 132 [(false,[.slice 80]),(false,[.int .i64]),(false,[.int .i64])] false (fun xs=>(((cg (xs.getD 0 []) 0).toSl.map ajl),(cg (xs.getD 1 []) 0).toInt,(cg (xs.getD 2 []) 0).toInt)) (fun a=>[[.slice (List.map aj1 a.1)],[.int a.2.1],[.int a.2.2]]) (fun a=>bwl n a.1 a.2.1 a.2.2) (fun r=>[.own 0 [.int .i64,.int .i64] 0 r.1.length,.own 1 [.int .i64,.int .i64] 0 r.2.1.length,.c (.int .i64) (.int r.2.2)]) (fun r=>[.row 80 (List.map aj1 r.1),.row 80 (List.map aj1 r.2.1)])
theorem ejw (n:Nat):aj2 je (djc n):=by
 have hΓ:=g1 (fqy n) (g1 (ejc n) (@g0 (aj2 je)))
 have qe:=aI @dzu.eq_1 @dj6.eq_1
 refine ajb (Tryz.f132.body.getD .skip) h00 Tryz.func132 rfl Tryz.call132 (by decide) (fun _ r=>⟨rfl,m1 ⟨80,_,_,rfl,ty80,rfl⟩ (m1 ⟨80,_,_,rfl,ty80,rfl⟩ m0)⟩) ?_
 rintro ⟨free,want,pieces⟩ r H
 try dsimp only at H
 unfold bwl at H
 simp only [Tryz.f132,jt]
 refine rA ?_
 refine jr fun K2 hK2=>?_
 obtain ⟨r1,hr1,H⟩:=bind_some H
 have q:=aI qe hr1
 refine rAq ?_
 refine cnd H (fun h4 H=>?_) (fun h4 H=>?_)
 ·refine rA ?_
  refine js ?_
  refine lf ?_
  obtain rfl:=Option.some.inj H
  exact rto [none,none]
 refine jq ?_
 refine hK2 _ ?_
 refine rA ?_
 obtain ⟨hg55,H⟩:=aj7 H
 refine rA ?_
 refine rA ?_
 refine j4 (fun (x:Unit)=>dqo) (fun x=>cqk n=some r) ?_ ?_
 ·refine jC ?_
  obtain ⟨y10,hy10,Ho10⟩:=bind_some H
  refine j3 _ (fun x=>dw8 pieces x.1 x.2.1 x.2.2) hy10 (wb [some 432,none]) ?_
  rintro ⟨want_1,rest,got⟩ z10 H
  try dsimp only at H
  unfold ak7 at H
  refine Sm.st (dw8.eq_1 ..) ?_
  refine jr fun K11 hK11=>?_
  refine rA ?_
  refine cnd H (fun h13 H=>?_) (fun h13 H=>?_)
  ·refine jq ?_
   refine hK11 _ ?_
   refine jC ?_
   refine rA ?_
   refine j4 (fun (x:Int×Int)=>dw4 want_1 pieces rest got x.1 x.2) (fun x=>ayf n want_1 pieces rest got x.1 x.2=some z10) ?_ ?_
   ·refine rA ?_
    refine jC ?_
    obtain ⟨y41,hy41,Ho41⟩:=bind_some H
    refine j3 _ (fun x=>dji want_1 pieces rest got x.1 x.2.1 x.2.2) hy41 (wb [some 9003,some 9004]) ?_
    rintro ⟨first_1,longest_1,i⟩ z41 H
    try dsimp only at H
    unfold ayl at H
    refine Sm.st (dji.eq_1 ..) ?_
    refine jr fun K42 hK42=>?_
    refine rA ?_
    refine cnd H (fun h44 H=>?_) (fun h44 H=>?_)
    ·refine jq ?_
     refine hK42 _ ?_
     refine j4 (fun (x:Int×Int)=>dqr want_1 pieces rest got x.1 x.2 i) (fun x=>bqu n want_1 pieces rest got x.1 x.2 i=some z41) ?_ ?_
     ·refine jC ?_
      refine j4 (fun (x:Int)=>dqg want_1 pieces rest got x longest_1 i) (fun x=>bqe n want_1 pieces rest got x longest_1 i=some z41) ?_ ?_
      ·obtain ⟨⟨hg53,hg54⟩,H⟩:=aj7 H
       refine rA ?_
       refine cnd H (fun h52 H=>?_) (fun h52 H=>?_)
       ·refine eA ?_
        refine lf ?_
        exact ⟨_,H,wb [some 9009,some 9010]⟩
       refine jq ?_
       refine lf ?_
       exact ⟨_,H,wb [some 9009,some 9010]⟩
      rintro first_3 H
      try dsimp only at H
      unfold bqe at H
      refine Sm.st (dqg.eq_1 ..) ?_
      obtain ⟨⟨hg47,hg48,hg49,hg50⟩,H⟩:=aj7 H
      refine rD ?_
      refine cnd H (fun h46 H=>?_) (fun h46 H=>?_)
      ·refine eA ?_
       refine lf ?_
       exact ⟨(first_3,i),H,wb [some 9013,some 9014]⟩
      refine jq ?_
      refine lf ?_
      exact ⟨(first_3,longest_1),H,wb [some 9013,some 9014]⟩
     rintro ⟨first_2,longest_2⟩ H
     try dsimp only at H
     unfold bqu at H
     refine Sm.st (dqr.eq_1 ..) ?_
     refine eA ?_
     refine lf ?_
     exact nx H (wb [some 9011,some 9012])
    refine Jb ?_
    refine lf ?_
    refine lx H fun hyy=>?_
    subst hyy
    have H:=Ho41
    try dsimp only at H
    refine lf ?_
    exact ⟨(first_1,longest_1),H,wb [some 9009,some 9010]⟩
   rintro ⟨first,longest⟩ H
   try dsimp only at H
   unfold ayf at H
   refine Sm.st (dw4.eq_1 ..) ?_
   refine jr fun K15 hK15=>?_
   refine rA ?_
   refine cnd H (fun h17 H=>?_) (fun h17 H=>?_)
   ·obtain ⟨⟨hg27,hg28,hg29⟩,H⟩:=aj7 H
    refine rA ?_
    obtain ⟨⟨hg21,hg22,hg23,hg24,hg25,hg26⟩,H⟩:=aj7 H
    refine rD ?_
    obtain ⟨r2,hr2,H⟩:=bind_some H
    have q:=aI qe hr2
    refine rAq ?_
    refine js ?_
    refine lf ?_
    refine lx H fun hyy=>?_
    subst hyy
    have H:=Ho10
    try dsimp only at H
    refine lf ?_
    obtain rfl:=Option.some.inj H
    exact rto [some 1200,some 1536]
   refine jq ?_
   refine hK15 _ ?_
   obtain ⟨⟨hg37,hg38,hg39⟩,H⟩:=aj7 H
   refine rA ?_
   obtain ⟨⟨hg35,hg36⟩,H⟩:=aj7 H
   refine rA ?_
   obtain ⟨⟨hg33,hg34⟩,H⟩:=aj7 H
   refine rA ?_
   obtain ⟨r3,hr3,H⟩:=bind_some H
   have q:=aI qe hr3
   refine eAq ?_
   refine lf ?_
   exact nx H (wb [some 1856,some 1648])
  refine Jb ?_
  refine lf ?_
  refine lx H fun hyy=>?_
  subst hyy
  have H:=Ho10
  try dsimp only at H
  refine lf ?_
  exact ⟨(),H,wb []⟩
 rintro ⟨⟩ H
 try dsimp only at H
 unfold cqk at H
 refine Sm.st (dqo.eq_1 ..) ?_
 refine rA ?_
 refine js ?_
 refine lf ?_
 obtain rfl:=Option.some.inj H
 exact rto [none,none]
abbrev cwc (v:aj5) (l:List aj6):S:=stB [(2,.box 9000 0),(4,.box 9001 0),(5,.own 9002 [.str,.int .i64,.int .i64,.bool,.bool,.int .i64,.int .i64,.int .i64,.int .i64,.slice 80,.int .i64] 0 l.length)] [(9000,.box [.c .str (.str v.Serial),.c (.int .i64) (.int v.Cyls),.c (.int .i64) (.int v.Heads),.c (.int .i64) (.int v.Size),.c (.slice 41) (.slice (List.map aj3 v.Sets))]),(9001,.box [.c .str (.str []),.c (.int .i64) (.int 0),.c (.int .i64) (.int 0),.c (.int .i64) (.int 0),.nilsl]),(9002,.row 41 (List.map aj3 l))]
def bje (n:Nat) (v:aj5) (l:List aj6):Option aj5 :=
 some (⟨v.Serial,v.Cyls,v.Heads,v.Size,l⟩:aj5)
abbrev cwe (name:List UInt8) (v:aj5) (l_2:List aj6) (k:Int):S:=stB [(1,.c .str (.str name)),(2,.box 9011 0),(4,.box 9012 0),(5,.own 9013 [.str,.int .i64,.int .i64,.bool,.bool,.int .i64,.int .i64,.int .i64,.int .i64,.slice 80,.int .i64] 0 l_2.length),(6,.c (.int .i64) (.int k))] [(9011,.box [.c .str (.str v.Serial),.c (.int .i64) (.int v.Cyls),.c (.int .i64) (.int v.Heads),.c (.int .i64) (.int v.Size),.c (.slice 41) (.slice (List.map aj3 v.Sets))]),(9012,.box [.c .str (.str []),.c (.int .i64) (.int 0),.c (.int .i64) (.int 0),.c (.int .i64) (.int 0),.nilsl]),(9013,.row 41 (List.map aj3 l_2))]
def aka (n:Nat) (name:List UInt8) (v:aj5) (l_2:List aj6) (k:Int):Option (((List aj6)×Int) ⊕ (((List aj6)))) :=
 some (.inl (l_2,(jd .i64 (k+1))))
abbrev cw8 (name:List UInt8) (v:aj5) (l_1:List aj6) (k:Int):S:=stB [(1,.c .str (.str name)),(2,.box 9008 0),(4,.box 9009 0),(5,.own 9010 [.str,.int .i64,.int .i64,.bool,.bool,.int .i64,.int .i64,.int .i64,.int .i64,.slice 80,.int .i64] 0 l_1.length),(6,.c (.int .i64) (.int k))] [(9008,.box [.c .str (.str v.Serial),.c (.int .i64) (.int v.Cyls),.c (.int .i64) (.int v.Heads),.c (.int .i64) (.int v.Size),.c (.slice 41) (.slice (List.map aj3 v.Sets))]),(9009,.box [.c .str (.str []),.c (.int .i64) (.int 0),.c (.int .i64) (.int 0),.c (.int .i64) (.int 0),.nilsl]),(9010,.row 41 (List.map aj3 l_1))]
def az0 (n:Nat) (name:List UInt8) (v:aj5) (l_1:List aj6) (k:Int):Option (((List aj6)×Int) ⊕ (((List aj6)))) :=
 bif (decide (k < (v.Sets.length:Int))) then
  gd ((0≤k∧k < (v.Sets.length:Int))) <|
  bif (((gt v.Sets (Int.toNat k)).Name) != name) then
   gd ((0≤k∧k < (v.Sets.length:Int))∧(l_1.length+1)≤2147483648) <|
   aka n name v (l_1 ++ [(gt v.Sets (Int.toNat k))]) k
  else
   aka n name v l_1 k
 else
  some (.inr l_1)
def ayg (n:Nat) (v:aj5) (name:List UInt8):Option aj5 :=
 (ajk (fun (x:(List aj6)×Int)=>az0 n name v x.1 x.2) n ([],0)).bind fun y6 =>
 bje n v y6
def cj9 (n:Nat):Go.AE.Fn:=mkFn (A:=aj5×(List UInt8)) (R:=aj5) 136 [(true,[.str,.int .i64,.int .i64,.int .i64,.slice 41]),(false,[.str])] true (fun xs=>((⟨(cg (xs.getD 0 []) 0).toStr,(cg (xs.getD 0 []) 1).toInt,(cg (xs.getD 0 []) 2).toInt,(cg (xs.getD 0 []) 3).toInt,((cg (xs.getD 0 []) 4).toSl.map aq3)⟩:aj5),(cg (xs.getD 1 []) 0).toStr)) (fun a=>[[.str a.1.Serial,.int a.1.Cyls,.int a.1.Heads,.int a.1.Size,.slice (List.map aj3 a.1.Sets)],[.str a.2]]) (fun a=>ayg n a.1 a.2) (fun r=>[.agg [.c .str (.str r.Serial),.c (.int .i64) (.int r.Cyls),.c (.int .i64) (.int r.Heads),.c (.int .i64) (.int r.Size),.own 0 [.str,.int .i64,.int .i64,.bool,.bool,.int .i64,.int .i64,.int .i64,.int .i64,.slice 80,.int .i64] 0 r.Sets.length]]) (fun r=>[.row 41 (List.map aj3 r.Sets)])
theorem cy1 (n:Nat):aj2 je (cj9 n):=by
 have hΓ:=@g0 (aj2 je)
 refine ajb (Tryz.f136.body.getD .skip) h00 Tryz.func136 rfl Tryz.call136 (by decide) (by intro h;cases h) ?_
 rintro ⟨v,name⟩ r H
 try dsimp only at H
 unfold ayg at H
 simp only [Tryz.f136,jt]
 refine rA ?_
 refine rA ?_
 refine j4 (fun (x:(List aj6))=>cwc v x) (fun x=>bje n v x=some r) ?_ ?_
 ·refine rA ?_
  refine jC ?_
  obtain ⟨y6,hy6,Ho6⟩:=bind_some H
  refine j3 _ (fun x=>cw8 name v x.1 x.2) hy6 (wb [some 32,some 64,none]) ?_
  rintro ⟨l_1,k⟩ z6 H
  try dsimp only at H
  unfold az0 at H
  refine Sm.st (cw8.eq_1 ..) ?_
  refine jr fun K7 hK7=>?_
  refine rA ?_
  refine cnd H (fun h9 H=>?_) (fun h9 H=>?_)
  ·refine jq ?_
   refine hK7 _ ?_
   refine j4 (fun (x:(List aj6))=>cwe name v x k) (fun x=>aka n name v x k=some z6) ?_ ?_
   ·refine jC ?_
    obtain ⟨hg14,H⟩:=aj7 H
    refine rA ?_
    refine cnd H (fun h11 H=>?_) (fun h11 H=>?_)
    ·obtain ⟨⟨hg12,hg13⟩,H⟩:=aj7 H
     refine eA ?_
     refine lf ?_
     exact ⟨_,H,wb [some 9008,some 9009,some 464]⟩
    refine jq ?_
    refine lf ?_
    exact ⟨_,H,wb [some 9008,some 9009,some 9010]⟩
   rintro l_2 H
   try dsimp only at H
   unfold aka at H
   refine Sm.st (cwe.eq_1 ..) ?_
   refine eA ?_
   refine lf ?_
   exact nx H (wb [some 9011,some 9012,some 9013])
  refine Jb ?_
  refine lf ?_
  refine lx H fun hyy=>?_
  subst hyy
  have H:=Ho6
  try dsimp only at H
  refine lf ?_
  exact ⟨_,H,wb [some 9008,some 9009,some 9010]⟩
 rintro l H
 try dsimp only at H
 unfold bje at H
 refine Sm.st (cwc.eq_1 ..) ?_
 refine rA ?_
 refine rA ?_
 refine js ?_
 refine lf ?_
 obtain rfl:=Option.some.inj H
 exact rto [some 9002]
abbrev dqq (w:List UInt8) (w_1:Int) (w_2:Int) (w_3:Int) (w_4:List aj6) (l_1:List aj6):S:=stB [(6,.box 9005 0),(7,.box 9006 0),(8,.own 9008 [.str,.int .i64,.int .i64,.bool,.bool,.int .i64,.int .i64,.int .i64,.int .i64,.slice 80,.int .i64] 0 l_1.length)] [(9005,.box [.c .str (.str []),.c (.int .i64) (.int 0),.c (.int .i64) (.int 0),.c (.int .i64) (.int 0),.nilsl]),(9006,.box [.c .str (.str w),.c (.int .i64) (.int w_1),.c (.int .i64) (.int w_2),.c (.int .i64) (.int w_3),.own 9007 [.str,.int .i64,.int .i64,.bool,.bool,.int .i64,.int .i64,.int .i64,.int .i64,.slice 80,.int .i64] 0 w_4.length]),(9007,.row 41 (List.map aj3 w_4)),(9008,.row 41 (List.map aj3 l_1))]
def bkc (n:Nat) (w:List UInt8) (w_1:Int) (w_2:Int) (w_3:Int) (w_4:List aj6) (l_1:List aj6):Option aj5 :=
 some (⟨w,w_1,w_2,w_3,l_1⟩:aj5)
abbrev dq4 (d:aj6) (w:List UInt8) (w_1:Int) (w_2:Int) (w_3:Int) (w_4:List aj6) (l:List aj6) (done:Bool):S:=stB [(5,.box 9000 0),(6,.box 9001 0),(7,.box 9002 0),(8,.own 9004 [.str,.int .i64,.int .i64,.bool,.bool,.int .i64,.int .i64,.int .i64,.int .i64,.slice 80,.int .i64] 0 l.length),(9,.c .bool (.bool done))] [(9000,.box [.c .str (.str d.Name),.c (.int .i64) (.int d.Dcb.Org),.c (.int .i64) (.int d.Dcb.Format),.c .bool (.bool d.Dcb.Blocked),.c .bool (.bool d.Dcb.Asa),.c (.int .i64) (.int d.Dcb.Lrecl),.c (.int .i64) (.int d.Dcb.Blksize),.c (.int .i64) (.int d.Dcb.KeyLen),.c (.int .i64) (.int d.Dcb.KeyPos),.c (.slice 80) (.slice (List.map aj1 d.Extents)),.c (.int .i64) (.int d.Used)]),(9001,.box [.c .str (.str []),.c (.int .i64) (.int 0),.c (.int .i64) (.int 0),.c (.int .i64) (.int 0),.nilsl]),(9002,.box [.c .str (.str w),.c (.int .i64) (.int w_1),.c (.int .i64) (.int w_2),.c (.int .i64) (.int w_3),.own 9003 [.str,.int .i64,.int .i64,.bool,.bool,.int .i64,.int .i64,.int .i64,.int .i64,.slice 80,.int .i64] 0 w_4.length]),(9003,.row 41 (List.map aj3 w_4)),(9004,.row 41 (List.map aj3 l))]
def bka (n:Nat) (d:aj6) (w:List UInt8) (w_1:Int) (w_2:Int) (w_3:Int) (w_4:List aj6) (l:List aj6) (done:Bool):Option aj5 :=
 bif (!done) then
  gd ((l.length+1)≤2147483648) <|
  bkc n w w_1 w_2 w_3 w_4 (l ++ [d])
 else
  bkc n w w_1 w_2 w_3 w_4 l
abbrev dqd (d:aj6) (w_5:List UInt8) (w_6:Int) (w_7:Int) (w_8:Int) (w_9:List aj6) (l_3:List aj6) (done_2:Bool) (k:Int):S:=stB [(5,.box 9023 0),(6,.box 9024 0),(7,.box 9025 0),(8,.own 9027 [.str,.int .i64,.int .i64,.bool,.bool,.int .i64,.int .i64,.int .i64,.int .i64,.slice 80,.int .i64] 0 l_3.length),(9,.c .bool (.bool done_2)),(10,.c (.int .i64) (.int k))] [(9023,.box [.c .str (.str d.Name),.c (.int .i64) (.int d.Dcb.Org),.c (.int .i64) (.int d.Dcb.Format),.c .bool (.bool d.Dcb.Blocked),.c .bool (.bool d.Dcb.Asa),.c (.int .i64) (.int d.Dcb.Lrecl),.c (.int .i64) (.int d.Dcb.Blksize),.c (.int .i64) (.int d.Dcb.KeyLen),.c (.int .i64) (.int d.Dcb.KeyPos),.c (.slice 80) (.slice (List.map aj1 d.Extents)),.c (.int .i64) (.int d.Used)]),(9024,.box [.c .str (.str []),.c (.int .i64) (.int 0),.c (.int .i64) (.int 0),.c (.int .i64) (.int 0),.nilsl]),(9025,.box [.c .str (.str w_5),.c (.int .i64) (.int w_6),.c (.int .i64) (.int w_7),.c (.int .i64) (.int w_8),.own 9026 [.str,.int .i64,.int .i64,.bool,.bool,.int .i64,.int .i64,.int .i64,.int .i64,.slice 80,.int .i64] 0 w_9.length]),(9026,.row 41 (List.map aj3 w_9)),(9027,.row 41 (List.map aj3 l_3))]
def ays (n:Nat) (d:aj6) (w_5:List UInt8) (w_6:Int) (w_7:Int) (w_8:Int) (w_9:List aj6) (l_3:List aj6) (done_2:Bool) (k:Int):Option (((List aj6)×Bool×Int) ⊕ (((List aj6)×Bool))) :=
 some (.inl (l_3,done_2,(jd .i64 (k+1))))
abbrev djl (d:aj6) (w_5:List UInt8) (w_6:Int) (w_7:Int) (w_8:Int) (w_9:List aj6) (l_4:List aj6) (done_3:Bool) (k:Int):S:=stB [(5,.box 9028 0),(6,.box 9029 0),(7,.box 9030 0),(8,.own 9032 [.str,.int .i64,.int .i64,.bool,.bool,.int .i64,.int .i64,.int .i64,.int .i64,.slice 80,.int .i64] 0 l_4.length),(9,.c .bool (.bool done_3)),(10,.c (.int .i64) (.int k))] [(9028,.box [.c .str (.str d.Name),.c (.int .i64) (.int d.Dcb.Org),.c (.int .i64) (.int d.Dcb.Format),.c .bool (.bool d.Dcb.Blocked),.c .bool (.bool d.Dcb.Asa),.c (.int .i64) (.int d.Dcb.Lrecl),.c (.int .i64) (.int d.Dcb.Blksize),.c (.int .i64) (.int d.Dcb.KeyLen),.c (.int .i64) (.int d.Dcb.KeyPos),.c (.slice 80) (.slice (List.map aj1 d.Extents)),.c (.int .i64) (.int d.Used)]),(9029,.box [.c .str (.str []),.c (.int .i64) (.int 0),.c (.int .i64) (.int 0),.c (.int .i64) (.int 0),.nilsl]),(9030,.box [.c .str (.str w_5),.c (.int .i64) (.int w_6),.c (.int .i64) (.int w_7),.c (.int .i64) (.int w_8),.own 9031 [.str,.int .i64,.int .i64,.bool,.bool,.int .i64,.int .i64,.int .i64,.int .i64,.slice 80,.int .i64] 0 w_9.length]),(9031,.row 41 (List.map aj3 w_9)),(9032,.row 41 (List.map aj3 l_4))]
def ak2 (n:Nat) (d:aj6) (w_5:List UInt8) (w_6:Int) (w_7:Int) (w_8:Int) (w_9:List aj6) (l_4:List aj6) (done_3:Bool) (k:Int):Option (((List aj6)×Bool×Int) ⊕ (((List aj6)×Bool))) :=
 gd ((0≤k∧k < (w_9.length:Int))∧(Int.toNat k) < w_9.length∧(l_4.length+1)≤2147483648) <|
 ays n d w_5 w_6 w_7 w_8 w_9 (l_4 ++ [(gt w_9 (Int.toNat k))]) done_3 k
abbrev dwr (d:aj6) (w_5:List UInt8) (w_6:Int) (w_7:Int) (w_8:Int) (w_9:List aj6) (l_2:List aj6) (done_1:Bool) (k:Int):S:=stB [(5,.box 9018 0),(6,.box 9019 0),(7,.box 9020 0),(8,.own 9022 [.str,.int .i64,.int .i64,.bool,.bool,.int .i64,.int .i64,.int .i64,.int .i64,.slice 80,.int .i64] 0 l_2.length),(9,.c .bool (.bool done_1)),(10,.c (.int .i64) (.int k))] [(9018,.box [.c .str (.str d.Name),.c (.int .i64) (.int d.Dcb.Org),.c (.int .i64) (.int d.Dcb.Format),.c .bool (.bool d.Dcb.Blocked),.c .bool (.bool d.Dcb.Asa),.c (.int .i64) (.int d.Dcb.Lrecl),.c (.int .i64) (.int d.Dcb.Blksize),.c (.int .i64) (.int d.Dcb.KeyLen),.c (.int .i64) (.int d.Dcb.KeyPos),.c (.slice 80) (.slice (List.map aj1 d.Extents)),.c (.int .i64) (.int d.Used)]),(9019,.box [.c .str (.str []),.c (.int .i64) (.int 0),.c (.int .i64) (.int 0),.c (.int .i64) (.int 0),.nilsl]),(9020,.box [.c .str (.str w_5),.c (.int .i64) (.int w_6),.c (.int .i64) (.int w_7),.c (.int .i64) (.int w_8),.own 9021 [.str,.int .i64,.int .i64,.bool,.bool,.int .i64,.int .i64,.int .i64,.int .i64,.slice 80,.int .i64] 0 w_9.length]),(9021,.row 41 (List.map aj3 w_9)),(9022,.row 41 (List.map aj3 l_2))]
def aw1 (n:Nat) (d:aj6) (w_5:List UInt8) (w_6:Int) (w_7:Int) (w_8:Int) (w_9:List aj6) (l_2:List aj6) (done_1:Bool) (k:Int):Option (((List aj6)×Bool×Int) ⊕ (((List aj6)×Bool))) :=
 bif (decide (k < ((w_9.length:Nat):Int))) then
  gd (((!done_1)=true→(0≤k∧k < (w_9.length:Int)))∧((!done_1)=true→(Int.toNat k) < w_9.length)) <|
  bif (if (!done_1)=true then (Op.bytesLess d.Name ((gt w_9 (Int.toNat k)).Name)) else false) then
   gd ((l_2.length+1)≤2147483648) <|
   ak2 n d w_5 w_6 w_7 w_8 w_9 (l_2 ++ [d]) true k
  else
   ak2 n d w_5 w_6 w_7 w_8 w_9 l_2 done_1 k
 else
  some (.inr (l_2,done_1))
def akj (n:Nat) (v:aj5) (name:List UInt8) (d:aj6):Option aj5 :=
 (ayg n v name).bind fun r1 =>
 (ajk (fun (x:(List aj6)×Bool×Int)=>aw1 n d r1.Serial r1.Cyls r1.Heads r1.Size r1.Sets x.1 x.2.1 x.2.2) n ([],false,0)).bind fun y11 =>
 bka n d r1.Serial r1.Cyls r1.Heads r1.Size r1.Sets y11.1 y11.2
def bwj (n:Nat):Go.AE.Fn:=mkFn (A:=aj5×(List UInt8)×aj6) (R:=aj5) 133 [(true,[.str,.int .i64,.int .i64,.int .i64,.slice 41]),(false,[.str]),(true,[.str,.int .i64,.int .i64,.bool,.bool,.int .i64,.int .i64,.int .i64,.int .i64,.slice 80,.int .i64])] true (fun xs=>((⟨(cg (xs.getD 0 []) 0).toStr,(cg (xs.getD 0 []) 1).toInt,(cg (xs.getD 0 []) 2).toInt,(cg (xs.getD 0 []) 3).toInt,((cg (xs.getD 0 []) 4).toSl.map aq3)⟩:aj5),(cg (xs.getD 1 []) 0).toStr,(⟨(cg (xs.getD 2 []) 0).toStr,(⟨(cg (xs.getD 2 []) 1).toInt,(cg (xs.getD 2 []) 2).toInt,(cg (xs.getD 2 []) 3).toBool,(cg (xs.getD 2 []) 4).toBool,(cg (xs.getD 2 []) 5).toInt,(cg (xs.getD 2 []) 6).toInt,(cg (xs.getD 2 []) 7).toInt,(cg (xs.getD 2 []) 8).toInt⟩:TDcb),((cg (xs.getD 2 []) 9).toSl.map ajl),(cg (xs.getD 2 []) 10).toInt⟩:aj6))) (fun a=>[[.str a.1.Serial,.int a.1.Cyls,.int a.1.Heads,.int a.1.Size,.slice (List.map aj3 a.1.Sets)],[.str a.2.1],[.str a.2.2.Name,.int a.2.2.Dcb.Org,.int a.2.2.Dcb.Format,.bool a.2.2.Dcb.Blocked,.bool a.2.2.Dcb.Asa,.int a.2.2.Dcb.Lrecl,.int a.2.2.Dcb.Blksize,.int a.2.2.Dcb.KeyLen,.int a.2.2.Dcb.KeyPos,.slice (List.map aj1 a.2.2.Extents),.int a.2.2.Used]]) (fun a=>akj n a.1 a.2.1 a.2.2) (fun r=>[.agg [.c .str (.str r.Serial),.c (.int .i64) (.int r.Cyls),.c (.int .i64) (.int r.Heads),.c (.int .i64) (.int r.Size),.own 0 [.str,.int .i64,.int .i64,.bool,.bool,.int .i64,.int .i64,.int .i64,.int .i64,.slice 80,.int .i64] 0 r.Sets.length]]) (fun r=>[.row 41 (List.map aj3 r.Sets)])
theorem bkp (n:Nat):aj2 je (bwj n):=by
 have hΓ:=g1 (cy1 n) (@g0 (aj2 je))
 refine ajb (Tryz.f133.body.getD .skip) h00 Tryz.func133 rfl Tryz.call133 (by decide) (by intro h;cases h) ?_
 rintro ⟨v,name,d⟩ r H
 try dsimp only at H
 unfold akj at H
 simp only [Tryz.f133,jt]
 refine rA ?_
 obtain ⟨r1,hr1,H⟩:=bind_some H
 have q:=aI @cj9.eq_1 hr1
 refine rAq ?_
 refine rA ?_
 refine rA ?_
 refine j4 (fun (x:(List UInt8)×Int×Int×Int×(List aj6)×(List aj6)×Bool)=>dq4 d x.1 x.2.1 x.2.2.1 x.2.2.2.1 x.2.2.2.2.1 x.2.2.2.2.2.1 x.2.2.2.2.2.2) (fun x=>bka n d x.1 x.2.1 x.2.2.1 x.2.2.2.1 x.2.2.2.2.1 x.2.2.2.2.2.1 x.2.2.2.2.2.2=some r) ?_ ?_
 ·refine rA ?_
  refine jC ?_
  obtain ⟨y11,hy11,Ho11⟩:=bind_some H
  refine j3 _ (fun x=>dwr d r1.Serial r1.Cyls r1.Heads r1.Size r1.Sets x.1 x.2.1 x.2.2) hy11 (wb [some 80,some 96,some 112,some 208,none]) ?_
  rintro ⟨l_2,done_1,k⟩ z11 H
  try dsimp only at H
  unfold aw1 at H
  refine Sm.st (dwr.eq_1 ..) ?_
  refine jr fun K12 hK12=>?_
  refine rA ?_
  refine cnd H (fun h14 H=>?_) (fun h14 H=>?_)
  ·refine jq ?_
   refine hK12 _ ?_
   refine j4 (fun (x:(List aj6)×Bool)=>dqd d r1.Serial r1.Cyls r1.Heads r1.Size r1.Sets x.1 x.2 k) (fun x=>ays n d r1.Serial r1.Cyls r1.Heads r1.Size r1.Sets x.1 x.2 k=some z11) ?_ ?_
   ·refine jC ?_
    refine j4 (fun (x:(List aj6)×Bool)=>djl d r1.Serial r1.Cyls r1.Heads r1.Size r1.Sets x.1 x.2 k) (fun x=>ak2 n d r1.Serial r1.Cyls r1.Heads r1.Size r1.Sets x.1 x.2 k=some z11) ?_ ?_
    ·obtain ⟨⟨hg22,hg23⟩,H⟩:=aj7 H
     refine rD ?_
     refine cnd H (fun h19 H=>?_) (fun h19 H=>?_)
     ·obtain ⟨hg21,H⟩:=aj7 H
      refine rA ?_
      refine eA ?_
      refine lf ?_
      exact ⟨((l_2 ++ [d]),true),H,wb [some 9018,some 9019,some 9020,some 9021,some 592]⟩
     refine jq ?_
     refine lf ?_
     exact ⟨(l_2,done_1),H,wb [some 9018,some 9019,some 9020,some 9021,some 9022]⟩
    rintro ⟨l_4,done_3⟩ H
    try dsimp only at H
    unfold ak2 at H
    refine Sm.st (djl.eq_1 ..) ?_
    obtain ⟨⟨hg15,hg16,hg17⟩,H⟩:=aj7 H
    refine eA ?_
    refine lf ?_
    exact ⟨((l_4 ++ [(gt r1.Sets (Int.toNat k))]),done_3),H,wb [some 9028,some 9029,some 9030,some 9031,some 720]⟩
   rintro ⟨l_3,done_2⟩ H
   try dsimp only at H
   unfold ays at H
   refine Sm.st (dqd.eq_1 ..) ?_
   refine eA ?_
   refine lf ?_
   exact nx H (wb [some 9023,some 9024,some 9025,some 9026,some 9027])
  refine Jb ?_
  refine lf ?_
  refine lx H fun hyy=>?_
  subst hyy
  have H:=Ho11
  try dsimp only at H
  refine lf ?_
  exact ⟨(r1.Serial,r1.Cyls,r1.Heads,r1.Size,r1.Sets,l_2,done_1),H,wb [some 9018,some 9019,some 9020,some 9021,some 9022]⟩
 rintro ⟨w,w_1,w_2,w_3,w_4,l,done⟩ H
 try dsimp only at H
 unfold bka at H
 refine Sm.st (dq4.eq_1 ..) ?_
 refine j4 (fun (x:(List aj6))=>dqq w w_1 w_2 w_3 w_4 x) (fun x=>bkc n w w_1 w_2 w_3 w_4 x=some r) ?_ ?_
 ·refine rA ?_
  refine cnd H (fun h8 H=>?_) (fun h8 H=>?_)
  ·obtain ⟨hg9,H⟩:=aj7 H
   refine eA ?_
   refine lf ?_
   exact ⟨_,H,wb [some 9001,some 9002,some 9003,some 816]⟩
  refine jq ?_
  refine lf ?_
  exact ⟨_,H,wb [some 9001,some 9002,some 9003,some 9004]⟩
 rintro l_1 H
 try dsimp only at H
 unfold bkc at H
 refine Sm.st (dqq.eq_1 ..) ?_
 refine rA ?_
 refine rA ?_
 refine js ?_
 refine lf ?_
 obtain rfl:=Option.some.inj H
 exact rto [some 9008]
def bzg (n:Nat) (v:aj5) (d:aj6) (tracks:Int):Option (aj5×Int) :=
 (bjq n v).bind fun r1 =>
 bif (!r1) then
  some ((⟨[],0,0,0,[]⟩:aj5),5)
 else
  (bwr n d.Name).bind fun r2 =>
  gd (((!(!r2))=true→(ajz n d.Dcb).isSome=true)) <|
  bif (if (if (!r2)=true then true else (!((ajz n d.Dcb).getD default)))=true then true else (decide (tracks < 1))) then
   some ((⟨[],0,0,0,[]⟩:aj5),1)
  else
   (awb n v d.Name).bind fun r3 =>
   bif (decide (r3 ≥ 0)) then
    some ((⟨[],0,0,0,[]⟩:aj5),4)
   else
    bif (if (decide ((v.Sets.length:Int) ≥ 64))=true then true else (decide ((v.Sets.length:Int) ≥ (jd .i64 (14 * v.Size))))) then
     some ((⟨[],0,0,0,[]⟩:aj5),7)
    else
     (bkm n v).bind fun r4 =>
     (bwl n r4 tracks 8).bind fun r5 =>
     bif (r5.2.2 != 0) then
      some ((⟨[],0,0,0,[]⟩:aj5),r5.2.2)
     else
      (akj n v [] (⟨d.Name,d.Dcb,r5.1,0⟩:aj6)).bind fun r6 =>
      some (r6,0)
def dwg (n:Nat):Go.AE.Fn:=mkFn (A:=aj5×aj6×Int) (R:=aj5×Int) 78 [(true,[.str,.int .i64,.int .i64,.int .i64,.slice 41]),(true,[.str,.int .i64,.int .i64,.bool,.bool,.int .i64,.int .i64,.int .i64,.int .i64,.slice 80,.int .i64]),(false,[.int .i64])] true (fun xs=>((⟨(cg (xs.getD 0 []) 0).toStr,(cg (xs.getD 0 []) 1).toInt,(cg (xs.getD 0 []) 2).toInt,(cg (xs.getD 0 []) 3).toInt,((cg (xs.getD 0 []) 4).toSl.map aq3)⟩:aj5),(⟨(cg (xs.getD 1 []) 0).toStr,(⟨(cg (xs.getD 1 []) 1).toInt,(cg (xs.getD 1 []) 2).toInt,(cg (xs.getD 1 []) 3).toBool,(cg (xs.getD 1 []) 4).toBool,(cg (xs.getD 1 []) 5).toInt,(cg (xs.getD 1 []) 6).toInt,(cg (xs.getD 1 []) 7).toInt,(cg (xs.getD 1 []) 8).toInt⟩:TDcb),((cg (xs.getD 1 []) 9).toSl.map ajl),(cg (xs.getD 1 []) 10).toInt⟩:aj6),(cg (xs.getD 2 []) 0).toInt)) (fun a=>[[.str a.1.Serial,.int a.1.Cyls,.int a.1.Heads,.int a.1.Size,.slice (List.map aj3 a.1.Sets)],[.str a.2.1.Name,.int a.2.1.Dcb.Org,.int a.2.1.Dcb.Format,.bool a.2.1.Dcb.Blocked,.bool a.2.1.Dcb.Asa,.int a.2.1.Dcb.Lrecl,.int a.2.1.Dcb.Blksize,.int a.2.1.Dcb.KeyLen,.int a.2.1.Dcb.KeyPos,.slice (List.map aj1 a.2.1.Extents),.int a.2.1.Used],[.int a.2.2]]) (fun a=>bzg n a.1 a.2.1 a.2.2) (fun r=>[.agg [.c .str (.str r.1.Serial),.c (.int .i64) (.int r.1.Cyls),.c (.int .i64) (.int r.1.Heads),.c (.int .i64) (.int r.1.Size),.own 0 [.str,.int .i64,.int .i64,.bool,.bool,.int .i64,.int .i64,.int .i64,.int .i64,.slice 80,.int .i64] 0 r.1.Sets.length],.c (.int .i64) (.int r.2)]) (fun r=>[.row 41 (List.map aj3 r.1.Sets)])
theorem eki (n:Nat):aj2 je (dwg n):=by
 have hΓ:=g1 (cwy n) (g1 (djf n) (g1 (bzy n) (g1 (bqa n) (g1 (eja n) (g1 (ejw n) (g1 (bkp n) (@g0 (aj2 je))))))))
 have qe:=aI @byu.eq_1 (aI @cqc.eq_1 (aI @bjg.eq_1 (aI @aks.eq_1 (aI @cyx.eq_1 (aI @djc.eq_1 @bwj.eq_1)))))
 refine ajb (Tryz.f78.body.getD .skip) h00 Tryz.func78 rfl Tryz.call78 (by decide) (by intro h;cases h) ?_
 rintro ⟨v,d,tracks⟩ r H
 try dsimp only at H
 unfold bzg at H
 simp only [Tryz.f78,jt]
 refine rA ?_
 refine jr fun K2 hK2=>?_
 obtain ⟨r1,hr1,H⟩:=bind_some H
 have q:=aI qe hr1
 refine rAq ?_
 refine cnd H (fun h4 H=>?_) (fun h4 H=>?_)
 ·refine rA ?_
  refine js ?_
  refine lf ?_
  obtain rfl:=Option.some.inj H
  exact rto [none]
 refine jq ?_
 refine hK2 _ ?_
 refine jr fun K6 hK6=>?_
 obtain ⟨r2,hr2,H⟩:=bind_some H
 obtain ⟨hg24,H⟩:=aj7 H
 have q:=aI qe hr2
 refine rAq ?_
 refine cnd H (fun h8 H=>?_) (fun h8 H=>?_)
 ·refine rA ?_
  refine js ?_
  refine lf ?_
  obtain rfl:=Option.some.inj H
  exact rto [none]
 refine jq ?_
 refine hK6 _ ?_
 refine jr fun K10 hK10=>?_
 obtain ⟨r3,hr3,H⟩:=bind_some H
 have q:=aI qe hr3
 refine rAq ?_
 refine cnd H (fun h12 H=>?_) (fun h12 H=>?_)
 ·refine rA ?_
  refine js ?_
  refine lf ?_
  obtain rfl:=Option.some.inj H
  exact rto [none]
 refine jq ?_
 refine hK10 _ ?_
 refine jr fun K14 hK14=>?_
 refine rA ?_
 refine cnd H (fun h16 H=>?_) (fun h16 H=>?_)
 ·refine rA ?_
  refine js ?_
  refine lf ?_
  obtain rfl:=Option.some.inj H
  exact rto [none]
 refine jq ?_
 refine hK14 _ ?_
 obtain ⟨r4,hr4,H⟩:=bind_some H
 obtain ⟨r5,hr5,H⟩:=bind_some H
 have q:=aI qe (aI hr4 hr5)
 refine rAq ?_
 refine jr fun K19 hK19=>?_
 refine rA ?_
 refine cnd H (fun h21 H=>?_) (fun h21 H=>?_)
 ·refine rA ?_
  refine js ?_
  refine lf ?_
  obtain rfl:=Option.some.inj H
  exact rto [none]
 refine jq ?_
 refine hK19 _ ?_
 obtain ⟨r6,hr6,H⟩:=bind_some H
 have q:=aI qe hr6
 refine rAq ?_
 refine js ?_
 refine lf ?_
 obtain rfl:=Option.some.inj H
 exact rto [some 1104]
def ak3 (n:Nat) (v:aj5) (name:List UInt8):Option Int :=
 (bjq n v).bind fun r1 =>
 bif (!r1) then
  some 5
 else
  (awb n v name).bind fun r2 =>
  bif (decide (r2 < 0)) then
   some 3
  else
   some 0
def bq2 (n:Nat):Go.AE.Fn:=mkFn (A:=aj5×(List UInt8)) (R:=Int) 134 [(true,[.str,.int .i64,.int .i64,.int .i64,.slice 41]),(false,[.str])] false (fun xs=>((⟨(cg (xs.getD 0 []) 0).toStr,(cg (xs.getD 0 []) 1).toInt,(cg (xs.getD 0 []) 2).toInt,(cg (xs.getD 0 []) 3).toInt,((cg (xs.getD 0 []) 4).toSl.map aq3)⟩:aj5),(cg (xs.getD 1 []) 0).toStr)) (fun a=>[[.str a.1.Serial,.int a.1.Cyls,.int a.1.Heads,.int a.1.Size,.slice (List.map aj3 a.1.Sets)],[.str a.2]]) (fun a=>ak3 n a.1 a.2) (fun r=>[.c (.int .i64) (.int r)]) (fun r=>[])
theorem bzn (n:Nat):aj2 je (bq2 n):=by
 have hΓ:=g1 (cwy n) (g1 (bqa n) (@g0 (aj2 je)))
 have qe:=aI @byu.eq_1 @aks.eq_1
 refine ajb (Tryz.f134.body.getD .skip) h00 Tryz.func134 rfl Tryz.call134 (by decide) (by intro _ r;exact ⟨rfl,by simp⟩) ?_
 rintro ⟨v,name⟩ r H
 try dsimp only at H
 unfold ak3 at H
 simp only [Tryz.f134,jt]
 refine rA ?_
 refine jr fun K2 hK2=>?_
 obtain ⟨r1,hr1,H⟩:=bind_some H
 have q:=aI qe hr1
 refine rAq ?_
 refine cnd H (fun h4 H=>?_) (fun h4 H=>?_)
 ·refine rA ?_
  refine js ?_
  refine lf ?_
  obtain rfl:=Option.some.inj H
  exact rt []
 refine jq ?_
 refine hK2 _ ?_
 refine jr fun K6 hK6=>?_
 obtain ⟨r2,hr2,H⟩:=bind_some H
 have q:=aI qe hr2
 refine rAq ?_
 refine cnd H (fun h8 H=>?_) (fun h8 H=>?_)
 ·refine rA ?_
  refine js ?_
  refine lf ?_
  obtain rfl:=Option.some.inj H
  exact rt []
 refine jq ?_
 refine hK6 _ ?_
 refine rA ?_
 refine js ?_
 refine lf ?_
 obtain rfl:=Option.some.inj H
 exact rt []
def bzs (n:Nat) (v:aj5) (name:List UInt8) (tracks:Int):Option (aj5×Int) :=
 (ak3 n v name).bind fun r1 =>
 bif (r1 != 0) then
  some ((⟨[],0,0,0,[]⟩:aj5),r1)
 else
  (awb n v name).bind fun r2 =>
  gd ((0≤r2∧r2 < (v.Sets.length:Int))) <|
  bif (decide (tracks < 1)) then
   some ((⟨[],0,0,0,[]⟩:aj5),1)
  else
   bif ((((gt v.Sets (Int.toNat r2)).Extents).length:Int) == 8) then
    some ((⟨[],0,0,0,[]⟩:aj5),200)
   else
    (bkm n v).bind fun r3 =>
    (bwl n r3 tracks (jd .i64 (8 - (((gt v.Sets (Int.toNat r2)).Extents).length:Int)))).bind fun r4 =>
    bif (r4.2.2 != 0) then
     some ((⟨[],0,0,0,[]⟩:aj5),r4.2.2)
    else
     gd (((gt v.Sets (Int.toNat r2)).Extents).length≤2147483648∧(((gt v.Sets (Int.toNat r2)).Extents).length+r4.1.length)≤2147483648) <|
     (akj n v name (⟨(gt v.Sets (Int.toNat r2)).Name,((gt v.Sets (Int.toNat r2)).Dcb),((gt v.Sets (Int.toNat r2)).Extents ++ r4.1),(gt v.Sets (Int.toNat r2)).Used⟩:aj6)).bind fun r5 =>
     some (r5,0)
def djq (n:Nat):Go.AE.Fn:=mkFn (A:=aj5×(List UInt8)×Int) (R:=aj5×Int) 79 [(true,[.str,.int .i64,.int .i64,.int .i64,.slice 41]),(false,[.str]),(false,[.int .i64])] true (fun xs=>((⟨(cg (xs.getD 0 []) 0).toStr,(cg (xs.getD 0 []) 1).toInt,(cg (xs.getD 0 []) 2).toInt,(cg (xs.getD 0 []) 3).toInt,((cg (xs.getD 0 []) 4).toSl.map aq3)⟩:aj5),(cg (xs.getD 1 []) 0).toStr,(cg (xs.getD 2 []) 0).toInt)) (fun a=>[[.str a.1.Serial,.int a.1.Cyls,.int a.1.Heads,.int a.1.Size,.slice (List.map aj3 a.1.Sets)],[.str a.2.1],[.int a.2.2]]) (fun a=>bzs n a.1 a.2.1 a.2.2) (fun r=>[.agg [.c .str (.str r.1.Serial),.c (.int .i64) (.int r.1.Cyls),.c (.int .i64) (.int r.1.Heads),.c (.int .i64) (.int r.1.Size),.own 0 [.str,.int .i64,.int .i64,.bool,.bool,.int .i64,.int .i64,.int .i64,.int .i64,.slice 80,.int .i64] 0 r.1.Sets.length],.c (.int .i64) (.int r.2)]) (fun r=>[.row 41 (List.map aj3 r.1.Sets)])
theorem eyd (n:Nat):aj2 je (djq n):=by
 have hΓ:=g1 (bzn n) (g1 (bqa n) (g1 (eja n) (g1 (ejw n) (g1 (bkp n) (@g0 (aj2 je))))))
 have qe:=aI @bq2.eq_1 (aI @aks.eq_1 (aI @cyx.eq_1 (aI @djc.eq_1 @bwj.eq_1)))
 refine ajb (Tryz.f79.body.getD .skip) h00 Tryz.func79 rfl Tryz.call79 (by decide) (by intro h;cases h) ?_
 rintro ⟨v,name,tracks⟩ r H
 try dsimp only at H
 unfold bzs at H
 simp only [Tryz.f79,jt]
 refine rA ?_
 obtain ⟨r1,hr1,H⟩:=bind_some H
 have q:=aI qe hr1
 refine rAq ?_
 refine jr fun K3 hK3=>?_
 refine rA ?_
 refine cnd H (fun h5 H=>?_) (fun h5 H=>?_)
 ·refine rA ?_
  refine js ?_
  refine lf ?_
  obtain rfl:=Option.some.inj H
  exact rto [none]
 refine jq ?_
 refine hK3 _ ?_
 obtain ⟨r2,hr2,H⟩:=bind_some H
 obtain ⟨hg8,H⟩:=aj7 H
 refine sQ [0,1,2,3,4,5,6,7,8] [(none,[48],[]),(none,[48],[]),(none,[48],[]),(none,[],[]),(none,[],[399,398,397,396,395,394,393,392,391,390,389,388,387,386,385,384]),(none,[],[]),(none,[],[]),(none,[],[144]),(none,[144],[144])] fun K7 hK7=>?_
 have q:=aI qe hr2
 iterate 9 refine oQq ?_
 refine ckg ?_
 refine hK7 _ ?_
 refine jr fun K9 hK9=>?_
 refine rA ?_
 refine cnd H (fun h11 H=>?_) (fun h11 H=>?_)
 ·refine rA ?_
  refine js ?_
  refine lf ?_
  obtain rfl:=Option.some.inj H
  exact rto [none]
 refine jq ?_
 refine hK9 _ ?_
 refine jr fun K13 hK13=>?_
 refine rA ?_
 refine cnd H (fun h15 H=>?_) (fun h15 H=>?_)
 ·refine rA ?_
  refine js ?_
  refine lf ?_
  obtain rfl:=Option.some.inj H
  exact rto [none]
 refine jq ?_
 refine hK13 _ ?_
 obtain ⟨r3,hr3,H⟩:=bind_some H
 obtain ⟨r4,hr4,H⟩:=bind_some H
 refine sQ [0,1,2,3,4,5,6,7,8,9,10,11,12,13,14] [(none,[48],[]),(none,[],[607,606,605,604,603,602,601,600,599,598,597,596,595,594,593,592]),(none,[],[]),(none,[144],[]),(none,[144],[]),(none,[],[]),(none,[],[]),(none,[592],[703,702,701,700,699,698,697,696,695,694,693,692,691,690,689,688,592]),(none,[],[]),(none,[],[]),(none,[],[]),(none,[],[]),(none,[],[]),(none,[],[]),(none,[],[])] fun K17 hK17=>?_
 have q:=aI qe (aI hr3 hr4)
 iterate 15 refine oQq ?_
 refine ckg ?_
 refine hK17 _ ?_
 refine jr fun K18 hK18=>?_
 refine rA ?_
 refine cnd H (fun h20 H=>?_) (fun h20 H=>?_)
 ·refine rA ?_
  refine js ?_
  refine lf ?_
  obtain rfl:=Option.some.inj H
  exact rto [none]
 refine jq ?_
 refine hK18 _ ?_
 obtain ⟨⟨hg24,hg25⟩,H⟩:=aj7 H
 refine rA ?_
 obtain ⟨r5,hr5,H⟩:=bind_some H
 have q:=aI qe hr5
 refine rAq ?_
 refine js ?_
 refine lf ?_
 obtain rfl:=Option.some.inj H
 exact rto [some 976]
abbrev dq1 (kept:List aj0) (rest:List aj0):S:=stB [(6,.own 9000 [.int .i64,.int .i64] 0 kept.length),(7,.own 9001 [.int .i64,.int .i64] 0 rest.length)] [(9000,.row 80 (List.map aj1 kept)),(9001,.row 80 (List.map aj1 rest))]
def bkg (n:Nat) (kept:List aj0) (rest:List aj0):Option ((List aj0)×(List aj0)) :=
 (bjy n kept).bind fun r2 =>
 (bjy n rest).bind fun r3 =>
 some (r2,r3)
abbrev dwd (l:List aj0) (n__1:Int) (kept_1:List aj0) (rest_1:List aj0) (i:Int):S:=stB [(0,.c (.slice 80) (.slice (List.map aj1 l))),(1,.c (.int .i64) (.int n__1)),(6,.own 9004 [.int .i64,.int .i64] 0 kept_1.length),(7,.own 9005 [.int .i64,.int .i64] 0 rest_1.length),(8,.c (.int .i64) (.int i))] [(9004,.row 80 (List.map aj1 kept_1)),(9005,.row 80 (List.map aj1 rest_1))]
def ayr (n:Nat) (l:List aj0) (n__1:Int) (kept_1:List aj0) (rest_1:List aj0) (i:Int):Option ((Int×(List aj0)×(List aj0)×Int) ⊕ (((List aj0)×(List aj0)))) :=
 bif (decide (i < (l.length:Int))) then
  gd ((0≤i∧i < (l.length:Int))) <|
  gd ((0≤i∧i < (l.length:Int))∧(kept_1.length+1)≤2147483648) <|
  gd ((0≤i∧i < (l.length:Int))∧(0≤i∧i < (l.length:Int))∧(rest_1.length+1)≤2147483648) <|
  some (.inl ((jd .i64 ((if n__1 > 0 then n__1 else 0) - (if (if ((gt l (Int.toNat i)).Len) < n__1 then ((gt l (Int.toNat i)).Len) else n__1) > 0 then (if ((gt l (Int.toNat i)).Len) < n__1 then ((gt l (Int.toNat i)).Len) else n__1) else 0))),(kept_1 ++ [(⟨(gt l (Int.toNat i)).At,(if (if ((gt l (Int.toNat i)).Len) < n__1 then ((gt l (Int.toNat i)).Len) else n__1) > 0 then (if ((gt l (Int.toNat i)).Len) < n__1 then ((gt l (Int.toNat i)).Len) else n__1) else 0)⟩:aj0)]),(rest_1 ++ [(⟨(jd .i64 (((gt l (Int.toNat i)).At)+(if (if ((gt l (Int.toNat i)).Len) < n__1 then ((gt l (Int.toNat i)).Len) else n__1) > 0 then (if ((gt l (Int.toNat i)).Len) < n__1 then ((gt l (Int.toNat i)).Len) else n__1) else 0))),(jd .i64 (((gt l (Int.toNat i)).Len) - (if (if ((gt l (Int.toNat i)).Len) < n__1 then ((gt l (Int.toNat i)).Len) else n__1) > 0 then (if ((gt l (Int.toNat i)).Len) < n__1 then ((gt l (Int.toNat i)).Len) else n__1) else 0)))⟩:aj0)]),(jd .i64 (i+1))))
 else
  some (.inr (kept_1,rest_1))
def cjh (n:Nat) (l:List aj0) (n_:Int):Option ((List aj0)×(List aj0)) :=
 (awq n l).bind fun r1 =>
 bif (!r1) then
  some ([],[])
 else
  (ajk (fun (x:Int×(List aj0)×(List aj0)×Int)=>ayr n l x.1 x.2.1 x.2.2.1 x.2.2.2) n (n_,[],[],0)).bind fun y9 =>
  bkg n y9.1 y9.2
def eqe (n:Nat):Go.AE.Fn:=mkFn (A:=(List aj0)×Int) (R:=(List aj0)×(List aj0)) 135 [(false,[.slice 80]),(false,[.int .i64])] false (fun xs=>(((cg (xs.getD 0 []) 0).toSl.map ajl),(cg (xs.getD 1 []) 0).toInt)) (fun a=>[[.slice (List.map aj1 a.1)],[.int a.2]]) (fun a=>cjh n a.1 a.2) (fun r=>[.own 0 [.int .i64,.int .i64] 0 r.1.length,.own 1 [.int .i64,.int .i64] 0 r.2.length]) (fun r=>[.row 80 (List.map aj1 r.1),.row 80 (List.map aj1 r.2)])
theorem fzc (n:Nat):aj2 je (eqe n):=by
 have hΓ:=g1 (byk n) (g1 (ejc n) (@g0 (aj2 je)))
 have qe:=aI @bzf.eq_1 @dj6.eq_1
 refine ajb (Tryz.f135.body.getD .skip) h00 Tryz.func135 rfl Tryz.call135 (by decide) (fun _ r=>⟨rfl,m1 ⟨80,_,_,rfl,ty80,rfl⟩ (m1 ⟨80,_,_,rfl,ty80,rfl⟩ m0)⟩) ?_
 rintro ⟨l,n_⟩ r H
 try dsimp only at H
 unfold cjh at H
 simp only [Tryz.f135,jt]
 refine rA ?_
 refine jr fun K2 hK2=>?_
 obtain ⟨r1,hr1,H⟩:=bind_some H
 have q:=aI qe hr1
 refine rAq ?_
 refine cnd H (fun h4 H=>?_) (fun h4 H=>?_)
 ·refine rA ?_
  refine js ?_
  refine lf ?_
  obtain rfl:=Option.some.inj H
  exact rto [none,none]
 refine jq ?_
 refine hK2 _ ?_
 refine rA ?_
 refine j4 (fun (x:(List aj0)×(List aj0))=>dq1 x.1 x.2) (fun x=>bkg n x.1 x.2=some r) ?_ ?_
 ·refine rA ?_
  refine jC ?_
  obtain ⟨y9,hy9,Ho9⟩:=bind_some H
  refine j3 _ (fun x=>dwd l x.1 x.2.1 x.2.2.1 x.2.2.2) hy9 (wb [none,none]) ?_
  rintro ⟨n__1,kept_1,rest_1,i⟩ z9 H
  try dsimp only at H
  unfold ayr at H
  refine Sm.st (dwd.eq_1 ..) ?_
  refine jr fun K10 hK10=>?_
  refine rA ?_
  refine cnd H (fun h12 H=>?_) (fun h12 H=>?_)
  ·refine jq ?_
   refine hK10 _ ?_
   refine jr fun K13 hK13=>?_
   refine jC ?_
   obtain ⟨hg22,H⟩:=aj7 H
   refine rA ?_
   obtain ⟨⟨hg20,hg21⟩,H⟩:=aj7 H
   refine rA ?_
   obtain ⟨⟨hg17,hg18,hg19⟩,H⟩:=aj7 H
   refine rD ?_
   refine eA ?_
   refine hK13 _ ?_
   refine eA ?_
   refine lf ?_
   exact nx H (wb [some 576,some 864])
  refine Jb ?_
  refine lf ?_
  refine lx H fun hyy=>?_
  subst hyy
  have H:=Ho9
  try dsimp only at H
  refine lf ?_
  exact ⟨(kept_1,rest_1),H,wb [some 9004,some 9005]⟩
 rintro ⟨kept,rest⟩ H
 try dsimp only at H
 unfold bkg at H
 refine Sm.st (dq1.eq_1 ..) ?_
 obtain ⟨r2,hr2,H⟩:=bind_some H
 obtain ⟨r3,hr3,H⟩:=bind_some H
 have q:=aI qe (aI hr2 hr3)
 refine rAq ?_
 refine js ?_
 refine lf ?_
 obtain rfl:=Option.some.inj H
 exact rto [some 960,some 992]
abbrev cw3 (name:List UInt8) (v:aj5) (d:List UInt8) (d_1:Int) (d_2:Int) (d_3:Bool) (d_4:Bool) (d_5:Int) (d_6:Int) (d_7:Int) (d_8:Int) (d_9:List aj0) (d_10:Int) (n__1:Int):S:=stB [(1,.c .str (.str name)),(3,.box 9003 0),(6,.box 9004 0),(9,.box 9005 0),(10,.c (.int .i64) (.int n__1))] [(9003,.box [.c .str (.str v.Serial),.c (.int .i64) (.int v.Cyls),.c (.int .i64) (.int v.Heads),.c (.int .i64) (.int v.Size),.c (.slice 41) (.slice (List.map aj3 v.Sets))]),(9004,.box [.c .str (.str []),.c (.int .i64) (.int 0),.c (.int .i64) (.int 0),.c (.int .i64) (.int 0),.nilsl]),(9005,.box [.c .str (.str d),.c (.int .i64) (.int d_1),.c (.int .i64) (.int d_2),.c .bool (.bool d_3),.c .bool (.bool d_4),.c (.int .i64) (.int d_5),.c (.int .i64) (.int d_6),.c (.int .i64) (.int d_7),.c (.int .i64) (.int d_8),.c (.slice 80) (.slice (List.map aj1 d_9)),.c (.int .i64) (.int d_10)])]
def awy (n:Nat) (name:List UInt8) (v:aj5) (d:List UInt8) (d_1:Int) (d_2:Int) (d_3:Bool) (d_4:Bool) (d_5:Int) (d_6:Int) (d_7:Int) (d_8:Int) (d_9:List aj0) (d_10:Int) (n__1:Int):Option (aj5×Int) :=
 (cjh n d_9 n__1).bind fun r3 =>
 (akj n v name (⟨d,(⟨d_1,d_2,d_3,d_4,d_5,d_6,d_7,d_8⟩:TDcb),r3.1,d_10⟩:aj6)).bind fun r4 =>
 some (r4,0)
abbrev cw6 (name:List UInt8) (v:aj5) (d:List UInt8) (d_1:Int) (d_2:Int) (d_3:Bool) (d_4:Bool) (d_5:Int) (d_6:Int) (d_7:Int) (d_8:Int) (d_9:List aj0) (d_10:Int) (n_:Int):S:=stB [(1,.c .str (.str name)),(3,.box 9000 0),(6,.box 9001 0),(9,.box 9002 0),(10,.c (.int .i64) (.int n_))] [(9000,.box [.c .str (.str v.Serial),.c (.int .i64) (.int v.Cyls),.c (.int .i64) (.int v.Heads),.c (.int .i64) (.int v.Size),.c (.slice 41) (.slice (List.map aj3 v.Sets))]),(9001,.box [.c .str (.str []),.c (.int .i64) (.int 0),.c (.int .i64) (.int 0),.c (.int .i64) (.int 0),.nilsl]),(9002,.box [.c .str (.str d),.c (.int .i64) (.int d_1),.c (.int .i64) (.int d_2),.c .bool (.bool d_3),.c .bool (.bool d_4),.c (.int .i64) (.int d_5),.c (.int .i64) (.int d_6),.c (.int .i64) (.int d_7),.c (.int .i64) (.int d_8),.c (.slice 80) (.slice (List.map aj1 d_9)),.c (.int .i64) (.int d_10)])]
def awz (n:Nat) (name:List UInt8) (v:aj5) (d:List UInt8) (d_1:Int) (d_2:Int) (d_3:Bool) (d_4:Bool) (d_5:Int) (d_6:Int) (d_7:Int) (d_8:Int) (d_9:List aj0) (d_10:Int) (n_:Int):Option (aj5×Int) :=
 bif (decide (d_10 > n_)) then
  awy n name v d d_1 d_2 d_3 d_4 d_5 d_6 d_7 d_8 d_9 d_10 d_10
 else
  awy n name v d d_1 d_2 d_3 d_4 d_5 d_6 d_7 d_8 d_9 d_10 n_
def bqt (n:Nat) (v:aj5) (name:List UInt8) (keep:Int):Option (aj5×Int) :=
 (ak3 n v name).bind fun r1 =>
 bif (r1 != 0) then
  some ((⟨[],0,0,0,[]⟩:aj5),r1)
 else
  (awb n v name).bind fun r2 =>
  gd ((0≤r2∧r2 < (v.Sets.length:Int))) <|
  bif (decide (keep > 1)) then
   awz n name v ((gt v.Sets (Int.toNat r2)).Name) (((gt v.Sets (Int.toNat r2)).Dcb).Org) (((gt v.Sets (Int.toNat r2)).Dcb).Format) (((gt v.Sets (Int.toNat r2)).Dcb).Blocked) (((gt v.Sets (Int.toNat r2)).Dcb).Asa) (((gt v.Sets (Int.toNat r2)).Dcb).Lrecl) (((gt v.Sets (Int.toNat r2)).Dcb).Blksize) (((gt v.Sets (Int.toNat r2)).Dcb).KeyLen) (((gt v.Sets (Int.toNat r2)).Dcb).KeyPos) ((gt v.Sets (Int.toNat r2)).Extents) ((gt v.Sets (Int.toNat r2)).Used) keep
  else
   awz n name v ((gt v.Sets (Int.toNat r2)).Name) (((gt v.Sets (Int.toNat r2)).Dcb).Org) (((gt v.Sets (Int.toNat r2)).Dcb).Format) (((gt v.Sets (Int.toNat r2)).Dcb).Blocked) (((gt v.Sets (Int.toNat r2)).Dcb).Asa) (((gt v.Sets (Int.toNat r2)).Dcb).Lrecl) (((gt v.Sets (Int.toNat r2)).Dcb).Blksize) (((gt v.Sets (Int.toNat r2)).Dcb).KeyLen) (((gt v.Sets (Int.toNat r2)).Dcb).KeyPos) ((gt v.Sets (Int.toNat r2)).Extents) ((gt v.Sets (Int.toNat r2)).Used) 1
def cy9 (n:Nat):Go.AE.Fn:=mkFn (A:=aj5×(List UInt8)×Int) (R:=aj5×Int) 80 [(true,[.str,.int .i64,.int .i64,.int .i64,.slice 41]),(false,[.str]),(false,[.int .i64])] true (fun xs=>((⟨(cg (xs.getD 0 []) 0).toStr,(cg (xs.getD 0 []) 1).toInt,(cg (xs.getD 0 []) 2).toInt,(cg (xs.getD 0 []) 3).toInt,((cg (xs.getD 0 []) 4).toSl.map aq3)⟩:aj5),(cg (xs.getD 1 []) 0).toStr,(cg (xs.getD 2 []) 0).toInt)) (fun a=>[[.str a.1.Serial,.int a.1.Cyls,.int a.1.Heads,.int a.1.Size,.slice (List.map aj3 a.1.Sets)],[.str a.2.1],[.int a.2.2]]) (fun a=>bqt n a.1 a.2.1 a.2.2) (fun r=>[.agg [.c .str (.str r.1.Serial),.c (.int .i64) (.int r.1.Cyls),.c (.int .i64) (.int r.1.Heads),.c (.int .i64) (.int r.1.Size),.own 0 [.str,.int .i64,.int .i64,.bool,.bool,.int .i64,.int .i64,.int .i64,.int .i64,.slice 80,.int .i64] 0 r.1.Sets.length],.c (.int .i64) (.int r.2)]) (fun r=>[.row 41 (List.map aj3 r.1.Sets)])
theorem ew4 (n:Nat):aj2 je (cy9 n):=by
 have hΓ:=g1 (bzn n) (g1 (bqa n) (g1 (fzc n) (g1 (bkp n) (@g0 (aj2 je)))))
 have qe:=aI @bq2.eq_1 (aI @aks.eq_1 (aI @eqe.eq_1 @bwj.eq_1))
 refine ajb (Tryz.f80.body.getD .skip) h00 Tryz.func80 rfl Tryz.call80 (by decide) (by intro h;cases h) ?_
 rintro ⟨v,name,keep⟩ r H
 try dsimp only at H
 unfold bqt at H
 simp only [Tryz.f80,jt]
 refine rA ?_
 obtain ⟨r1,hr1,H⟩:=bind_some H
 have q:=aI qe hr1
 refine rAq ?_
 refine jr fun K3 hK3=>?_
 refine rA ?_
 refine cnd H (fun h5 H=>?_) (fun h5 H=>?_)
 ·refine rA ?_
  refine js ?_
  refine lf ?_
  obtain rfl:=Option.some.inj H
  exact rto [none]
 refine jq ?_
 refine hK3 _ ?_
 obtain ⟨r2,hr2,H⟩:=bind_some H
 obtain ⟨hg8,H⟩:=aj7 H
 refine sQ [0,1,2,3,4,5,6,7,8] [(none,[48],[]),(none,[48],[]),(none,[48],[]),(none,[],[]),(none,[],[367,366,365,364,363,362,361,360,359,358,357,356,355,354,353,352]),(none,[],[]),(none,[],[]),(none,[],[144]),(none,[144],[144])] fun K7 hK7=>?_
 have q:=aI qe hr2
 iterate 9 refine oQq ?_
 refine ckg ?_
 refine hK7 _ ?_
 refine rA ?_
 refine j4 (fun (x:Int)=>cw6 name v ((gt v.Sets (Int.toNat r2)).Name) (((gt v.Sets (Int.toNat r2)).Dcb).Org) (((gt v.Sets (Int.toNat r2)).Dcb).Format) (((gt v.Sets (Int.toNat r2)).Dcb).Blocked) (((gt v.Sets (Int.toNat r2)).Dcb).Asa) (((gt v.Sets (Int.toNat r2)).Dcb).Lrecl) (((gt v.Sets (Int.toNat r2)).Dcb).Blksize) (((gt v.Sets (Int.toNat r2)).Dcb).KeyLen) (((gt v.Sets (Int.toNat r2)).Dcb).KeyPos) ((gt v.Sets (Int.toNat r2)).Extents) ((gt v.Sets (Int.toNat r2)).Used) x) (fun x=>awz n name v ((gt v.Sets (Int.toNat r2)).Name) (((gt v.Sets (Int.toNat r2)).Dcb).Org) (((gt v.Sets (Int.toNat r2)).Dcb).Format) (((gt v.Sets (Int.toNat r2)).Dcb).Blocked) (((gt v.Sets (Int.toNat r2)).Dcb).Asa) (((gt v.Sets (Int.toNat r2)).Dcb).Lrecl) (((gt v.Sets (Int.toNat r2)).Dcb).Blksize) (((gt v.Sets (Int.toNat r2)).Dcb).KeyLen) (((gt v.Sets (Int.toNat r2)).Dcb).KeyPos) ((gt v.Sets (Int.toNat r2)).Extents) ((gt v.Sets (Int.toNat r2)).Used) x=some r) ?_ ?_
 ·refine rA ?_
  refine cnd H (fun h15 H=>?_) (fun h15 H=>?_)
  ·refine eA ?_
   refine lf ?_
   exact ⟨_,H,wb [some 48,some 96,some 144]⟩
  refine jq ?_
  refine lf ?_
  exact ⟨_,H,wb [some 48,some 96,some 144]⟩
 rintro n_ H
 try dsimp only at H
 unfold awz at H
 refine Sm.st (cw6.eq_1 ..) ?_
 refine j4 (fun (x:Int)=>cw3 name v ((gt v.Sets (Int.toNat r2)).Name) (((gt v.Sets (Int.toNat r2)).Dcb).Org) (((gt v.Sets (Int.toNat r2)).Dcb).Format) (((gt v.Sets (Int.toNat r2)).Dcb).Blocked) (((gt v.Sets (Int.toNat r2)).Dcb).Asa) (((gt v.Sets (Int.toNat r2)).Dcb).Lrecl) (((gt v.Sets (Int.toNat r2)).Dcb).Blksize) (((gt v.Sets (Int.toNat r2)).Dcb).KeyLen) (((gt v.Sets (Int.toNat r2)).Dcb).KeyPos) ((gt v.Sets (Int.toNat r2)).Extents) ((gt v.Sets (Int.toNat r2)).Used) x) (fun x=>awy n name v ((gt v.Sets (Int.toNat r2)).Name) (((gt v.Sets (Int.toNat r2)).Dcb).Org) (((gt v.Sets (Int.toNat r2)).Dcb).Format) (((gt v.Sets (Int.toNat r2)).Dcb).Blocked) (((gt v.Sets (Int.toNat r2)).Dcb).Asa) (((gt v.Sets (Int.toNat r2)).Dcb).Lrecl) (((gt v.Sets (Int.toNat r2)).Dcb).Blksize) (((gt v.Sets (Int.toNat r2)).Dcb).KeyLen) (((gt v.Sets (Int.toNat r2)).Dcb).KeyPos) ((gt v.Sets (Int.toNat r2)).Extents) ((gt v.Sets (Int.toNat r2)).Used) x=some r) ?_ ?_
 ·refine rA ?_
  refine cnd H (fun h13 H=>?_) (fun h13 H=>?_)
  ·refine eA ?_
   refine lf ?_
   exact ⟨_,H,wb [some 9000,some 9001,some 9002]⟩
  refine jq ?_
  refine lf ?_
  exact ⟨_,H,wb [some 9000,some 9001,some 9002]⟩
 rintro n__1 H
 try dsimp only at H
 unfold awy at H
 refine Sm.st (cw3.eq_1 ..) ?_
 obtain ⟨r3,hr3,H⟩:=bind_some H
 have q:=aI qe hr3
 refine rAq ?_
 obtain ⟨r4,hr4,H⟩:=bind_some H
 have q:=aI qe hr4
 refine rAq ?_
 refine js ?_
 refine lf ?_
 obtain rfl:=Option.some.inj H
 exact rto [some 736]
def bzh (n:Nat) (v:aj5) (name:List UInt8) (c:TDcb) (used:Int):Option (aj5×Int) :=
 (ak3 n v name).bind fun r1 =>
 bif (r1 != 0) then
  some ((⟨[],0,0,0,[]⟩:aj5),r1)
 else
  (awb n v name).bind fun r2 =>
  gd ((0≤r2∧r2 < (v.Sets.length:Int))) <|
  (ajz n c).bind fun r3 =>
  bif (!r3) then
   some ((⟨[],0,0,0,[]⟩:aj5),1)
  else
   (ay9 n ((gt v.Sets (Int.toNat r2)).Extents)).bind fun r4 =>
   (ajm n used 0 r4).bind fun r5 =>
   bif (!r5) then
    some ((⟨[],0,0,0,[]⟩:aj5),6)
   else
    (akj n v name (⟨(gt v.Sets (Int.toNat r2)).Name,c,(gt v.Sets (Int.toNat r2)).Extents,used⟩:aj6)).bind fun r6 =>
    some (r6,0)
def dwh (n:Nat):Go.AE.Fn:=mkFn (A:=aj5×(List UInt8)×TDcb×Int) (R:=aj5×Int) 81 [(true,[.str,.int .i64,.int .i64,.int .i64,.slice 41]),(false,[.str]),(true,[.int .i64,.int .i64,.bool,.bool,.int .i64,.int .i64,.int .i64,.int .i64]),(false,[.int .i64])] true (fun xs=>((⟨(cg (xs.getD 0 []) 0).toStr,(cg (xs.getD 0 []) 1).toInt,(cg (xs.getD 0 []) 2).toInt,(cg (xs.getD 0 []) 3).toInt,((cg (xs.getD 0 []) 4).toSl.map aq3)⟩:aj5),(cg (xs.getD 1 []) 0).toStr,(⟨(cg (xs.getD 2 []) 0).toInt,(cg (xs.getD 2 []) 1).toInt,(cg (xs.getD 2 []) 2).toBool,(cg (xs.getD 2 []) 3).toBool,(cg (xs.getD 2 []) 4).toInt,(cg (xs.getD 2 []) 5).toInt,(cg (xs.getD 2 []) 6).toInt,(cg (xs.getD 2 []) 7).toInt⟩:TDcb),(cg (xs.getD 3 []) 0).toInt)) (fun a=>[[.str a.1.Serial,.int a.1.Cyls,.int a.1.Heads,.int a.1.Size,.slice (List.map aj3 a.1.Sets)],[.str a.2.1],[.int a.2.2.1.Org,.int a.2.2.1.Format,.bool a.2.2.1.Blocked,.bool a.2.2.1.Asa,.int a.2.2.1.Lrecl,.int a.2.2.1.Blksize,.int a.2.2.1.KeyLen,.int a.2.2.1.KeyPos],[.int a.2.2.2]]) (fun a=>bzh n a.1 a.2.1 a.2.2.1 a.2.2.2) (fun r=>[.agg [.c .str (.str r.1.Serial),.c (.int .i64) (.int r.1.Cyls),.c (.int .i64) (.int r.1.Heads),.c (.int .i64) (.int r.1.Size),.own 0 [.str,.int .i64,.int .i64,.bool,.bool,.int .i64,.int .i64,.int .i64,.int .i64,.slice 80,.int .i64] 0 r.1.Sets.length],.c (.int .i64) (.int r.2)]) (fun r=>[.row 41 (List.map aj3 r.1.Sets)])
theorem ey0 (n:Nat):aj2 je (dwh n):=by
 have hΓ:=g1 (bzn n) (g1 (bqa n) (g1 (bzy n) (g1 (dzm n) (g1 (cz1 n) (g1 (bkp n) (@g0 (aj2 je)))))))
 have qe:=aI @bq2.eq_1 (aI @aks.eq_1 (aI @bjg.eq_1 (aI @czs.eq_1 (aI @cjf.eq_1 @bwj.eq_1))))
 refine ajb (Tryz.f81.body.getD .skip) h00 Tryz.func81 rfl Tryz.call81 (by decide) (by intro h;cases h) ?_
 rintro ⟨v,name,c,used⟩ r H
 try dsimp only at H
 unfold bzh at H
 simp only [Tryz.f81,jt]
 refine rA ?_
 obtain ⟨r1,hr1,H⟩:=bind_some H
 have q:=aI qe hr1
 refine rAq ?_
 refine jr fun K3 hK3=>?_
 refine rA ?_
 refine cnd H (fun h5 H=>?_) (fun h5 H=>?_)
 ·refine rA ?_
  refine js ?_
  refine lf ?_
  obtain rfl:=Option.some.inj H
  exact rto [none]
 refine jq ?_
 refine hK3 _ ?_
 obtain ⟨r2,hr2,H⟩:=bind_some H
 obtain ⟨hg8,H⟩:=aj7 H
 refine sQ [0,1,2,3,4,5,6,7,8] [(none,[64],[]),(none,[64],[]),(none,[64],[]),(none,[],[]),(none,[],[383,382,381,380,379,378,377,376,375,374,373,372,371,370,369,368]),(none,[],[]),(none,[],[]),(none,[],[176]),(none,[176],[176])] fun K7 hK7=>?_
 have q:=aI qe hr2
 iterate 9 refine oQq ?_
 refine ckg ?_
 refine hK7 _ ?_
 refine jr fun K9 hK9=>?_
 obtain ⟨r3,hr3,H⟩:=bind_some H
 have q:=aI qe hr3
 refine rAq ?_
 refine cnd H (fun h11 H=>?_) (fun h11 H=>?_)
 ·refine rA ?_
  refine js ?_
  refine lf ?_
  obtain rfl:=Option.some.inj H
  exact rto [none]
 refine jq ?_
 refine hK9 _ ?_
 refine jr fun K13 hK13=>?_
 obtain ⟨r4,hr4,H⟩:=bind_some H
 obtain ⟨r5,hr5,H⟩:=bind_some H
 have q:=aI qe (aI hr4 hr5)
 refine rAq ?_
 refine cnd H (fun h15 H=>?_) (fun h15 H=>?_)
 ·refine rA ?_
  refine js ?_
  refine lf ?_
  obtain rfl:=Option.some.inj H
  exact rto [none]
 refine jq ?_
 refine hK13 _ ?_
 refine rA ?_
 obtain ⟨r6,hr6,H⟩:=bind_some H
 have q:=aI qe hr6
 refine rAq ?_
 refine js ?_
 refine lf ?_
 obtain rfl:=Option.some.inj H
 exact rto [some 704]
def bw9 (n:Nat) (v:aj5) (name:List UInt8):Option (aj5×Int) :=
 (ak3 n v name).bind fun r1 =>
 bif (r1 != 0) then
  some ((⟨[],0,0,0,[]⟩:aj5),r1)
 else
  (ayg n v name).bind fun r2 =>
  some (r2,0)
def ckr (n:Nat):Go.AE.Fn:=mkFn (A:=aj5×(List UInt8)) (R:=aj5×Int) 82 [(true,[.str,.int .i64,.int .i64,.int .i64,.slice 41]),(false,[.str])] true (fun xs=>((⟨(cg (xs.getD 0 []) 0).toStr,(cg (xs.getD 0 []) 1).toInt,(cg (xs.getD 0 []) 2).toInt,(cg (xs.getD 0 []) 3).toInt,((cg (xs.getD 0 []) 4).toSl.map aq3)⟩:aj5),(cg (xs.getD 1 []) 0).toStr)) (fun a=>[[.str a.1.Serial,.int a.1.Cyls,.int a.1.Heads,.int a.1.Size,.slice (List.map aj3 a.1.Sets)],[.str a.2]]) (fun a=>bw9 n a.1 a.2) (fun r=>[.agg [.c .str (.str r.1.Serial),.c (.int .i64) (.int r.1.Cyls),.c (.int .i64) (.int r.1.Heads),.c (.int .i64) (.int r.1.Size),.own 0 [.str,.int .i64,.int .i64,.bool,.bool,.int .i64,.int .i64,.int .i64,.int .i64,.slice 80,.int .i64] 0 r.1.Sets.length],.c (.int .i64) (.int r.2)]) (fun r=>[.row 41 (List.map aj3 r.1.Sets)])
theorem equ (n:Nat):aj2 je (ckr n):=by
 have hΓ:=g1 (bzn n) (g1 (cy1 n) (@g0 (aj2 je)))
 have qe:=aI @bq2.eq_1 @cj9.eq_1
 refine ajb (Tryz.f82.body.getD .skip) h00 Tryz.func82 rfl Tryz.call82 (by decide) (by intro h;cases h) ?_
 rintro ⟨v,name⟩ r H
 try dsimp only at H
 unfold bw9 at H
 simp only [Tryz.f82,jt]
 refine rA ?_
 obtain ⟨r1,hr1,H⟩:=bind_some H
 have q:=aI qe hr1
 refine rAq ?_
 refine jr fun K3 hK3=>?_
 refine rA ?_
 refine cnd H (fun h5 H=>?_) (fun h5 H=>?_)
 ·refine rA ?_
  refine js ?_
  refine lf ?_
  obtain rfl:=Option.some.inj H
  exact rto [none]
 refine jq ?_
 refine hK3 _ ?_
 obtain ⟨r2,hr2,H⟩:=bind_some H
 have q:=aI qe hr2
 refine rAq ?_
 refine js ?_
 refine lf ?_
 obtain rfl:=Option.some.inj H
 exact rto [some 256]
def bzm (n:Nat) (v:aj5) (old:List UInt8) (name:List UInt8):Option (aj5×Int) :=
 (ak3 n v old).bind fun r1 =>
 bif (r1 != 0) then
  some ((⟨[],0,0,0,[]⟩:aj5),r1)
 else
  (bwr n name).bind fun r2 =>
  bif (!r2) then
   some ((⟨[],0,0,0,[]⟩:aj5),1)
  else
   (awb n v name).bind fun r3 =>
   bif (decide (r3 ≥ 0)) then
    some ((⟨[],0,0,0,[]⟩:aj5),4)
   else
    (awb n v old).bind fun r4 =>
    gd ((0≤r4∧r4 < (v.Sets.length:Int))) <|
    (akj n v old (⟨name,((gt v.Sets (Int.toNat r4)).Dcb),(gt v.Sets (Int.toNat r4)).Extents,(gt v.Sets (Int.toNat r4)).Used⟩:aj6)).bind fun r5 =>
    some (r5,0)
def dq7 (n:Nat):Go.AE.Fn:=mkFn (A:=aj5×(List UInt8)×(List UInt8)) (R:=aj5×Int) 83 [(true,[.str,.int .i64,.int .i64,.int .i64,.slice 41]),(false,[.str]),(false,[.str])] true (fun xs=>((⟨(cg (xs.getD 0 []) 0).toStr,(cg (xs.getD 0 []) 1).toInt,(cg (xs.getD 0 []) 2).toInt,(cg (xs.getD 0 []) 3).toInt,((cg (xs.getD 0 []) 4).toSl.map aq3)⟩:aj5),(cg (xs.getD 1 []) 0).toStr,(cg (xs.getD 2 []) 0).toStr)) (fun a=>[[.str a.1.Serial,.int a.1.Cyls,.int a.1.Heads,.int a.1.Size,.slice (List.map aj3 a.1.Sets)],[.str a.2.1],[.str a.2.2]]) (fun a=>bzm n a.1 a.2.1 a.2.2) (fun r=>[.agg [.c .str (.str r.1.Serial),.c (.int .i64) (.int r.1.Cyls),.c (.int .i64) (.int r.1.Heads),.c (.int .i64) (.int r.1.Size),.own 0 [.str,.int .i64,.int .i64,.bool,.bool,.int .i64,.int .i64,.int .i64,.int .i64,.slice 80,.int .i64] 0 r.1.Sets.length],.c (.int .i64) (.int r.2)]) (fun r=>[.row 41 (List.map aj3 r.1.Sets)])
theorem eyc (n:Nat):aj2 je (dq7 n):=by
 have hΓ:=g1 (bzn n) (g1 (djf n) (g1 (bqa n) (g1 (bkp n) (@g0 (aj2 je)))))
 have qe:=aI @bq2.eq_1 (aI @cqc.eq_1 (aI @aks.eq_1 @bwj.eq_1))
 refine ajb (Tryz.f83.body.getD .skip) h00 Tryz.func83 rfl Tryz.call83 (by decide) (by intro h;cases h) ?_
 rintro ⟨v,old,name⟩ r H
 try dsimp only at H
 unfold bzm at H
 simp only [Tryz.f83,jt]
 refine rA ?_
 obtain ⟨r1,hr1,H⟩:=bind_some H
 have q:=aI qe hr1
 refine rAq ?_
 refine jr fun K3 hK3=>?_
 refine rA ?_
 refine cnd H (fun h5 H=>?_) (fun h5 H=>?_)
 ·refine rA ?_
  refine js ?_
  refine lf ?_
  obtain rfl:=Option.some.inj H
  exact rto [none]
 refine jq ?_
 refine hK3 _ ?_
 refine jr fun K7 hK7=>?_
 obtain ⟨r2,hr2,H⟩:=bind_some H
 have q:=aI qe hr2
 refine rAq ?_
 refine cnd H (fun h9 H=>?_) (fun h9 H=>?_)
 ·refine rA ?_
  refine js ?_
  refine lf ?_
  obtain rfl:=Option.some.inj H
  exact rto [none]
 refine jq ?_
 refine hK7 _ ?_
 refine jr fun K11 hK11=>?_
 obtain ⟨r3,hr3,H⟩:=bind_some H
 have q:=aI qe hr3
 refine rAq ?_
 refine cnd H (fun h13 H=>?_) (fun h13 H=>?_)
 ·refine rA ?_
  refine js ?_
  refine lf ?_
  obtain rfl:=Option.some.inj H
  exact rto [none]
 refine jq ?_
 refine hK11 _ ?_
 obtain ⟨r4,hr4,H⟩:=bind_some H
 obtain ⟨hg16,H⟩:=aj7 H
 refine sQ [0,1,2,3,4,5,6,7,8] [(none,[48],[]),(none,[48],[]),(none,[48],[]),(none,[],[]),(none,[],[495,494,493,492,491,490,489,488,487,486,485,484,483,482,481,480]),(none,[],[]),(none,[],[]),(none,[],[144]),(none,[144],[144])] fun K15 hK15=>?_
 have q:=aI qe hr4
 iterate 9 refine oQq ?_
 refine ckg ?_
 refine hK15 _ ?_
 refine rA ?_
 obtain ⟨r5,hr5,H⟩:=bind_some H
 have q:=aI qe hr5
 refine rAq ?_
 refine js ?_
 refine lf ?_
 obtain rfl:=Option.some.inj H
 exact rto [some 608]
def cjd (n:Nat) (v:aj5) (a:TAct):Option (aj5×Int) :=
 bif ((Int.tmod a.Kind 6) == 0) then
  (bzg n v (⟨a.Name,a.Dcb,[],0⟩:aj6) a.N).bind fun r1 =>
  some (r1.1,r1.2)
 else
  bif ((Int.tmod a.Kind 6) == 1) then
   (bzs n v a.Name a.N).bind fun r2 =>
   some (r2.1,r2.2)
  else
   bif ((Int.tmod a.Kind 6) == 2) then
    (bqt n v a.Name a.N).bind fun r3 =>
    some (r3.1,r3.2)
   else
    bif ((Int.tmod a.Kind 6) == 3) then
     (bzh n v a.Name a.Dcb a.N).bind fun r4 =>
     some (r4.1,r4.2)
    else
     bif ((Int.tmod a.Kind 6) == 4) then
      (bw9 n v a.Name).bind fun r5 =>
      some (r5.1,r5.2)
     else
      (bzm n v a.Name a.To).bind fun r6 =>
      some (r6.1,r6.2)
def ejp (n:Nat):Go.AE.Fn:=mkFn (A:=aj5×TAct) (R:=aj5×Int) 37 [(true,[.str,.int .i64,.int .i64,.int .i64,.slice 41]),(true,[.int .u8,.str,.str,.int .i64,.int .i64,.bool,.bool,.int .i64,.int .i64,.int .i64,.int .i64,.int .i64])] true (fun xs=>((⟨(cg (xs.getD 0 []) 0).toStr,(cg (xs.getD 0 []) 1).toInt,(cg (xs.getD 0 []) 2).toInt,(cg (xs.getD 0 []) 3).toInt,((cg (xs.getD 0 []) 4).toSl.map aq3)⟩:aj5),(⟨(cg (xs.getD 1 []) 0).toInt,(cg (xs.getD 1 []) 1).toStr,(cg (xs.getD 1 []) 2).toStr,(⟨(cg (xs.getD 1 []) 3).toInt,(cg (xs.getD 1 []) 4).toInt,(cg (xs.getD 1 []) 5).toBool,(cg (xs.getD 1 []) 6).toBool,(cg (xs.getD 1 []) 7).toInt,(cg (xs.getD 1 []) 8).toInt,(cg (xs.getD 1 []) 9).toInt,(cg (xs.getD 1 []) 10).toInt⟩:TDcb),(cg (xs.getD 1 []) 11).toInt⟩:TAct))) (fun a=>[[.str a.1.Serial,.int a.1.Cyls,.int a.1.Heads,.int a.1.Size,.slice (List.map aj3 a.1.Sets)],[.int a.2.Kind,.str a.2.Name,.str a.2.To,.int a.2.Dcb.Org,.int a.2.Dcb.Format,.bool a.2.Dcb.Blocked,.bool a.2.Dcb.Asa,.int a.2.Dcb.Lrecl,.int a.2.Dcb.Blksize,.int a.2.Dcb.KeyLen,.int a.2.Dcb.KeyPos,.int a.2.N]]) (fun a=>cjd n a.1 a.2) (fun r=>[.agg [.c .str (.str r.1.Serial),.c (.int .i64) (.int r.1.Cyls),.c (.int .i64) (.int r.1.Heads),.c (.int .i64) (.int r.1.Size),.own 0 [.str,.int .i64,.int .i64,.bool,.bool,.int .i64,.int .i64,.int .i64,.int .i64,.slice 80,.int .i64] 0 r.1.Sets.length],.c (.int .i64) (.int r.2)]) (fun r=>[.row 41 (List.map aj3 r.1.Sets)])
theorem fwo (n:Nat):aj2 je (ejp n):=by
 have hΓ:=g1 (eki n) (g1 (eyd n) (g1 (ew4 n) (g1 (ey0 n) (g1 (equ n) (g1 (eyc n) (@g0 (aj2 je)))))))
 have qe:=aI @dwg.eq_1 (aI @djq.eq_1 (aI @cy9.eq_1 (aI @dwh.eq_1 (aI @ckr.eq_1 @dq7.eq_1))))
 refine ajb (Tryz.f37.body.getD .skip) h00 Tryz.func37 rfl Tryz.call37 (by decide) (by intro h;cases h) ?_
 rintro ⟨v,a⟩ r H
 try dsimp only at H
 unfold cjd at H
 simp only [Tryz.f37,jt]
 refine rA ?_
 refine jr fun K2 hK2=>?_
 refine rA ?_
 refine jC ?_
 refine rA ?_
 refine cnd H (fun h5 H=>?_) (fun h5 H=>?_)
 ·obtain ⟨r1,hr1,H⟩:=bind_some H
  have q:=aI qe hr1
  refine rAq ?_
  refine js ?_
  refine lf ?_
  obtain rfl:=Option.some.inj H
  exact rto [some 304]
 refine rA ?_
 refine cnd H (fun h8 H=>?_) (fun h8 H=>?_)
 ·obtain ⟨r2,hr2,H⟩:=bind_some H
  have q:=aI qe hr2
  refine rAq ?_
  refine js ?_
  refine lf ?_
  obtain rfl:=Option.some.inj H
  exact rto [some 464]
 refine rA ?_
 refine cnd H (fun h11 H=>?_) (fun h11 H=>?_)
 ·obtain ⟨r3,hr3,H⟩:=bind_some H
  have q:=aI qe hr3
  refine rAq ?_
  refine js ?_
  refine lf ?_
  obtain rfl:=Option.some.inj H
  exact rto [some 624]
 refine rA ?_
 refine cnd H (fun h14 H=>?_) (fun h14 H=>?_)
 ·obtain ⟨r4,hr4,H⟩:=bind_some H
  have q:=aI qe hr4
  refine rAq ?_
  refine js ?_
  refine lf ?_
  obtain rfl:=Option.some.inj H
  exact rto [some 816]
 refine rA ?_
 refine cnd H (fun h17 H=>?_) (fun h17 H=>?_)
 ·obtain ⟨r5,hr5,H⟩:=bind_some H
  have q:=aI qe hr5
  refine rAq ?_
  refine js ?_
  refine lf ?_
  obtain rfl:=Option.some.inj H
  exact rto [some 944]
 refine jq ?_
 refine hK2 _ ?_
 obtain ⟨r6,hr6,H⟩:=bind_some H
 have q:=aI qe hr6
 refine rAq ?_
 refine js ?_
 refine lf ?_
 obtain rfl:=Option.some.inj H
 exact rto [some 1072]
abbrev cw0:S:=stB [] []
def bjk (n:Nat):Option Bool :=
 some true
abbrev cwb (a:aj6) (b:aj6) (k:Int):S:=stB [(2,.box 9002 0),(3,.box 9003 0),(5,.c (.int .i64) (.int k))] [(9002,.box [.c .str (.str a.Name),.c (.int .i64) (.int a.Dcb.Org),.c (.int .i64) (.int a.Dcb.Format),.c .bool (.bool a.Dcb.Blocked),.c .bool (.bool a.Dcb.Asa),.c (.int .i64) (.int a.Dcb.Lrecl),.c (.int .i64) (.int a.Dcb.Blksize),.c (.int .i64) (.int a.Dcb.KeyLen),.c (.int .i64) (.int a.Dcb.KeyPos),.c (.slice 80) (.slice (List.map aj1 a.Extents)),.c (.int .i64) (.int a.Used)]),(9003,.box [.c .str (.str b.Name),.c (.int .i64) (.int b.Dcb.Org),.c (.int .i64) (.int b.Dcb.Format),.c .bool (.bool b.Dcb.Blocked),.c .bool (.bool b.Dcb.Asa),.c (.int .i64) (.int b.Dcb.Lrecl),.c (.int .i64) (.int b.Dcb.Blksize),.c (.int .i64) (.int b.Dcb.KeyLen),.c (.int .i64) (.int b.Dcb.KeyPos),.c (.slice 80) (.slice (List.map aj1 b.Extents)),.c (.int .i64) (.int b.Used)])]
def akb (n:Nat) (a:aj6) (b:aj6) (k:Int):Option ((Int) ⊕ (((Bool) ⊕ (Unit)))) :=
 bif (decide (k < (a.Extents.length:Int))) then
  gd ((0≤k∧k < (a.Extents.length:Int))∧(0≤k∧k < (b.Extents.length:Int))) <|
  bif (!((((gt a.Extents (Int.toNat k)).At) == ((gt b.Extents (Int.toNat k)).At)) && (((gt a.Extents (Int.toNat k)).Len) == ((gt b.Extents (Int.toNat k)).Len)))) then
   some (.inr (.inl false))
  else
   some (.inl (jd .i64 (k+1)))
 else
  some (.inr (.inr ()))
def bw4 (n:Nat) (a:aj6) (b:aj6):Option Bool :=
 bif (if (if (if (a.Name != b.Name)=true then true else (!((a.Dcb.Org == b.Dcb.Org) && ((a.Dcb.Format == b.Dcb.Format) && ((a.Dcb.Blocked == b.Dcb.Blocked) && ((a.Dcb.Asa == b.Dcb.Asa) && ((a.Dcb.Lrecl == b.Dcb.Lrecl) && ((a.Dcb.Blksize == b.Dcb.Blksize) && ((a.Dcb.KeyLen == b.Dcb.KeyLen) && (a.Dcb.KeyPos == b.Dcb.KeyPos))))))))))=true then true else (a.Used != b.Used))=true then true else ((a.Extents.length:Int) != (b.Extents.length:Int))) then
  some false
 else
  (ajk (fun (x:Int)=>akb n a b x) n 0).bind fun y8 =>
  match y8 with
  | .inl vv =>
   some vv
  | .inr vv =>
   bjk n
def cyl (n:Nat):Go.AE.Fn:=mkFn (A:=aj6×aj6) (R:=Bool) 26 [(true,[.str,.int .i64,.int .i64,.bool,.bool,.int .i64,.int .i64,.int .i64,.int .i64,.slice 80,.int .i64]),(true,[.str,.int .i64,.int .i64,.bool,.bool,.int .i64,.int .i64,.int .i64,.int .i64,.slice 80,.int .i64])] false (fun xs=>((⟨(cg (xs.getD 0 []) 0).toStr,(⟨(cg (xs.getD 0 []) 1).toInt,(cg (xs.getD 0 []) 2).toInt,(cg (xs.getD 0 []) 3).toBool,(cg (xs.getD 0 []) 4).toBool,(cg (xs.getD 0 []) 5).toInt,(cg (xs.getD 0 []) 6).toInt,(cg (xs.getD 0 []) 7).toInt,(cg (xs.getD 0 []) 8).toInt⟩:TDcb),((cg (xs.getD 0 []) 9).toSl.map ajl),(cg (xs.getD 0 []) 10).toInt⟩:aj6),(⟨(cg (xs.getD 1 []) 0).toStr,(⟨(cg (xs.getD 1 []) 1).toInt,(cg (xs.getD 1 []) 2).toInt,(cg (xs.getD 1 []) 3).toBool,(cg (xs.getD 1 []) 4).toBool,(cg (xs.getD 1 []) 5).toInt,(cg (xs.getD 1 []) 6).toInt,(cg (xs.getD 1 []) 7).toInt,(cg (xs.getD 1 []) 8).toInt⟩:TDcb),((cg (xs.getD 1 []) 9).toSl.map ajl),(cg (xs.getD 1 []) 10).toInt⟩:aj6))) (fun a=>[[.str a.1.Name,.int a.1.Dcb.Org,.int a.1.Dcb.Format,.bool a.1.Dcb.Blocked,.bool a.1.Dcb.Asa,.int a.1.Dcb.Lrecl,.int a.1.Dcb.Blksize,.int a.1.Dcb.KeyLen,.int a.1.Dcb.KeyPos,.slice (List.map aj1 a.1.Extents),.int a.1.Used],[.str a.2.Name,.int a.2.Dcb.Org,.int a.2.Dcb.Format,.bool a.2.Dcb.Blocked,.bool a.2.Dcb.Asa,.int a.2.Dcb.Lrecl,.int a.2.Dcb.Blksize,.int a.2.Dcb.KeyLen,.int a.2.Dcb.KeyPos,.slice (List.map aj1 a.2.Extents),.int a.2.Used]]) (fun a=>bw4 n a.1 a.2) (fun r=>[.c .bool (.bool r)]) (fun r=>[])
theorem ew9 (n:Nat):aj2 je (cyl n):=by
 have hΓ:=@g0 (aj2 je)
 refine ajb (Tryz.f26.body.getD .skip) h00 Tryz.func26 rfl Tryz.call26 (by decide) (by intro _ r;exact ⟨rfl,by simp⟩) ?_
 rintro ⟨a,b⟩ r H
 try dsimp only at H
 unfold bw4 at H
 simp only [Tryz.f26,jt]
 refine rA ?_
 refine jr fun K2 hK2=>?_
 refine rA ?_
 refine cnd H (fun h4 H=>?_) (fun h4 H=>?_)
 ·refine rA ?_
  refine js ?_
  refine lf ?_
  obtain rfl:=Option.some.inj H
  exact rt []
 refine jq ?_
 refine hK2 _ ?_
 refine j4 (fun (x:Unit)=>cw0) (fun x=>bjk n=some r) ?_ ?_
 ·refine rA ?_
  refine jC ?_
  obtain ⟨y8,hy8,Ho8⟩:=bind_some H
  refine j3 _ (fun x=>cwb a b x) hy8 (wb [some 32,some 48]) ?_
  rintro k z8 H
  try dsimp only at H
  unfold akb at H
  refine Sm.st (cwb.eq_1 ..) ?_
  refine jr fun K9 hK9=>?_
  refine rA ?_
  refine cnd H (fun h11 H=>?_) (fun h11 H=>?_)
  ·refine jq ?_
   refine hK9 _ ?_
   refine jr fun K12 hK12=>?_
   refine jC ?_
   obtain ⟨⟨hg16,hg17⟩,H⟩:=aj7 H
   refine rD ?_
   refine cnd H (fun h14 H=>?_) (fun h14 H=>?_)
   ·refine rA ?_
    refine js ?_
    refine lf ?_
    refine lx H fun hyy=>?_
    subst hyy
    have H:=Ho8
    try dsimp only at H
    refine lf ?_
    obtain rfl:=Option.some.inj H
    exact rt []
   refine jq ?_
   refine hK12 _ ?_
   refine eA ?_
   refine lf ?_
   exact nx H (wb [some 9002,some 9003])
  refine Jb ?_
  refine lf ?_
  refine lx H fun hyy=>?_
  subst hyy
  have H:=Ho8
  try dsimp only at H
  refine lf ?_
  exact ⟨(),H,wb []⟩
 rintro ⟨⟩ H
 try dsimp only at H
 unfold bjk at H
 refine Sm.st (cw0.eq_1 ..) ?_
 refine rA ?_
 refine js ?_
 refine lf ?_
 obtain rfl:=Option.some.inj H
 exact rt []
abbrev dwn:S:=stB [] []
def bkf (n:Nat):Option Bool :=
 some true
abbrev dq2 (a:aj5) (b:aj5) (k:Int):S:=stB [(2,.box 9002 0),(3,.box 9003 0),(5,.c (.int .i64) (.int k))] [(9002,.box [.c .str (.str a.Serial),.c (.int .i64) (.int a.Cyls),.c (.int .i64) (.int a.Heads),.c (.int .i64) (.int a.Size),.c (.slice 41) (.slice (List.map aj3 a.Sets))]),(9003,.box [.c .str (.str b.Serial),.c (.int .i64) (.int b.Cyls),.c (.int .i64) (.int b.Heads),.c (.int .i64) (.int b.Size),.c (.slice 41) (.slice (List.map aj3 b.Sets))])]
def bqn (n:Nat) (a:aj5) (b:aj5) (k:Int):Option ((Int) ⊕ (((Bool) ⊕ (Unit)))) :=
 bif (decide (k < (a.Sets.length:Int))) then
  gd ((0≤k∧k < (a.Sets.length:Int))∧(0≤k∧k < (b.Sets.length:Int))) <|
  (bw4 n (gt a.Sets (Int.toNat k)) (gt b.Sets (Int.toNat k))).bind fun r1 =>
  bif (!r1) then
   some (.inr (.inl false))
  else
   some (.inl (jd .i64 (k+1)))
 else
  some (.inr (.inr ()))
def bki (n:Nat) (a:aj5) (b:aj5):Option Bool :=
 bif (if (if (if (if (a.Serial != b.Serial)=true then true else (a.Cyls != b.Cyls))=true then true else (a.Heads != b.Heads))=true then true else (a.Size != b.Size))=true then true else ((a.Sets.length:Int) != (b.Sets.length:Int))) then
  some false
 else
  (ajk (fun (x:Int)=>bqn n a b x) n 0).bind fun y8 =>
  match y8 with
  | .inl vv =>
   some vv
  | .inr vv =>
   bkf n
def dyz (n:Nat):Go.AE.Fn:=mkFn (A:=aj5×aj5) (R:=Bool) 19 [(true,[.str,.int .i64,.int .i64,.int .i64,.slice 41]),(true,[.str,.int .i64,.int .i64,.int .i64,.slice 41])] false (fun xs=>((⟨(cg (xs.getD 0 []) 0).toStr,(cg (xs.getD 0 []) 1).toInt,(cg (xs.getD 0 []) 2).toInt,(cg (xs.getD 0 []) 3).toInt,((cg (xs.getD 0 []) 4).toSl.map aq3)⟩:aj5),(⟨(cg (xs.getD 1 []) 0).toStr,(cg (xs.getD 1 []) 1).toInt,(cg (xs.getD 1 []) 2).toInt,(cg (xs.getD 1 []) 3).toInt,((cg (xs.getD 1 []) 4).toSl.map aq3)⟩:aj5))) (fun a=>[[.str a.1.Serial,.int a.1.Cyls,.int a.1.Heads,.int a.1.Size,.slice (List.map aj3 a.1.Sets)],[.str a.2.Serial,.int a.2.Cyls,.int a.2.Heads,.int a.2.Size,.slice (List.map aj3 a.2.Sets)]]) (fun a=>bki n a.1 a.2) (fun r=>[.c .bool (.bool r)]) (fun r=>[])
theorem fz9 (n:Nat):aj2 je (dyz n):=by
 have hΓ:=g1 (ew9 n) (@g0 (aj2 je))
 refine ajb (Tryz.f19.body.getD .skip) h00 Tryz.func19 rfl Tryz.call19 (by decide) (by intro _ r;exact ⟨rfl,by simp⟩) ?_
 rintro ⟨a,b⟩ r H
 try dsimp only at H
 unfold bki at H
 simp only [Tryz.f19,jt]
 refine rA ?_
 refine jr fun K2 hK2=>?_
 refine rA ?_
 refine cnd H (fun h4 H=>?_) (fun h4 H=>?_)
 ·refine rA ?_
  refine js ?_
  refine lf ?_
  obtain rfl:=Option.some.inj H
  exact rt []
 refine jq ?_
 refine hK2 _ ?_
 refine j4 (fun (x:Unit)=>dwn) (fun x=>bkf n=some r) ?_ ?_
 ·refine rA ?_
  refine jC ?_
  obtain ⟨y8,hy8,Ho8⟩:=bind_some H
  refine j3 _ (fun x=>dq2 a b x) hy8 (wb [some 32,some 48]) ?_
  rintro k z8 H
  try dsimp only at H
  unfold bqn at H
  refine Sm.st (dq2.eq_1 ..) ?_
  refine jr fun K9 hK9=>?_
  refine rA ?_
  refine cnd H (fun h11 H=>?_) (fun h11 H=>?_)
  ·refine jq ?_
   refine hK9 _ ?_
   refine jr fun K12 hK12=>?_
   refine jC ?_
   obtain ⟨⟨hg16,hg17⟩,H⟩:=aj7 H
   obtain ⟨r1,hr1,H⟩:=bind_some H
   have q:=aI @cyl.eq_1 hr1
   refine rDq ?_
   refine cnd H (fun h14 H=>?_) (fun h14 H=>?_)
   ·refine rA ?_
    refine js ?_
    refine lf ?_
    refine lx H fun hyy=>?_
    subst hyy
    have H:=Ho8
    try dsimp only at H
    refine lf ?_
    obtain rfl:=Option.some.inj H
    exact rt []
   refine jq ?_
   refine hK12 _ ?_
   refine eA ?_
   refine lf ?_
   exact nx H (wb [some 9002,some 9003])
  refine Jb ?_
  refine lf ?_
  refine lx H fun hyy=>?_
  subst hyy
  have H:=Ho8
  try dsimp only at H
  refine lf ?_
  exact ⟨(),H,wb []⟩
 rintro ⟨⟩ H
 try dsimp only at H
 unfold bkf at H
 refine Sm.st (dwn.eq_1 ..) ?_
 refine rA ?_
 refine js ?_
 refine lf ?_
 obtain rfl:=Option.some.inj H
 exact rt []
abbrev cw4 (v:aj5) (k:Int):S:=stB [(1,.box 9002 0),(2,.c (.int .i64) (.int k))] [(0,.wob),(9002,.box [.c .str (.str v.Serial),.c (.int .i64) (.int v.Cyls),.c (.int .i64) (.int v.Heads),.c (.int .i64) (.int v.Size),.rg 0 (.slice 41) (.slice (List.map aj3 v.Sets))])]
def bjj (n:Nat) (v:aj5) (k:Int):Option ((Int) ⊕ ((Unit))) :=
 some (.inl (jd .i64 (k+1)))
abbrev cw9 (v:aj5) (k:Int):S:=stB [(1,.box 9003 0),(2,.c (.int .i64) (.int k))] [(0,.wob),(9003,.box [.c .str (.str v.Serial),.c (.int .i64) (.int v.Cyls),.c (.int .i64) (.int v.Heads),.c (.int .i64) (.int v.Size),.rg 0 (.slice 41) (.slice (List.map aj3 v.Sets))])]
def bjc (n:Nat) (v:aj5) (k:Int):Option ((Int) ⊕ ((Unit))) :=
 gd ((0≤k∧k < (v.Sets.length:Int))) <|
 bjj n v k
abbrev cqz (v:aj5) (k:Int) (i:Int):S:=stB [(1,.box 9005 0),(2,.c (.int .i64) (.int k)),(3,.c (.int .i64) (.int i))] [(0,.wob),(9005,.box [.c .str (.str v.Serial),.c (.int .i64) (.int v.Cyls),.c (.int .i64) (.int v.Heads),.c (.int .i64) (.int v.Size),.rg 0 (.slice 41) (.slice (List.map aj3 v.Sets))])]
def az1 (n:Nat) (v:aj5) (k:Int) (i:Int):Option ((Int) ⊕ ((Unit))) :=
 gd ((0≤k∧k < (v.Sets.length:Int))) <|
 bif (decide (i < (((gt v.Sets (Int.toNat k)).Extents).length:Int))) then
  gd ((0≤k∧k < (v.Sets.length:Int))∧(0≤i∧i < (((gt v.Sets (Int.toNat k)).Extents).length:Int))) <|
  some (.inl (jd .i64 (i+1)))
 else
  some (.inr ())
abbrev cqx (v:aj5) (k:Int):S:=stB [(1,.box 9001 0),(2,.c (.int .i64) (.int k))] [(0,.wob),(9001,.box [.c .str (.str v.Serial),.c (.int .i64) (.int v.Cyls),.c (.int .i64) (.int v.Heads),.c (.int .i64) (.int v.Size),.rg 0 (.slice 41) (.slice (List.map aj3 v.Sets))])]
def ak8 (n:Nat) (v:aj5) (k:Int):Option ((Int) ⊕ ((Unit))) :=
 bif (decide (k < (v.Sets.length:Int))) then
  (ajk (fun (x:Int)=>az1 n v k x) n 0).bind fun y9 =>
  bjc n v k
 else
  some (.inr ())
def bqx (n:Nat) (v:aj5):Option Unit :=
 (ajk (fun (x:Int)=>ak8 n v x) n 0).bind fun y3 =>
 some ()
theorem ew3 (n:Nat) (v:aj5) (r:Unit) (H:bqx n v=some r):aqg je 27 [.ref (.agg [.c .str (.str v.Serial),.c (.int .i64) (.int v.Cyls),.c (.int .i64) (.int v.Heads),.c (.int .i64) (.int v.Size),.rg 0 (.slice 41) (.slice (List.map aj3 v.Sets))])] [.reg] [] [.wob]:=by
 have hΓ:=@g0 (aj2 je)
 refine aq4 (Tryz.f27.body.getD .skip) h00 Tryz.func27 rfl Tryz.call27 (Nat.le_of_ble_eq_true rfl) (Nat.le_of_ble_eq_true rfl) ?_
 unfold bqx at H
 simp only [Tryz.f27,jt]
 refine rA ?_
 refine rA ?_
 refine jC ?_
 obtain ⟨y3,hy3,Ho3⟩:=bind_some H
 refine j3 _ (fun x=>cqx v x) hy3 (wb [some 0,some 16]) ?_
 rintro k z3 H
 try dsimp only at H
 unfold ak8 at H
 refine Sm.st (cqx.eq_1 ..) ?_
 refine jr fun K4 hK4=>?_
 refine sX fun K5 hK5=>?_
 iterate 3 refine oX ?_
 refine oE aya ?_
 refine oX ?_
 refine hK5 _ ?_
 refine cnd H (fun h6 H=>?_) (fun h6 H=>?_)
 ·refine jq ?_
  refine hK4 _ ?_
  refine j4 (fun (x:Unit)=>cw4 v k) (fun x=>bjj n v k=some z3) ?_ ?_
  ·refine jC ?_
   refine j4 (fun (x:Unit)=>cw9 v k) (fun x=>bjc n v k=some z3) ?_ ?_
   ·refine rA ?_
    refine jC ?_
    obtain ⟨y9,hy9,Ho9⟩:=bind_some H
    refine j3 _ (fun x=>cqz v k x) hy9 (wb [some 0,some 9001]) ?_
    rintro i z9 H
    try dsimp only at H
    unfold az1 at H
    refine Sm.st (cqz.eq_1 ..) ?_
    refine jr fun K10 hK10=>?_
    refine sX fun K11 hK11=>?_
    obtain ⟨hg12,H⟩:=aj7 H
    iterate 4 refine oX ?_
    refine oE aya ?_
    refine oE aya ?_
    refine oE aya ?_
    refine oE aya ?_
    refine oX ?_
    refine hK11 _ ?_
    refine cnd H (fun h13 H=>?_) (fun h13 H=>?_)
    ·refine jq ?_
     refine hK10 _ ?_
     refine jr fun K14 hK14=>?_
     refine jC ?_
     refine eX ?_
     obtain ⟨⟨hg15,hg16⟩,H⟩:=aj7 H
     iterate 3 refine oX ?_
     refine oE aya ?_
     refine oE aya ?_
     refine oE aya ?_
     iterate 2 refine oX ?_
     refine oE aya ?_
     refine oE aya ?_
     refine gyx ?_
     refine hK14 _ ?_
     refine eA ?_
     refine lf ?_
     exact nx H (wb [some 0,some 9005])
    refine Jb ?_
    refine lf ?_
    refine lx H fun hyy=>?_
    subst hyy
    have H:=Ho9
    try dsimp only at H
    refine lf ?_
    exact ⟨(),H,wb [some 0,some 9005]⟩
   rintro ⟨⟩ H
   try dsimp only at H
   unfold bjc at H
   refine Sm.st (cw9.eq_1 ..) ?_
   refine eX ?_
   obtain ⟨hg7,H⟩:=aj7 H
   iterate 3 refine oX ?_
   refine oE aya ?_
   refine oE aya ?_
   refine oE aya ?_
   refine gyx ?_
   refine lf ?_
   exact ⟨(),H,wb [some 0,some 9003]⟩
  rintro ⟨⟩ H
  try dsimp only at H
  unfold bjj at H
  refine Sm.st (cw4.eq_1 ..) ?_
  refine eA ?_
  refine lf ?_
  exact nx H (wb [some 0,some 9002])
 refine Jb ?_
 refine lf ?_
 refine lx H fun hyy=>?_
 subst hyy
 have H:=Ho3
 try dsimp only at H
 refine lf ?_
 obtain rfl:=Option.some.inj H
 exact rtM [some 0]
end Go.Proofs.YtijnkhcfondehaaGreatDoor
