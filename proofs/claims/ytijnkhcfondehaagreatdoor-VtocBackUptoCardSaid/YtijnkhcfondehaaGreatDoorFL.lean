/- Text. -/
import Derived.Test.YtijnkhcfondehaaGreatDoorML
set_option maxHeartbeats 8000000
set_option linter.unusedVariables false
set_option linter.unusedSimpArgs false
set_option maxRecDepth 100000
open Go.IntKind renaming wrap→jb
open _root_.Option renaming getD→jz
open Go.AE.Sm renaming cut→Jp,block→jN,loopB→Jl,seqK→js,skip→jy,ret→jC,exit→Js
open Go.Proofs.Tryz renaming prog→jd
namespace Go.Proofs.YtijnkhcfondehaaGreatDoor
open Go.AE
abbrev czk (t:List TRec):S:=stB [(0,.c (.slice 87) (.slice (List.map aq1 t)))] []
def bkq (n:Nat) (t:List TRec):Option Bool :=
 (bz8 n t).bind fun r1 =>
 some (decide (r1≤2048))
abbrev cze (t:List TRec) (v6:Int) (v7:Int):S:=stB [(0,.c (.slice 87) (.slice (List.map aq1 t))),(5,.c (.slice 87) (.slice (List.map aq1 t))),(6,.c (.int .i64) (.int v6)),(7,.c (.int .i64) (.int v7))] []
def ayy (n:Nat) (t:List TRec) (v6:Int) (v7:Int):Option ((Int) ⊕ (((Bool) ⊕ (Unit)))) :=
 bif (decide (v7 < v6)) then
  gd ((0≤v7∧v7 < (t.length:Int))) <|
  (cje n (gt t (Int.toNat v7))).bind fun r2 =>
  gd ((((!(!r2)) && (decide (v7 > 0)))=true→(0≤(jb .i64 (v7 - 1))∧(jb .i64 (v7 - 1)) < (t.length:Int)))) <|
  bif (if (!r2)=true then true else (if (decide (v7 > 0))=true then (decide (((gt t (Int.toNat v7)).R)≤((gt t (Int.toNat (jb .i64 (v7 - 1)))).R))) else false)) then
   some (.inr (.inl false))
  else
   some (.inl (jb .i64 (v7+1)))
 else
  some (.inr (.inr ()))
def bzm (n:Nat) (t:List TRec):Option Bool :=
 (ajo (fun (x:Int)=>ayy n t (t.length:Int) x) n 0).bind fun y4 =>
 match y4 with
 | .inl vv =>
  some vv
 | .inr vv =>
  bkq n t
def bko (n:Nat):Go.AE.Fn:=mkFn (A:=(List TRec)) (R:=Bool) 147 [(false,[.slice 87])] false (fun xs=>((cg (xs.getD 0 []) 0).toSl.map byz)) (fun a=>[[.slice (List.map aq1 a)]]) (fun a=>bzm n a) (fun r=>[.c .bool (.bool r)]) (fun r=>[])
theorem ek8 (n:Nat):aj1 jd (bko n):=by
 have hΓ:=g1 (eke n) (g1 (fq7 n) (@g0 (aj1 jd)));have qe:=aI @dqs.eq_1 @bzn.eq_1;refine cF (Tryz.f147.body.getD .skip) Tryz.func147 rfl Tryz.call147 ?_;rintro t r H
 try dsimp only at H
 unfold bzm at H;simp only [Tryz.f147,jz];refine rA ?_;refine Jp (fun (x:Unit)=>czk t) (fun x=>bkq n t=some r) ?_ ?_
 ·refine rA ?_;refine jN ?_;obtain ⟨y4,hy4,Ho4⟩:=bind_some H;refine Jl _ (fun x=>cze t (t.length:Int) x) hy4 (wb []) ?_;rintro v7 z4 H
  try dsimp only at H
  unfold ayy at H;refine Sm.st (cze.eq_1 ..) ?_;refine rA ?_;refine js fun K6 hK6=>?_;refine cnd H (fun h7 H=>?_) (fun h7 H=>?_)
  ·refine jy (hK6 _ (js fun K8 hK8=>jN ?_));obtain ⟨hg14,H⟩:=aj8 H;refine rA ?_;obtain ⟨r2,hr2,H⟩:=bind_some H;obtain ⟨hg13,H⟩:=aj8 H;have q:=aI qe hr2;refine rDq ?_;refine cnd H (fun h11 H=>?_) (fun h11 H=>?_)
   ·refine rA ?_;refine jC (lf ?_);refine lx H fun hyy=>?_;subst hyy;have H:=Ho4
    try dsimp only at H
    refine lf ?_;obtain rfl:=sI H;exact rt []
   refine jy (hK8 _ ?_);refine eA ?_;refine lf ?_;exact nx H (wb [])
  refine Js (lf ?_);refine lx H fun hyy=>?_;subst hyy;have H:=Ho4
  try dsimp only at H
  refine lf ?_;exact ⟨(),H,wb []⟩
 rintro ⟨⟩ H
 try dsimp only at H
 unfold bkq at H;refine Sm.st (czk.eq_1 ..) ?_;obtain ⟨r1,hr1,H⟩:=bind_some H;have q:=aI qe hr1;refine rAq ?_;refine jC (lf ?_);obtain rfl:=sI H;exact rt []
def cw7 (n:Nat) (a:List TRec) (b:List TRec):Option Bool :=
 (bzm n a).bind fun r1 =>
 bif r1 then
  gd (r1=true) <|
  (aqq n a b).bind fun r2 =>
  some r2
 else
  some false
def ejv (n:Nat):Go.AE.Fn:=mkFn (A:=(List TRec)×(List TRec)) (R:=Bool) 104 [(false,[.slice 87]),(false,[.slice 87])] false (fun xs=>(((cg (xs.getD 0 []) 0).toSl.map byz),((cg (xs.getD 1 []) 0).toSl.map byz))) (fun a=>[[.slice (List.map aq1 a.1)],[.slice (List.map aq1 a.2)]]) (fun a=>cw7 n a.1 a.2) (fun r=>[.c .bool (.bool r)]) (fun r=>[])
theorem fy2 (n:Nat):aj1 jd (ejv n):=by
 have hΓ:=g1 (ek8 n) (@g0 (aj1 jd));refine cF (Tryz.f104.body.getD .skip) Tryz.func104 rfl Tryz.call104 ?_;rintro ⟨a,b⟩ r H
 try dsimp only at H
 unfold cw7 at H;simp only [Tryz.f104,jz];refine rA ?_;refine sX fun K2 hK2=>?_;obtain ⟨r1,hr1,H⟩:=bind_some H;have q:=aI @bko.eq_1 hr1
 iterate 5 refine oXq ?_
 refine bwe H (fun hs3 H=>?_) (fun hs3 H=>?_)
 ·try simp only [z,seval,hr1] at hs3
  obtain ⟨hg4,H⟩:=aj8 H;obtain ⟨r2,hr2,H⟩:=bind_some H;have q:=aI @bko.eq_1 (aI hr1 (aI hs3 hr2));refine oTM (bkv n _ _ r2 hr2) [] [] ?_;refine oPl ?_;refine oXq ?_;refine hK2 _ (jC (lf ?_));obtain rfl:=sI H;exact rt []
 try simp only [z,seval,hr1] at hs3
 have q:=aI @bko.eq_1 (aI hr1 hs3);refine oFq ?_;refine oPr ?_;refine oXq ?_;refine hK2 _ (jC (lf ?_));obtain rfl:=sI H;exact rt []
abbrev ay6:S:=stB [] []
def aw3 (n:Nat):Option Bool :=
 some true
abbrev ayb (s2:List (List TRec)) (s1:List (List TRec)) (v16:Int) (v17:Int):S:=stB [(1,.c (.slice 84) (.slice (List.map aqa s2))),(2,.fnv 104 []),(15,.c (.slice 84) (.slice (List.map aqa s1))),(16,.c (.int .i64) (.int v16)),(17,.c (.int .i64) (.int v17))] []
def aqb (n:Nat) (s2:List (List TRec)) (s1:List (List TRec)) (v16:Int) (v17:Int):Option ((Int) ⊕ (((Bool) ⊕ (Unit)))) :=
 bif (decide (v17 < v16)) then
  gd ((0≤v17∧v17 < (s1.length:Int))) <|
  gd ((0≤v17∧v17 < (s2.length:Int))) <|
  (cw7 n (gt s1 (Int.toNat v17)) (gt s2 (Int.toNat v17))).bind fun r1 =>
  bif (!r1) then
   some (.inr (.inl false))
  else
   some (.inl (jb .i64 (v17+1)))
 else
  some (.inr (.inr ()))
def aqw (n:Nat) (s1:List (List TRec)) (s2:List (List TRec)):Option Bool :=
 bif ((s1.length:Int) != (s2.length:Int)) then
  some false
 else
  (ajo (fun (x:Int)=>aqb n s2 s1 (s1.length:Int) x) n 0).bind fun y8 =>
  match y8 with
  | .inl vv =>
   some vv
  | .inr vv =>
   aw3 n
theorem by2 (n:Nat) (s1:List (List TRec)) (s2:List (List TRec)) (r:Bool) (H:aqw n s1 s2=some r):aw8 jd 103 [.dat (false,[.slice 84]) [.slice (List.map aqa s1)],.dat (false,[.slice 84]) [.slice (List.map aqa s2)],.ref (.fnv 104 [])] [] [.c .bool (.bool r)] []:=by
 have hΓ:=g1 (fy2 n) (@g0 (aj1 jd));refine aw9 (Tryz.f103.body.getD .skip) h00 Tryz.func103 rfl Tryz.call103 (Nat.le_of_ble_eq_true rfl) (Nat.le_of_ble_eq_true rfl) ?_;unfold aqw at H;simp only [Tryz.f103,jz];refine rA ?_;refine js fun K2 hK2=>?_;refine rA ?_;refine cnd H (fun h4 H=>?_) (fun h4 H=>?_)
 ·refine rA ?_;refine jC (lf ?_);obtain rfl:=sI H;exact rtM []
 refine jy (hK2 _ ?_);refine Jp (fun (x:Unit)=>ay6) (fun x=>aw3 n=some r) ?_ ?_
 ·refine rA ?_;refine jN ?_;obtain ⟨y8,hy8,Ho8⟩:=bind_some H;refine Jl _ (fun x=>ayb s2 s1 (s1.length:Int) x) hy8 (wb []) ?_;rintro v17 z8 H
  try dsimp only at H
  unfold aqb at H;refine Sm.st (ayb.eq_1 ..) ?_;refine rA ?_;refine js fun K10 hK10=>?_;refine cnd H (fun h11 H=>?_) (fun h11 H=>?_)
  ·refine jy (hK10 _ (js fun K12 hK12=>jN ?_));obtain ⟨hg19,H⟩:=aj8 H;refine rA ?_;obtain ⟨hg18,H⟩:=aj8 H;refine rA ?_;obtain ⟨r1,hr1,H⟩:=bind_some H;have q:=aI @ejv.eq_1 hr1;refine rAq ?_;refine cnd H (fun h16 H=>?_) (fun h16 H=>?_)
   ·refine rA ?_;refine jC (lf ?_);refine lx H fun hyy=>?_;subst hyy;have H:=Ho8
    try dsimp only at H
    refine lf ?_;obtain rfl:=sI H;exact rtM []
   refine jy (hK12 _ ?_);refine eA ?_;refine lf ?_;exact nx H (wb [])
  refine Js (lf ?_);refine lx H fun hyy=>?_;subst hyy;have H:=Ho8
  try dsimp only at H
  refine lf ?_;exact ⟨(),H,wb []⟩
 rintro ⟨⟩ H
 try dsimp only at H
 unfold aw3 at H;refine Sm.st (ay6.eq_1 ..) ?_;refine rA ?_;refine jC (lf ?_);obtain rfl:=sI H;exact rtM []
abbrev cz6 (l:List (List TRec)) (v:List UInt8) (v_1:Int) (v_2:Int) (v_3:Int) (v_4:List aj5):S:=stB [(0,.c (.slice 84) (.slice (List.map aqa l))),(2,.box 9000 0),(5,.box 9001 0)] [(9000,.box [.c .str (.str []),.c (.int .i64) (.int 0),.c (.int .i64) (.int 0),.c (.int .i64) (.int 0),.nilsl]),(9001,.box [.c .str (.str v),.c (.int .i64) (.int v_1),.c (.int .i64) (.int v_2),.c (.int .i64) (.int v_3),.own 9002 kD 0 v_4.length]),(9002,.row 41 (List.map aj4 v_4))]
def bj3 (n:Nat) (l:List (List TRec)) (v:List UInt8) (v_1:Int) (v_2:Int) (v_3:Int) (v_4:List aj5):Option (aj6×Int) :=
 (bje n (⟨v,v_1,v_2,v_3,v_4⟩:aj6)).bind fun r5 =>
 bif (r5.2 != 0) then
  some ((⟨[],0,0,0,[]⟩:aj6),5)
 else
  gd ((!(r5.2 != 0))=true) <|
  (aqw n l r5.1).bind fun r6 =>
  bif (!r6) then
   some ((⟨[],0,0,0,[]⟩:aj6),5)
  else
   some ((⟨v,v_1,v_2,v_3,v_4⟩:aj6),0)
abbrev cza (l:List (List TRec)) (v_5:List UInt8) (v_6:Int) (v_7:Int) (v_8:Int) (v_10:List aj5) (v52:List (List TRec)) (v53:Int) (v54:Int):S:=stB [(0,.c (.slice 84) (.slice (List.map aqa l))),(2,.box 9011 0),(5,.box 9012 0),(52,.c (.slice 84) (.slice (List.map aqa v52))),(53,.c (.int .i64) (.int v53)),(54,.c (.int .i64) (.int v54))] [(9011,.box [.c .str (.str []),.c (.int .i64) (.int 0),.c (.int .i64) (.int 0),.c (.int .i64) (.int 0),.nilsl]),(9012,.box [.c .str (.str v_5),.c (.int .i64) (.int v_6),.c (.int .i64) (.int v_7),.c (.int .i64) (.int v_8),.own 9013 kD 0 v_10.length]),(9013,.row 41 (List.map aj4 v_10))]
def bw4 (n:Nat) (l:List (List TRec)) (v_5:List UInt8) (v_6:Int) (v_7:Int) (v_8:Int) (v_10:List aj5) (v52:List (List TRec)) (v53:Int) (v54:Int):Option (((List aj5)×Int) ⊕ (((aj6×Int) ⊕ ((List aj5))))) :=
 some (.inl (v_10,(jb .i64 (v54+1))))
abbrev czr (l:List (List TRec)) (v_5:List UInt8) (v_6:Int) (v_7:Int) (v_8:Int) (v52:List (List TRec)) (v53:Int) (v54:Int) (v58:List TRec) (v59:Int) (v_11:List aj5) (v60:Int):S:=stB [(0,.c (.slice 84) (.slice (List.map aqa l))),(2,.box 9017 0),(5,.box 9018 0),(52,.c (.slice 84) (.slice (List.map aqa v52))),(53,.c (.int .i64) (.int v53)),(54,.c (.int .i64) (.int v54)),(58,.c (.slice 87) (.slice (List.map aq1 v58))),(59,.c (.int .i64) (.int v59)),(60,.c (.int .i64) (.int v60))] [(9017,.box [.c .str (.str []),.c (.int .i64) (.int 0),.c (.int .i64) (.int 0),.c (.int .i64) (.int 0),.nilsl]),(9018,.box [.c .str (.str v_5),.c (.int .i64) (.int v_6),.c (.int .i64) (.int v_7),.c (.int .i64) (.int v_8),.own 9019 kD 0 v_11.length]),(9019,.row 41 (List.map aj4 v_11))]
def azr (n:Nat) (l:List (List TRec)) (v_5:List UInt8) (v_6:Int) (v_7:Int) (v_8:Int) (v52:List (List TRec)) (v53:Int) (v54:Int) (v58:List TRec) (v59:Int) (v_11:List aj5) (v60:Int):Option (((List aj5)×Int) ⊕ (((aj6×Int) ⊕ ((List aj5))))) :=
 bif (decide (v60 < v59)) then
  gd ((0≤v60∧v60 < (v58.length:Int))) <|
  (bye n (gt v58 (Int.toNat v60))).bind fun r7 =>
  bif (!r7.2) then
   some (.inr (.inl ((⟨[],0,0,0,[]⟩:aj6),5)))
  else
   gd ((v_11.length+1)≤2147483648) <|
   some (.inl ((v_11 ++ [r7.1]),(jb .i64 (v60+1))))
 else
  some (.inr (.inr v_11))
abbrev czm (l:List (List TRec)) (v_5:List UInt8) (v_6:Int) (v_7:Int) (v_8:Int) (v52:List (List TRec)) (v53:Int) (v_9:List aj5) (v54:Int):S:=stB [(0,.c (.slice 84) (.slice (List.map aqa l))),(2,.box 9008 0),(5,.box 9009 0),(52,.c (.slice 84) (.slice (List.map aqa v52))),(53,.c (.int .i64) (.int v53)),(54,.c (.int .i64) (.int v54))] [(9008,.box [.c .str (.str []),.c (.int .i64) (.int 0),.c (.int .i64) (.int 0),.c (.int .i64) (.int 0),.nilsl]),(9009,.box [.c .str (.str v_5),.c (.int .i64) (.int v_6),.c (.int .i64) (.int v_7),.c (.int .i64) (.int v_8),.own 9010 kD 0 v_9.length]),(9010,.row 41 (List.map aj4 v_9))]
def awx (n:Nat) (l:List (List TRec)) (v_5:List UInt8) (v_6:Int) (v_7:Int) (v_8:Int) (v52:List (List TRec)) (v53:Int) (v_9:List aj5) (v54:Int):Option (((List aj5)×Int) ⊕ (((aj6×Int) ⊕ ((List aj5))))) :=
 bif (decide (v54 < v53)) then
  gd ((0≤v54∧v54 < (v52.length:Int))) <|
  (ajo (fun (x:(List aj5)×Int)=>azr n l v_5 v_6 v_7 v_8 v52 v53 v54 (gt v52 (Int.toNat v54)) ((gt v52 (Int.toNat v54)).length:Int) x.1 x.2) n (v_9,0)).bind fun y25 =>
  match y25 with
  | .inl vv =>
   some (.inr (.inl (vv.1,vv.2)))
  | .inr vv =>
   bw4 n l v_5 v_6 v_7 v_8 vv v52 v53 v54
 else
  some (.inr (.inr v_9))
def azt (n:Nat) (l:List (List TRec)):Option (aj6×Int) :=
 gd (((!((l.length:Int) == 0))=true→0 < (l.length:Int))∧((!(if ((l.length:Int) == 0)=true then true else (((gt l 0).length:Int) != 1)))=true→0 < (l.length:Int))∧((!(if ((l.length:Int) == 0)=true then true else (((gt l 0).length:Int) != 1)))=true→0 < ((gt l 0).length:Int))) <|
 bif (if (if ((l.length:Int) == 0)=true then true else (((gt l 0).length:Int) != 1))=true then true else ((((gt (gt l 0) 0).Data).length:Int) != 80)) then
  some ((⟨[],0,0,0,[]⟩:aj6),5)
 else
  gd (0 < (l.length:Int)∧0 < ((gt l 0).length:Int)) <|
  gd ((0≤4∧4≤10∧10≤(((gt (gt l 0) 0).Data).length:Int))) <|
  (bqm n (List.drop 4 (List.take 10 ((gt (gt l 0) 0).Data)))).bind fun r1 =>
  (az7 n ((gt (gt l 0) 0).Data) 10).bind fun r2 =>
  (az7 n ((gt (gt l 0) 0).Data) 12).bind fun r3 =>
  (az7 n ((gt (gt l 0) 0).Data) 14).bind fun r4 =>
  gd ((0≤1∧1≤(l.length:Int)∧(l.length:Int)≤(l.length:Int))) <|
  (ajo (fun (x:(List aj5)×Int)=>awx n l r1 r2 r3 r4 (List.drop 1 l) ((List.drop 1 l).length:Int) x.1 x.2) n ([],0)).bind fun y19 =>
  match y19 with
  | .inl vv =>
   some (vv.1,vv.2)
  | .inr vv =>
   bj3 n l r1 r2 r3 r4 vv
def dqh (n:Nat):Go.AE.Fn:=mkFn (A:=(List (List TRec))) (R:=aj6×Int) 51 [(false,[.slice 84])] true (fun xs=>((cg (xs.getD 0 []) 0).toSl.map dy8)) (fun a=>[[.slice (List.map aqa a)]]) (fun a=>azt n a) (fun r=>[.agg (cV r.1),.c (.int .i64) (.int r.2)]) (fun r=>[])
theorem eka (n:Nat):aj1 jd (dqh n):=by
 have hΓ:=g1 (dqv n) (g1 (dyx n) (g1 (fja n) (g1 (dqi n) (@g0 (aj1 jd)))));have qe:=aI @bjo.eq_1 (aI @djm.eq_1 (aI @dkr.eq_1 @cqq.eq_1));refine ajb (Tryz.f51.body.getD .skip) h00 Tryz.func51 rfl Tryz.call51 (by decide) (by intro h;cases h) ?_;rintro l r H
 try dsimp only at H
 unfold azt at H;simp only [Tryz.f51,jz];refine rA ?_;refine js fun K2 hK2=>?_;obtain ⟨⟨hg43,hg44,hg45⟩,H⟩:=aj8 H;refine rA ?_;refine cnd H (fun h4 H=>?_) (fun h4 H=>?_)
 ·refine rA ?_;refine jC (lf ?_);obtain rfl:=sI H;exact rt []
 refine jy (hK2 _ ?_);obtain ⟨⟨hg41,hg42⟩,H⟩:=aj8 H;refine rA ?_;obtain ⟨hg40,H⟩:=aj8 H;obtain ⟨r1,hr1,H⟩:=bind_some H;obtain ⟨r2,hr2,H⟩:=bind_some H;obtain ⟨r3,hr3,H⟩:=bind_some H;obtain ⟨r4,hr4,H⟩:=bind_some H;have q:=aI qe (aI hr1 (aI hr2 (aI hr3 hr4)));refine rAq ?_;refine Jp (fun (x:(List UInt8)×Int×Int×Int×(List aj5))=>cz6 l x.1 x.2.1 x.2.2.1 x.2.2.2.1 x.2.2.2.2) (fun x=>bj3 n l x.1 x.2.1 x.2.2.1 x.2.2.2.1 x.2.2.2.2=some r) ?_ ?_
 ·obtain ⟨hg39,H⟩:=aj8 H;refine rA ?_;refine jN ?_;obtain ⟨y19,hy19,Ho19⟩:=bind_some H;refine Jl _ (fun x=>czm l r1 r2 r3 r4 (List.drop 1 l) ((List.drop 1 l).length:Int) x.1 x.2) hy19 (wb [some 32,some 80,none]) ?_;rintro ⟨v_9,v54⟩ z19 H
  try dsimp only at H
  unfold awx at H;refine Sm.st (czm.eq_1 ..) ?_;refine rA ?_;refine js fun K21 hK21=>?_;refine cnd H (fun h22 H=>?_) (fun h22 H=>?_)
  ·refine jy (hK21 _ ?_);refine Jp (fun (x:(List aj5))=>cza l r1 r2 r3 r4 x (List.drop 1 l) ((List.drop 1 l).length:Int) v54) (fun x=>bw4 n l r1 r2 r3 r4 x (List.drop 1 l) ((List.drop 1 l).length:Int) v54=some z19) ?_ ?_
   ·refine jN ?_;obtain ⟨hg38,H⟩:=aj8 H;refine rA ?_;refine rA ?_;refine jN ?_;obtain ⟨y25,hy25,Ho25⟩:=bind_some H;refine Jl _ (fun x=>czr l r1 r2 r3 r4 (List.drop 1 l) ((List.drop 1 l).length:Int) v54 (gt (List.drop 1 l) (Int.toNat v54)) ((gt (List.drop 1 l) (Int.toNat v54)).length:Int) x.1 x.2) hy25 (wb [some 9008,some 9009,some 9010]) ?_;rintro ⟨v_11,v60⟩ z25 H
    try dsimp only at H
    unfold azr at H;refine Sm.st (czr.eq_1 ..) ?_;refine rA ?_;refine js fun K27 hK27=>?_;refine cnd H (fun h28 H=>?_) (fun h28 H=>?_)
    ·refine jy (hK27 _ (js fun K29 hK29=>jN ?_));obtain ⟨hg37,H⟩:=aj8 H;refine rA ?_;obtain ⟨r7,hr7,H⟩:=bind_some H;have q:=aI qe hr7;refine rAq ?_;refine js fun K32 hK32=>?_;refine rA ?_;refine cnd H (fun h34 H=>?_) (fun h34 H=>?_)
     ·refine rA ?_;refine jC (lf ?_);refine lx H fun hyy=>?_;subst hyy;have H:=Ho25
      try dsimp only at H
      refine lf ?_;refine lx H fun hyy=>?_;subst hyy;have H:=Ho19
      try dsimp only at H
      refine lf ?_;obtain rfl:=sI H;exact rt []
     refine jy (hK32 _ ?_);obtain ⟨hg36,H⟩:=aj8 H;refine eA ?_;refine hK29 _ ?_;refine eA ?_;refine lf ?_;exact nx H (wb [some 9017,some 9018,some 1216])
    refine Js (lf ?_);refine lx H fun hyy=>?_;subst hyy;have H:=Ho25
    try dsimp only at H
    refine lf ?_;exact ⟨_,H,wb [some 9017,some 9018,some 9019]⟩
   rintro v_10 H
   try dsimp only at H
   unfold bw4 at H;refine Sm.st (cza.eq_1 ..) ?_;refine eA ?_;refine lf ?_;exact nx H (wb [some 9011,some 9012,some 9013])
  refine Js (lf ?_);refine lx H fun hyy=>?_;subst hyy;have H:=Ho19
  try dsimp only at H
  refine lf ?_;exact ⟨(r1,r2,r3,r4,v_9),H,wb [some 9008,some 9009,some 9010]⟩
 rintro ⟨v,v_1,v_2,v_3,v_4⟩ H
 try dsimp only at H
 unfold bj3 at H;refine Sm.st (cz6.eq_1 ..) ?_;obtain ⟨r5,hr5,H⟩:=bind_some H;have q:=aI qe hr5;refine rAq ?_;refine js fun K9 hK9=>?_;refine sX fun K10 hK10=>?_
 iterate 5 refine oX ?_
 refine bwe H (fun hs11 H=>?_) (fun hs11 H=>?_)
 ·have q:=hs11;refine oFq ?_;refine oFq ?_;refine oPl ?_;refine hK10 _ ?_;refine cndT ?_;refine rA ?_;refine jC (lf ?_);obtain rfl:=sI H;exact rt []
 obtain ⟨hg14,H⟩:=aj8 H;obtain ⟨r6,hr6,H⟩:=bind_some H;have q:=aI hs11 hr6;refine oTM (by2 n _ _ r6 hr6) [] [] ?_;refine oTG ?_;refine oPr ?_;refine hK10 _ ?_;refine cnd H (fun h15 H=>?_) (fun h15 H=>?_)
 ·refine rA ?_;refine jC (lf ?_);obtain rfl:=sI H;exact rt []
 refine jy (hK9 _ ?_);refine rA ?_;refine jC (lf ?_);obtain rfl:=sI H;exact rt []
def byv (n:Nat) (v:aj6) (a:TAct):Option (aj6×Int) :=
 bif ((Int.tmod a.Kind 6) == 0) then
  (bjh n v (⟨a.Name,a.Dcb,[(⟨1,1⟩:aj0)],7⟩:aj5) a.N).bind fun r1 =>
  some (r1.1,r1.2)
 else
  bif ((Int.tmod a.Kind 6) == 1) then
   (bk5 n v a.Name a.N).bind fun r2 =>
   some (r2.1,r2.2)
  else
   bif ((Int.tmod a.Kind 6) == 2) then
    (bwq n v a.Name a.N).bind fun r3 =>
    some (r3.1,r3.2)
   else
    bif ((Int.tmod a.Kind 6) == 3) then
     (bzz n v a.Name a.Dcb a.N).bind fun r4 =>
     some (r4.1,r4.2)
    else
     bif ((Int.tmod a.Kind 6) == 4) then
      (bwo n v a.Name).bind fun r5 =>
      some (r5.1,r5.2)
     else
      (bk6 n v a.Name a.To).bind fun r6 =>
      some (r6.1,r6.2)
def ej8 (n:Nat):Go.AE.Fn:=mkFn (A:=aj6×TAct) (R:=aj6×Int) 36 [(true,[.str,.int .i64,.int .i64,.int .i64,.slice 41]),(true,[.int .u8,.str,.str,.int .i64,.int .i64,.bool,.bool,.int .i64,.int .i64,.int .i64,.int .i64,.int .i64])] true (fun xs=>((⟨(cg (xs.getD 0 []) 0).toStr,(cg (xs.getD 0 []) 1).toInt,(cg (xs.getD 0 []) 2).toInt,(cg (xs.getD 0 []) 3).toInt,((cg (xs.getD 0 []) 4).toSl.map akb)⟩:aj6),(⟨(cg (xs.getD 1 []) 0).toInt,(cg (xs.getD 1 []) 1).toStr,(cg (xs.getD 1 []) 2).toStr,(⟨(cg (xs.getD 1 []) 3).toInt,(cg (xs.getD 1 []) 4).toInt,(cg (xs.getD 1 []) 5).toBool,(cg (xs.getD 1 []) 6).toBool,(cg (xs.getD 1 []) 7).toInt,(cg (xs.getD 1 []) 8).toInt,(cg (xs.getD 1 []) 9).toInt,(cg (xs.getD 1 []) 10).toInt⟩:TDcb),(cg (xs.getD 1 []) 11).toInt⟩:TAct))) (fun a=>[[.str a.1.Serial,.int a.1.Cyls,.int a.1.Heads,.int a.1.Size,.slice (List.map aj4 a.1.Sets)],[.int a.2.Kind,.str a.2.Name,.str a.2.To,.int a.2.Dcb.Org,.int a.2.Dcb.Format,.bool a.2.Dcb.Blocked,.bool a.2.Dcb.Asa,.int a.2.Dcb.Lrecl,.int a.2.Dcb.Blksize,.int a.2.Dcb.KeyLen,.int a.2.Dcb.KeyPos,.int a.2.N]]) (fun a=>byv n a.1 a.2) (fun r=>[.agg (cV r.1),.c (.int .i64) (.int r.2)]) (fun r=>[])
theorem fyl (n:Nat):aj1 jd (ej8 n):=by
 have hΓ:=g1 (dq9 n) (g1 (eza n) (g1 (ewr n) (g1 (ek4 n) (g1 (ewe n) (g1 (ez8 n) (@g0 (aj1 jd)))))));have qe:=aI @cqp.eq_1 (aI @dw5.eq_1 (aI @cy9.eq_1 (aI @dw4.eq_1 (aI @cyx.eq_1 @dqf.eq_1))));refine ajb (Tryz.f36.body.getD .skip) h00 Tryz.func36 rfl Tryz.call36 (by decide) (by intro h;cases h) ?_;rintro ⟨v,a⟩ r H
 try dsimp only at H
 unfold byv at H;simp only [Tryz.f36,jz];refine rA ?_;refine js fun K2 hK2=>?_;refine rA ?_;refine jN ?_;refine rA ?_;refine cnd H (fun h5 H=>?_) (fun h5 H=>?_)
 ·obtain ⟨r1,hr1,H⟩:=bind_some H;have q:=aI qe hr1;refine rAq ?_;refine jC (lf ?_);obtain rfl:=sI H;exact rt []
 refine rA ?_;refine cnd H (fun h8 H=>?_) (fun h8 H=>?_)
 ·obtain ⟨r2,hr2,H⟩:=bind_some H;have q:=aI qe hr2;refine rAq ?_;refine jC (lf ?_);obtain rfl:=sI H;exact rt []
 refine rA ?_;refine cnd H (fun h11 H=>?_) (fun h11 H=>?_)
 ·obtain ⟨r3,hr3,H⟩:=bind_some H;have q:=aI qe hr3;refine rAq ?_;refine jC (lf ?_);obtain rfl:=sI H;exact rt []
 refine rA ?_;refine cnd H (fun h14 H=>?_) (fun h14 H=>?_)
 ·obtain ⟨r4,hr4,H⟩:=bind_some H;have q:=aI qe hr4;refine rAq ?_;refine jC (lf ?_);obtain rfl:=sI H;exact rt []
 refine rA ?_;refine cnd H (fun h17 H=>?_) (fun h17 H=>?_)
 ·obtain ⟨r5,hr5,H⟩:=bind_some H;have q:=aI qe hr5;refine rAq ?_;refine jC (lf ?_);obtain rfl:=sI H;exact rt []
 refine jy (hK2 _ ?_);obtain ⟨r6,hr6,H⟩:=bind_some H;have q:=aI qe hr6;refine rAq ?_;refine jC (lf ?_);obtain rfl:=sI H;exact rt []
abbrev djb (v:List UInt8) (v_1:Int) (v_2:Int) (v_3:Int) (v_4:List aj5):S:=stB [(4,.box 9000 0),(5,.box 9001 0)] [(9000,.box [.c .str (.str []),.c (.int .i64) (.int 0),.c (.int .i64) (.int 0),.c (.int .i64) (.int 0),.nilsl]),(9001,.box [.c .str (.str v),.c (.int .i64) (.int v_1),.c (.int .i64) (.int v_2),.c (.int .i64) (.int v_3),.c (.slice 41) (.slice (List.map aj4 v_4))])]
def cji (n:Nat) (v:List UInt8) (v_1:Int) (v_2:Int) (v_3:Int) (v_4:List aj5):Option aj6 :=
 some (⟨v,v_1,v_2,v_3,v_4⟩:aj6)
abbrev djd (l:List TAct) (v_10:List UInt8) (v_11:Int) (v_12:Int) (v_13:Int) (v_14:List aj5) (k:Int):S:=stB [(1,.c (.slice 62) (.slice (List.map aw4 l))),(4,.box 9006 0),(5,.box 9007 0),(7,.c (.int .i64) (.int k))] [(9006,.box [.c .str (.str []),.c (.int .i64) (.int 0),.c (.int .i64) (.int 0),.c (.int .i64) (.int 0),.nilsl]),(9007,.box [.c .str (.str v_10),.c (.int .i64) (.int v_11),.c (.int .i64) (.int v_12),.c (.int .i64) (.int v_13),.c (.slice 41) (.slice (List.map aj4 v_14))])]
def azo (n:Nat) (l:List TAct) (v_10:List UInt8) (v_11:Int) (v_12:Int) (v_13:Int) (v_14:List aj5) (k:Int):Option (((List UInt8)×Int×Int×Int×(List aj5)×Int) ⊕ (((aj6) ⊕ ((List UInt8)×Int×Int×Int×(List aj5))))) :=
 some (.inl (v_10,v_11,v_12,v_13,v_14,(jb .i64 (k+1))))
abbrev cyl (l:List TAct) (v_5:List UInt8) (v_6:Int) (v_7:Int) (v_8:Int) (v_9:List aj5) (k:Int):S:=stB [(1,.c (.slice 62) (.slice (List.map aw4 l))),(4,.box 9004 0),(5,.box 9005 0),(7,.c (.int .i64) (.int k))] [(9004,.box [.c .str (.str []),.c (.int .i64) (.int 0),.c (.int .i64) (.int 0),.c (.int .i64) (.int 0),.nilsl]),(9005,.box [.c .str (.str v_5),.c (.int .i64) (.int v_6),.c (.int .i64) (.int v_7),.c (.int .i64) (.int v_8),.c (.slice 41) (.slice (List.map aj4 v_9))])]
def awe (n:Nat) (l:List TAct) (v_5:List UInt8) (v_6:Int) (v_7:Int) (v_8:Int) (v_9:List aj5) (k:Int):Option (((List UInt8)×Int×Int×Int×(List aj5)×Int) ⊕ (((aj6) ⊕ ((List UInt8)×Int×Int×Int×(List aj5))))) :=
 bif (if (decide (k < (l.length:Int)))=true then (decide (k < 40)) else false) then
  gd ((0≤k∧k < (l.length:Int))∧((!(decide ((((gt l (Int.toNat k)).Name).length:Int) > 100)))=true→(0≤k∧k < (l.length:Int)))) <|
  bif (if (decide ((((gt l (Int.toNat k)).Name).length:Int) > 100))=true then true else (decide ((((gt l (Int.toNat k)).To).length:Int) > 100))) then
   some (.inr (.inl (⟨v_5,v_6,v_7,v_8,v_9⟩:aj6)))
  else
   gd ((0≤k∧k < (l.length:Int))) <|
   (byv n (⟨v_5,v_6,v_7,v_8,v_9⟩:aj6) (gt l (Int.toNat k))).bind fun r2 =>
   bif (r2.2 == 0) then
    azo n l r2.1.Serial r2.1.Cyls r2.1.Heads r2.1.Size r2.1.Sets k
   else
    azo n l v_5 v_6 v_7 v_8 v_9 k
 else
  some (.inr (.inr (v_5,v_6,v_7,v_8,v_9)))
def byi (n:Nat) (s:bka) (l:List TAct):Option aj6 :=
 (bzu n s).bind fun r1 =>
 (ajo (fun (x:(List UInt8)×Int×Int×Int×(List aj5)×Int)=>awe n l x.1 x.2.1 x.2.2.1 x.2.2.2.1 x.2.2.2.2.1 x.2.2.2.2.2) n (r1.1.Serial,r1.1.Cyls,r1.1.Heads,r1.1.Size,[],0)).bind fun y5 =>
 match y5 with
 | .inl vv =>
  some vv
 | .inr vv =>
  cji n vv.1 vv.2.1 vv.2.2.1 vv.2.2.2.1 vv.2.2.2.2
def dzs (n:Nat):Go.AE.Fn:=mkFn (A:=bka×(List TAct)) (R:=aj6) 39 [(true,[.int .u8,.int .u8,.int .u8]),(false,[.slice 62])] true (fun xs=>((⟨(cg (xs.getD 0 []) 0).toInt,(cg (xs.getD 0 []) 1).toInt,(cg (xs.getD 0 []) 2).toInt⟩:bka),((cg (xs.getD 1 []) 0).toSl.map cqx))) (fun a=>[[.int a.1.Cyls,.int a.1.Heads,.int a.1.Size],[.slice (List.map aw4 a.2)]]) (fun a=>byi n a.1 a.2) (fun r=>[.agg (cV r)]) (fun r=>[])
theorem fjq (n:Nat):aj1 jd (dzs n):=by
 have hΓ:=g1 (ez6 n) (g1 (fyl n) (@g0 (aj1 jd)));have qe:=aI @dqr.eq_1 @ej8.eq_1;refine ajb (Tryz.f39.body.getD .skip) h00 Tryz.func39 rfl Tryz.call39 (by decide) (by intro h;cases h) ?_;rintro ⟨s,l⟩ r H
 try dsimp only at H
 unfold byi at H;simp only [Tryz.f39,jz];refine rA ?_;obtain ⟨r1,hr1,H⟩:=bind_some H;have q:=aI qe hr1;refine rAq ?_;refine Jp (fun (x:(List UInt8)×Int×Int×Int×(List aj5))=>djb x.1 x.2.1 x.2.2.1 x.2.2.2.1 x.2.2.2.2) (fun x=>cji n x.1 x.2.1 x.2.2.1 x.2.2.2.1 x.2.2.2.2=some r) ?_ ?_
 ·refine rA ?_;refine jN ?_;obtain ⟨y5,hy5,Ho5⟩:=bind_some H;refine Jl _ (fun x=>cyl l x.1 x.2.1 x.2.2.1 x.2.2.2.1 x.2.2.2.2.1 x.2.2.2.2.2) hy5 (wb [some 64,some 80]) ?_;rintro ⟨v_5,v_6,v_7,v_8,v_9,k⟩ z5 H
  try dsimp only at H
  unfold awe at H;refine Sm.st (cyl.eq_1 ..) ?_;refine js fun K6 hK6=>?_;refine rA ?_;refine cnd H (fun h8 H=>?_) (fun h8 H=>?_)
  ·refine jy (hK6 _ ?_);refine Jp (fun (x:(List UInt8)×Int×Int×Int×(List aj5))=>djd l x.1 x.2.1 x.2.2.1 x.2.2.2.1 x.2.2.2.2 k) (fun x=>azo n l x.1 x.2.1 x.2.2.1 x.2.2.2.1 x.2.2.2.2 k=some z5) ?_ ?_
   ·refine jN (js fun K9 hK9=>?_);obtain ⟨⟨hg17,hg18⟩,H⟩:=aj8 H;refine rA ?_;refine cnd H (fun h11 H=>?_) (fun h11 H=>?_)
    ·refine rA ?_;refine jC (lf ?_);refine lx H fun hyy=>?_;subst hyy;have H:=Ho5
     try dsimp only at H
     refine lf ?_;obtain rfl:=sI H;exact rt []
    refine jy (hK9 _ ?_);obtain ⟨hg14,H⟩:=aj8 H;obtain ⟨r2,hr2,H⟩:=bind_some H;refine sQ [0,1,2,3,4,5,6,7,8,9,10,11] [(none,[9005],[]),(none,[],[]),(none,[],[]),(none,[],[]),(none,[],[]),(none,[],[783,782,781,780,779,778,777,776,775,774,773,772,771,770,769,768]),(none,[],[]),(none,[],[]),(none,[],[]),(none,[],[128]),(none,[128],[128]),(none,[],[])] fun K13 hK13=>?_;have q:=aI qe hr2
    iterate 12 refine oQq ?_
    refine cz0 ?_;refine hK13 _ ?_;refine rA ?_;refine cnd H (fun h16 H=>?_) (fun h16 H=>?_)
    ·refine eA ?_;refine lf ?_;exact ⟨(r2.1.Serial,r2.1.Cyls,r2.1.Heads,r2.1.Size,r2.1.Sets),H,wb [some 9004,some 9005]⟩
    refine jy (lf ?_);exact ⟨(v_5,v_6,v_7,v_8,v_9),H,wb [some 9004,some 9005]⟩
   rintro ⟨v_10,v_11,v_12,v_13,v_14⟩ H
   try dsimp only at H
   unfold azo at H;refine Sm.st (djd.eq_1 ..) ?_;refine eA ?_;refine lf ?_;exact nx H (wb [some 9006,some 9007])
  refine Js (lf ?_);refine lx H fun hyy=>?_;subst hyy;have H:=Ho5
  try dsimp only at H
  refine lf ?_;exact ⟨(v_5,v_6,v_7,v_8,v_9),H,wb [some 9004,some 9005]⟩
 rintro ⟨v,v_1,v_2,v_3,v_4⟩ H
 try dsimp only at H
 unfold cji at H;refine Sm.st (djb.eq_1 ..) ?_;refine rA ?_;refine jC (lf ?_);obtain rfl:=sI H;exact rt []
abbrev bys (v:List UInt8) (v_1:Int) (v_2:Int) (v_3:Int) (v_4:List aj5) (t:List (List TRec)):S:=stB [(5,.box 9000 0),(6,.own 9001 [.slice 87] 0 t.length)] [(9000,.box [.c .str (.str v),.c (.int .i64) (.int v_1),.c (.int .i64) (.int v_2),.c (.int .i64) (.int v_3),.c (.slice 41) (.slice (List.map aj4 v_4))]),(9001,.frz 84 (List.map aqa t))]
def ak4 (n:Nat) (v:List UInt8) (v_1:Int) (v_2:Int) (v_3:Int) (v_4:List aj5) (t:List (List TRec)):Option Bool :=
 gd ((0≤v_3∧v_3≤(t.length:Int))) <|
 (azt n (List.take (Int.toNat (v_3 - 0)) t)).bind fun r4 =>
 gd (t.length≤2147483648∧(t.length+1)≤2147483648) <|
 (azt n (t ++ [[]])).bind fun r5 =>
 some (if (r4.2 == 5)=true then (r5.2 == 5) else false)
abbrev byj (v_5:List UInt8) (v_6:Int) (v_7:Int) (v_8:Int) (v_9:List aj5) (t_1:List (List TRec)) (k:Int):S:=stB [(5,.box 9004 0),(6,.own 9005 [.slice 87] 0 t_1.length),(10,.c (.int .i64) (.int k))] [(9004,.box [.c .str (.str v_5),.c (.int .i64) (.int v_6),.c (.int .i64) (.int v_7),.c (.int .i64) (.int v_8),.c (.slice 41) (.slice (List.map aj4 v_9))]),(9005,.frz 84 (List.map aqa t_1))]
def awz (n:Nat) (v_5:List UInt8) (v_6:Int) (v_7:Int) (v_8:Int) (v_9:List aj5) (t_1:List (List TRec)) (k:Int):Option ((Int) ⊕ (((Bool) ⊕ (Unit)))) :=
 bif (decide (k < v_8)) then
  gd ((0≤(jb .i64 (k+1))∧(jb .i64 (k+1)) < (t_1.length:Int))∧(Int.toNat (jb .i64 (k+1))) < t_1.length) <|
  bif (((gt t_1 (Int.toNat (jb .i64 (k+1)))).length:Int) != (if (if 14 < (jb .i64 ((v_9.length:Int) - (jb .i64 (k * 14)))) then 14 else (jb .i64 ((v_9.length:Int) - (jb .i64 (k * 14))))) > 0 then (if 14 < (jb .i64 ((v_9.length:Int) - (jb .i64 (k * 14)))) then 14 else (jb .i64 ((v_9.length:Int) - (jb .i64 (k * 14))))) else 0)) then
   some (.inr (.inl false))
  else
   some (.inl (jb .i64 (k+1)))
 else
  some (.inr (.inr ()))
def bwb (n:Nat) (s:bka) (l:List TAct):Option Bool :=
 (byi n s l).bind fun r1 =>
 (bje n r1).bind fun r2 =>
 (azt n r2.1).bind fun r3 =>
 gd (((!(if (r2.2 != 0)=true then true else (r3.2 != 0)))=true→(bjj n r1 r3.1).isSome=true)∧((!(if (if (if (r2.2 != 0)=true then true else (r3.2 != 0))=true then true else (!((bjj n r1 r3.1).getD default)))=true then true else (((r2.1.length:Nat):Int) != (jb .i64 (r1.Size+1)))))=true→(bk0 n).isSome=true)) <|
 bif (if (if (if (if (r2.2 != 0)=true then true else (r3.2 != 0))=true then true else (!((bjj n r1 r3.1).getD default)))=true then true else (((r2.1.length:Nat):Int) != (jb .i64 (r1.Size+1))))=true then true else (!((bk0 n).getD default))) then
  some false
 else
  (ajo (fun (x:Int)=>awz n r1.Serial r1.Cyls r1.Heads r1.Size r1.Sets r2.1 x) n 0).bind fun y16 =>
  match y16 with
  | .inl vv =>
   some vv
  | .inr vv =>
   ak4 n r1.Serial r1.Cyls r1.Heads r1.Size r1.Sets r2.1
def dky (n:Nat):Go.AE.Fn:=mkFn (A:=bka×(List TAct)) (R:=Bool) 13 [(true,[.int .u8,.int .u8,.int .u8]),(false,[.slice 62])] false (fun xs=>((⟨(cg (xs.getD 0 []) 0).toInt,(cg (xs.getD 0 []) 1).toInt,(cg (xs.getD 0 []) 2).toInt⟩:bka),((cg (xs.getD 1 []) 0).toSl.map cqx))) (fun a=>[[.int a.1.Cyls,.int a.1.Heads,.int a.1.Size],[.slice (List.map aw4 a.2)]]) (fun a=>bwb n a.1 a.2) (fun r=>[.c .bool (.bool r)]) (fun r=>[])
theorem dko (n:Nat):aj1 jd (dky n):=by
 have hΓ:=g1 (fjq n) (g1 (dqi n) (g1 (eka n) (g1 (ekz n) (g1 (ekx n) (@g0 (aj1 jd))))));have qe:=aI @dzs.eq_1 (aI @cqq.eq_1 (aI @dqh.eq_1 (aI @dw9.eq_1 @dqq.eq_1)));refine cF (Tryz.f13.body.getD .skip) Tryz.func13 rfl Tryz.call13 ?_;rintro ⟨s,l⟩ r H
 try dsimp only at H
 unfold bwb at H;simp only [Tryz.f13,jz];refine rA ?_;obtain ⟨r1,hr1,H⟩:=bind_some H;have q:=aI qe hr1;refine rAq ?_;obtain ⟨r2,hr2,H⟩:=bind_some H;have q:=aI qe hr2;refine rAq ?_;obtain ⟨r3,hr3,H⟩:=bind_some H;have q:=aI qe hr3;refine rAq ?_;refine js fun K5 hK5=>?_;obtain ⟨⟨hg27,hg28⟩,H⟩:=aj8 H;have q:=qe;refine rAq ?_;refine cnd H (fun h7 H=>?_) (fun h7 H=>?_)
 ·refine rA ?_;refine jC (lf ?_);obtain rfl:=sI H;exact rt []
 refine jy (hK5 _ ?_);refine Jp (fun (x:(List UInt8)×Int×Int×Int×(List aj5)×(List (List TRec)))=>bys x.1 x.2.1 x.2.2.1 x.2.2.2.1 x.2.2.2.2.1 x.2.2.2.2.2) (fun x=>ak4 n x.1 x.2.1 x.2.2.1 x.2.2.2.1 x.2.2.2.2.1 x.2.2.2.2.2=some r) ?_ ?_
 ·refine rA ?_;refine jN ?_;obtain ⟨y16,hy16,Ho16⟩:=bind_some H;refine Jl _ (fun x=>byj r1.Serial r1.Cyls r1.Heads r1.Size r1.Sets r2.1 x) hy16 (wb [some 80,some 336]) ?_;rintro k z16 H
  try dsimp only at H
  unfold awz at H;refine Sm.st (byj.eq_1 ..) ?_;refine js fun K17 hK17=>?_;refine rA ?_;refine cnd H (fun h19 H=>?_) (fun h19 H=>?_)
  ·refine jy (hK17 _ (js fun K20 hK20=>jN ?_));refine rA ?_;obtain ⟨⟨hg25,hg26⟩,H⟩:=aj8 H;refine rA ?_;refine cnd H (fun h23 H=>?_) (fun h23 H=>?_)
   ·refine rA ?_;refine jC (lf ?_);refine lx H fun hyy=>?_;subst hyy;have H:=Ho16
    try dsimp only at H
    refine lf ?_;obtain rfl:=sI H;exact rt []
   refine jy (hK20 _ ?_);refine eA ?_;refine lf ?_;exact nx H (wb [some 9004,some 9005])
  refine Js (lf ?_);refine lx H fun hyy=>?_;subst hyy;have H:=Ho16
  try dsimp only at H
  refine lf ?_;exact ⟨(r1.Serial,r1.Cyls,r1.Heads,r1.Size,r1.Sets,r2.1),H,wb [some 9004,some 9005]⟩
 rintro ⟨v,v_1,v_2,v_3,v_4,t⟩ H
 try dsimp only at H
 unfold ak4 at H;refine Sm.st (bys.eq_1 ..) ?_;obtain ⟨hg14,H⟩:=aj8 H;obtain ⟨r4,hr4,H⟩:=bind_some H;have q:=aI qe hr4;refine rAq ?_;obtain ⟨⟨hg12,hg13⟩,H⟩:=aj8 H;obtain ⟨r5,hr5,H⟩:=bind_some H;have q:=aI qe hr5;refine rAq ?_;refine rA ?_;refine jC (lf ?_);obtain rfl:=sI H;exact rt []
end Go.Proofs.YtijnkhcfondehaaGreatDoor
