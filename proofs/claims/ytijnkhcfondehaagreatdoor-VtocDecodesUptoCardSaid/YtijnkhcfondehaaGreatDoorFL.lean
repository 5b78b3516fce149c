/- Text. -/
import Derived.Test.YtijnkhcfondehaaGreatDoorML
set_option maxHeartbeats 8000000
set_option linter.unusedVariables false
set_option linter.unusedSimpArgs false
set_option maxRecDepth 100000
open _root_.Bool renaming not_false→j5,not_true→jR,false_eq_true→jm
open Go.IntKind renaming wrap→ja
open _root_.Option renaming getD→jr
open Go.AE.Sm renaming seqK→jn,ret→jv,skip→jp,cut→jU,block→js,loopB→jO,exit→jT
open Go.Proofs.Tryz renaming prog→jd
namespace Go.Proofs.YtijnkhcfondehaaGreatDoor
open Go.AE
def cqu (n:Nat) (v:aja):Option Bool :=
 (bkr n).bind fun r1 =>
 bif (!r1) then
  some false
 else
  (dq8 n v).bind fun r2 =>
  bif (!r2) then
   some true
  else
   (bkn n v).bind fun r3 =>
   (bj8 n v).bind fun r4 =>
   (bjj n r3).bind fun r5 =>
   (awf n v).bind fun r6 =>
   (bjg n r3).bind fun r7 =>
   gd (((!((r6 == 0) != r7))=true→(awf n v).isSome=true)) <|
   bif (if (if ((r6 == 0) != r7)=true then true else (((awf n v).getD default) != r4.2))=true then true else (r4.2 != r5.2)) then
    some false
   else
    gd ((!(if (if ((r6 == 0) != r7)=true then true else (((awf n v).getD default) != r4.2))=true then true else (r4.2 != r5.2)))=true) <|
    (awv n r4.1 r5.1).bind fun r8 =>
    bif (!r8) then
     some false
    else
     (czs n v).bind fun r9 =>
     (dke n r3).bind fun r10 =>
     (dka n r9 r10).bind fun r11 =>
     bif r11 then
      gd (r11=true) <|
      (bkn n v).bind fun r12 =>
      (bk2 n r12 r3).bind fun r13 =>
      some r13
     else
      some false
def dkb (n:Nat):Go.AE.Fn:=mkFn (A:=aja) (R:=Bool) 5 [(true,[.str,.int .i64,.int .i64,.int .i64,.slice 41])] false (fun xs=>(⟨(cg (xs.getD 0 []) 0).toStr,(cg (xs.getD 0 []) 1).toInt,(cg (xs.getD 0 []) 2).toInt,(cg (xs.getD 0 []) 3).toInt,((cg (xs.getD 0 []) 4).toSl.map awo)⟩:aja)) (fun a=>[[.str a.Serial,.int a.Cyls,.int a.Heads,.int a.Size,.slice (List.map aj6 a.Sets)]]) (fun a=>cqu n a) (fun r=>[.c .bool (.bool r)]) (fun r=>[])
theorem gwu (n:Nat):aj1 jd (dkb n):=by
 have hΓ:=g1 (dyj n) (g1 (fw4 n) (g1 (ekf n) (g1 (dkt n) (g1 (dzm n) (g1 (bw1 n) (g1 (cwx n) (g1 (cja n) (g1 (dk4 n) (g1 (fzr n) (g1 (fkx n) (g1 (eqz n) (@g0 (aj1 jd)))))))))))));have qe:=aI @czf.eq_1 (aI @dyh.eq_1 (aI @dzv.eq_1 (aI @cza.eq_1 (aI @cqg.eq_1 (aI @akr.eq_1 (aI @byc.eq_1 (aI @bw6.eq_1 (aI @ckw.eq_1 (aI @ejv.eq_1 (aI @eqq.eq_1 @djr.eq_1))))))))));refine cF (Tryz.f5.body.getD .skip) Tryz.func5 rfl Tryz.call5 ?_;rintro v r H
 try dsimp only at H
 unfold cqu at H;simp only [Tryz.f5,jr];refine rA ?_;refine jn fun K2 hK2=>?_;obtain ⟨r1,hr1,H⟩:=bind_some H;have q:=aI qe hr1;refine rAq ?_;refine cnd H (fun h4 H=>?_) (fun h4 H=>?_)
 ·refine rA ?_;refine jv (lf ?_);obtain rfl:=sI H;exact rt []
 refine jp (hK2 _ (jn fun K6 hK6=>?_));obtain ⟨r2,hr2,H⟩:=bind_some H;have q:=aI qe hr2;refine rAq ?_;refine cnd H (fun h8 H=>?_) (fun h8 H=>?_)
 ·refine rA ?_;refine jv (lf ?_);obtain rfl:=sI H;exact rt []
 refine jp (hK6 _ ?_);obtain ⟨r3,hr3,H⟩:=bind_some H;have q:=aI qe hr3;refine rAq ?_;obtain ⟨r4,hr4,H⟩:=bind_some H;have q:=aI qe hr4;refine rAq ?_;obtain ⟨r5,hr5,H⟩:=bind_some H;have q:=aI qe hr5;refine rAq ?_;refine jn fun K13 hK13=>?_;obtain ⟨r6,hr6,H⟩:=bind_some H;obtain ⟨r7,hr7,H⟩:=bind_some H;obtain ⟨hg15,H⟩:=aj3 H;refine ak7 H (fun hs16 H=>?_) (fun hs16 H=>?_)
 ·try simp only [z,seval,hr6,hr7] at hs16
  try simp only [hs16,j5,jR,jm,true_implies,false_implies,forall_const] at hg15
  refine sQ [0,1,2,3,4,5,6,7,8,9,10,11,12,13,14,15,16,17,18,19,20,21,22] [(none,[16],[]),(none,[],[431,430,429,428,427,426,425,424,423,422,421,420,419,418,417,416]),(none,[],[]),(none,[48],[]),(none,[224],[479,478,477,476,475,474,473,472,471,470,469,468,467,466,465,464,224]),(none,[],[]),(none,[],[]),(none,[16],[]),(none,[],[543,542,541,540,539,538,537,536,535,534,533,532,531,530,529,528]),(none,[],[]),(none,[],[]),(none,[],[]),(none,[],[]),(none,[],[]),(none,[],[]),(none,[],[]),(none,[],[]),(none,[],[]),(none,[],[]),(none,[],[]),(some false,[],[]),(some false,[],[]),(some true,[],[])] fun K14 hK14=>?_;have q:=aI qe (aI hr6 (aI hr7 hs16))
  iterate 23 refine oQq ?_
  refine byo ?_;refine hK14 _ ?_;refine cndT ?_;refine rA ?_;refine jv (lf ?_);obtain rfl:=sI H;exact rt []
 try simp only [z,seval,hr6,hr7] at hs16
 try simp only [hs16,j5,jR,jm,true_implies,false_implies,forall_const] at hg15
 obtain ⟨hg19,H⟩:=aj3 H;obtain ⟨r8,hr8,H⟩:=bind_some H;refine sQ [0,1,2,3,4,5,6,7,8,9,10,11,12,13,14,15,16,17,18,19,20,21,22] [(none,[16],[]),(none,[],[431,430,429,428,427,426,425,424,423,422,421,420,419,418,417,416]),(none,[],[]),(none,[48],[]),(none,[224],[479,478,477,476,475,474,473,472,471,470,469,468,467,466,465,464,224]),(none,[],[]),(none,[],[]),(none,[16],[]),(none,[],[543,542,541,540,539,538,537,536,535,534,533,532,531,530,529,528]),(none,[],[]),(none,[],[]),(none,[],[]),(none,[],[]),(none,[],[]),(none,[],[]),(none,[],[]),(none,[],[]),(none,[],[]),(none,[],[]),(none,[],[]),(some true,[272,352],[735,734,733,732,731,730,729,728,727,726,725,724,723,722,721,720,272,352]),(some true,[],[]),(some false,[],[])] fun K14 hK14=>?_;have q:=aI qe (aI hr6 (aI hr7 (aI hs16 hr8)))
 iterate 23 refine oQq ?_
 refine byo ?_;refine hK14 _ ?_;refine cnd H (fun h20 H=>?_) (fun h20 H=>?_)
 ·refine rA ?_;refine jv (lf ?_);obtain rfl:=sI H;exact rt []
 refine jp (hK13 _ ?_);obtain ⟨r9,hr9,H⟩:=bind_some H;obtain ⟨r10,hr10,H⟩:=bind_some H;obtain ⟨r11,hr11,H⟩:=bind_some H;refine ak7 H (fun hs23 H=>?_) (fun hs23 H=>?_)
 ·try simp only [z,seval,hr9,hr10,hr11] at hs23
  obtain ⟨hg24,H⟩:=aj3 H;obtain ⟨r12,hr12,H⟩:=bind_some H;obtain ⟨r13,hr13,H⟩:=bind_some H;refine sQ [0,1,2,3,4,5,6,7,8,9,10,11] [(none,[16],[]),(none,[],[799,798,797,796,795,794,793,792,791,790,789,788,787,786,785,784]),(none,[48],[]),(none,[224],[831,830,829,828,827,826,825,824,823,822,821,820,819,818,817,816,224]),(none,[784,816],[847,846,845,844,843,842,841,840,839,838,837,836,835,834,833,832,784,816]),(none,[],[]),(none,[16],[]),(some true,[],[895,894,893,892,891,890,889,888,887,886,885,884,883,882,881,880]),(some true,[48],[]),(some true,[224,880],[927,926,925,924,923,922,921,920,919,918,917,916,915,914,913,912,224,880]),(some true,[],[]),(none,[],[])] fun K22 hK22=>?_;have q:=aI qe (aI hr9 (aI hr10 (aI hr11 (aI hs23 (aI hr12 hr13)))))
  iterate 12 refine oQq ?_
  refine byo ?_;refine hK22 _ (jv (lf ?_));obtain rfl:=sI H;exact rt []
 try simp only [z,seval,hr9,hr10,hr11] at hs23
 refine sQ [0,1,2,3,4,5,6,7,8,9,10,11] [(none,[16],[]),(none,[],[799,798,797,796,795,794,793,792,791,790,789,788,787,786,785,784]),(none,[48],[]),(none,[224],[831,830,829,828,827,826,825,824,823,822,821,820,819,818,817,816,224]),(none,[784,816],[847,846,845,844,843,842,841,840,839,838,837,836,835,834,833,832,784,816]),(none,[],[]),(none,[16],[]),(some false,[],[]),(some false,[],[]),(some false,[],[]),(some false,[],[]),(none,[],[])] fun K22 hK22=>?_;have q:=aI qe (aI hr9 (aI hr10 (aI hr11 hs23)))
 iterate 12 refine oQq ?_
 refine byo ?_;refine hK22 _ (jv (lf ?_));obtain rfl:=sI H;exact rt []
abbrev dwp:S:=stB [] []
def cqk (n:Nat):Option ((List UInt8)×Int×Bool) :=
 some ([],0,false)
abbrev dza (track:Int) (v:aja) (v16:Int) (v17:Int):S:=stB [(1,.c (.int .i64) (.int track)),(15,.c (.slice 41) (.slice (List.map aj6 v.Sets))),(16,.c (.int .i64) (.int v16)),(17,.c (.int .i64) (.int v17))] []
def dqa (n:Nat) (track:Int) (v:aja) (v16:Int) (v17:Int):Option ((Int) ⊕ ((((List UInt8)×Int×Bool) ⊕ (Unit)))) :=
 bif (decide (v17 < v16)) then
  gd ((0≤v17∧v17 < (v.Sets.length:Int))) <|
  (ay7 n ((gt v.Sets (Int.toNat v17)).Extents) track).bind fun r2 =>
  bif r2.2 then
   some (.inr (.inl ((gt v.Sets (Int.toNat v17)).Name,r2.1,true)))
  else
   some (.inl (ja .i64 (v17+1)))
 else
  some (.inr (.inr ()))
def ekl (n:Nat) (v:aja) (track:Int):Option ((List UInt8)×Int×Bool) :=
 (awf n v).bind fun r1 =>
 bif (r1 != 0) then
  some ([],0,false)
 else
  (ajg (fun (x:Int)=>dqa n track v (v.Sets.length:Int) x) n 0).bind fun y8 =>
  match y8 with
  | .inl vv =>
   some (vv.1,vv.2.1,vv.2.2)
  | .inr vv =>
   cqk n
def fkf (n:Nat):Go.AE.Fn:=mkFn (A:=aja×Int) (R:=(List UInt8)×Int×Bool) 24 [(true,[.str,.int .i64,.int .i64,.int .i64,.slice 41]),(false,[.int .i64])] false (fun xs=>((⟨(cg (xs.getD 0 []) 0).toStr,(cg (xs.getD 0 []) 1).toInt,(cg (xs.getD 0 []) 2).toInt,(cg (xs.getD 0 []) 3).toInt,((cg (xs.getD 0 []) 4).toSl.map awo)⟩:aja),(cg (xs.getD 1 []) 0).toInt)) (fun a=>[[.str a.1.Serial,.int a.1.Cyls,.int a.1.Heads,.int a.1.Size,.slice (List.map aj6 a.1.Sets)],[.int a.2]]) (fun a=>ekl n a.1 a.2) (fun r=>[.c .str (.str r.1),.c (.int .i64) (.int r.2.1),.c .bool (.bool r.2.2)]) (fun r=>[])
theorem iql (n:Nat):aj1 jd (fkf n):=by
 have hΓ:=g1 (bw1 n) (g1 (fjh n) (@g0 (aj1 jd)));have qe:=aI @akr.eq_1 @bqh.eq_1;refine cF (Tryz.f24.body.getD .skip) Tryz.func24 rfl Tryz.call24 ?_;rintro ⟨v,track⟩ r H
 try dsimp only at H
 unfold ekl at H;simp only [Tryz.f24,jr];refine rA ?_;refine jn fun K2 hK2=>?_;obtain ⟨r1,hr1,H⟩:=bind_some H;have q:=aI qe hr1;refine rAq ?_;refine cnd H (fun h4 H=>?_) (fun h4 H=>?_)
 ·refine rA ?_;refine jv (lf ?_);obtain rfl:=sI H;exact rt []
 refine jp (hK2 _ ?_);refine jU (fun (x:Unit)=>dwp) (fun x=>cqk n=some r) ?_ ?_
 ·refine rA ?_;refine js ?_;obtain ⟨y8,hy8,Ho8⟩:=bind_some H;refine jO _ (fun x=>dza track v (v.Sets.length:Int) x) hy8 (wb []) ?_;rintro v17 z8 H
  try dsimp only at H
  unfold dqa at H;refine Sm.st (dza.eq_1 ..) ?_;refine rA ?_;refine jn fun K10 hK10=>?_;refine cnd H (fun h11 H=>?_) (fun h11 H=>?_)
  ·refine jp (hK10 _ (jn fun K12 hK12=>js ?_));obtain ⟨hg18,H⟩:=aj3 H;refine rA ?_;obtain ⟨r2,hr2,H⟩:=bind_some H;have q:=aI qe hr2;refine rAq ?_;refine rA ?_;refine cnd H (fun h16 H=>?_) (fun h16 H=>?_)
   ·refine rA ?_;refine jv (lf ?_);refine lx H fun hyy=>?_;subst hyy;have H:=Ho8
    try dsimp only at H
    refine lf ?_;obtain rfl:=sI H;exact rt []
   refine jp (hK12 _ ?_);refine eA ?_;refine lf ?_;exact nx H (wb [])
  refine jT (lf ?_);refine lx H fun hyy=>?_;subst hyy;have H:=Ho8
  try dsimp only at H
  refine lf ?_;exact ⟨(),H,wb []⟩
 rintro ⟨⟩ H
 try dsimp only at H
 unfold cqk at H;refine Sm.st (dwp.eq_1 ..) ?_;refine rA ?_;refine jv (lf ?_);obtain rfl:=sI H;exact rt []
abbrev cyg (t:List TRec):S:=stB [(0,.c (.slice 87) (.slice (List.map ajr t)))] []
def bye (n:Nat) (t:List TRec):Option Bool :=
 (bk0 n t).bind fun r1 =>
 some (decide (r1≤2048))
abbrev cy8 (t:List TRec) (v6:Int) (v7:Int):S:=stB [(0,.c (.slice 87) (.slice (List.map ajr t))),(5,.c (.slice 87) (.slice (List.map ajr t))),(6,.c (.int .i64) (.int v6)),(7,.c (.int .i64) (.int v7))] []
def ayv (n:Nat) (t:List TRec) (v6:Int) (v7:Int):Option ((Int) ⊕ (((Bool) ⊕ (Unit)))) :=
 bif (decide (v7 < v6)) then
  gd ((0≤v7∧v7 < (t.length:Int))) <|
  (cq7 n (gt t (Int.toNat v7))).bind fun r2 =>
  gd ((((!(!r2)) && (decide (v7 > 0)))=true→(0≤(ja .i64 (v7 - 1))∧(ja .i64 (v7 - 1)) < (t.length:Int)))) <|
  bif (if (!r2)=true then true else (if (decide (v7 > 0))=true then (decide (((gt t (Int.toNat v7)).R)≤((gt t (Int.toNat (ja .i64 (v7 - 1)))).R))) else false)) then
   some (.inr (.inl false))
  else
   some (.inl (ja .i64 (v7+1)))
 else
  some (.inr (.inr ()))
def bkc (n:Nat) (t:List TRec):Option Bool :=
 (ajg (fun (x:Int)=>ayv n t (t.length:Int) x) n 0).bind fun y4 =>
 match y4 with
 | .inl vv =>
  some vv
 | .inr vv =>
  bye n t
def byb (n:Nat):Go.AE.Fn:=mkFn (A:=(List TRec)) (R:=Bool) 147 [(false,[.slice 87])] false (fun xs=>((cg (xs.getD 0 []) 0).toSl.map bqx)) (fun a=>[[.slice (List.map ajr a)]]) (fun a=>bkc n a) (fun r=>[.c .bool (.bool r)]) (fun r=>[])
theorem fqw (n:Nat):aj1 jd (byb n):=by
 have hΓ:=g1 (fw1 n) (g1 (fkj n) (@g0 (aj1 jd)));have qe:=aI @dy8.eq_1 @bkd.eq_1;refine cF (Tryz.f147.body.getD .skip) Tryz.func147 rfl Tryz.call147 ?_;rintro t r H
 try dsimp only at H
 unfold bkc at H;simp only [Tryz.f147,jr];refine rA ?_;refine jU (fun (x:Unit)=>cyg t) (fun x=>bye n t=some r) ?_ ?_
 ·refine rA ?_;refine js ?_;obtain ⟨y4,hy4,Ho4⟩:=bind_some H;refine jO _ (fun x=>cy8 t (t.length:Int) x) hy4 (wb []) ?_;rintro v7 z4 H
  try dsimp only at H
  unfold ayv at H;refine Sm.st (cy8.eq_1 ..) ?_;refine rA ?_;refine jn fun K6 hK6=>?_;refine cnd H (fun h7 H=>?_) (fun h7 H=>?_)
  ·refine jp (hK6 _ (jn fun K8 hK8=>js ?_));obtain ⟨hg14,H⟩:=aj3 H;refine rA ?_;obtain ⟨r2,hr2,H⟩:=bind_some H;obtain ⟨hg13,H⟩:=aj3 H;have q:=aI qe hr2;refine rDq ?_;refine cnd H (fun h11 H=>?_) (fun h11 H=>?_)
   ·refine rA ?_;refine jv (lf ?_);refine lx H fun hyy=>?_;subst hyy;have H:=Ho4
    try dsimp only at H
    refine lf ?_;obtain rfl:=sI H;exact rt []
   refine jp (hK8 _ ?_);refine eA ?_;refine lf ?_;exact nx H (wb [])
  refine jT (lf ?_);refine lx H fun hyy=>?_;subst hyy;have H:=Ho4
  try dsimp only at H
  refine lf ?_;exact ⟨(),H,wb []⟩
 rintro ⟨⟩ H
 try dsimp only at H
 unfold bye at H;refine Sm.st (cyg.eq_1 ..) ?_;obtain ⟨r1,hr1,H⟩:=bind_some H;have q:=aI qe hr1;refine rAq ?_;refine jv (lf ?_);obtain rfl:=sI H;exact rt []
def ck6 (n:Nat) (a:List TRec) (b:List TRec):Option Bool :=
 (bkc n a).bind fun r1 =>
 bif r1 then
  gd (r1=true) <|
  (aqf n a b).bind fun r2 =>
  some r2
 else
  some false
def ekh (n:Nat):Go.AE.Fn:=mkFn (A:=(List TRec)×(List TRec)) (R:=Bool) 104 [(false,[.slice 87]),(false,[.slice 87])] false (fun xs=>(((cg (xs.getD 0 []) 0).toSl.map bqx),((cg (xs.getD 1 []) 0).toSl.map bqx))) (fun a=>[[.slice (List.map ajr a.1)],[.slice (List.map ajr a.2)]]) (fun a=>ck6 n a.1 a.2) (fun r=>[.c .bool (.bool r)]) (fun r=>[])
theorem gwn (n:Nat):aj1 jd (ekh n):=by
 have hΓ:=g1 (fqw n) (@g0 (aj1 jd));refine cF (Tryz.f104.body.getD .skip) Tryz.func104 rfl Tryz.call104 ?_;rintro ⟨a,b⟩ r H
 try dsimp only at H
 unfold ck6 at H;simp only [Tryz.f104,jr];refine rA ?_;refine sX fun K2 hK2=>?_;obtain ⟨r1,hr1,H⟩:=bind_some H;have q:=aI @byb.eq_1 hr1
 iterate 5 refine oXq ?_
 refine ak7 H (fun hs3 H=>?_) (fun hs3 H=>?_)
 ·try simp only [z,seval,hr1] at hs3
  obtain ⟨hg4,H⟩:=aj3 H;obtain ⟨r2,hr2,H⟩:=bind_some H;have q:=aI @byb.eq_1 (aI hr1 (aI hs3 hr2));refine oTM (bym n _ _ r2 hr2) [] [] ?_;refine oPl ?_;refine oXq ?_;refine hK2 _ (jv (lf ?_));obtain rfl:=sI H;exact rt []
 try simp only [z,seval,hr1] at hs3
 have q:=aI @byb.eq_1 (aI hr1 hs3);refine oFq ?_;refine oPr ?_;refine oXq ?_;refine hK2 _ (jv (lf ?_));obtain rfl:=sI H;exact rt []
abbrev aky:S:=stB [] []
def aqm (n:Nat):Option Bool :=
 some true
abbrev ay8 (s2:List (List TRec)) (s1:List (List TRec)) (v16:Int) (v17:Int):S:=stB [(1,.c (.slice 84) (.slice (List.map ajh s2))),(2,.fnv 104 []),(15,.c (.slice 84) (.slice (List.map ajh s1))),(16,.c (.int .i64) (.int v16)),(17,.c (.int .i64) (.int v17))] []
def aq4 (n:Nat) (s2:List (List TRec)) (s1:List (List TRec)) (v16:Int) (v17:Int):Option ((Int) ⊕ (((Bool) ⊕ (Unit)))) :=
 bif (decide (v17 < v16)) then
  gd ((0≤v17∧v17 < (s1.length:Int))) <|
  gd ((0≤v17∧v17 < (s2.length:Int))) <|
  (ck6 n (gt s1 (Int.toNat v17)) (gt s2 (Int.toNat v17))).bind fun r1 =>
  bif (!r1) then
   some (.inr (.inl false))
  else
   some (.inl (ja .i64 (v17+1)))
 else
  some (.inr (.inr ()))
def aqh (n:Nat) (s1:List (List TRec)) (s2:List (List TRec)):Option Bool :=
 bif ((s1.length:Int) != (s2.length:Int)) then
  some false
 else
  (ajg (fun (x:Int)=>aq4 n s2 s1 (s1.length:Int) x) n 0).bind fun y8 =>
  match y8 with
  | .inl vv =>
   some vv
  | .inr vv =>
   aqm n
theorem byw (n:Nat) (s1:List (List TRec)) (s2:List (List TRec)) (r:Bool) (H:aqh n s1 s2=some r):akx jd 103 [.dat (false,[.slice 84]) [.slice (List.map ajh s1)],.dat (false,[.slice 84]) [.slice (List.map ajh s2)],.ref (.fnv 104 [])] [] [.c .bool (.bool r)] []:=by
 have hΓ:=g1 (gwn n) (@g0 (aj1 jd));refine bkq (Tryz.f103.body.getD .skip) h00 Tryz.func103 rfl Tryz.call103 (Nat.le_of_ble_eq_true rfl) (Nat.le_of_ble_eq_true rfl) ?_;unfold aqh at H;simp only [Tryz.f103,jr];refine rA ?_;refine jn fun K2 hK2=>?_;refine rA ?_;refine cnd H (fun h4 H=>?_) (fun h4 H=>?_)
 ·refine rA ?_;refine jv (lf ?_);obtain rfl:=sI H;exact rtM []
 refine jp (hK2 _ ?_);refine jU (fun (x:Unit)=>aky) (fun x=>aqm n=some r) ?_ ?_
 ·refine rA ?_;refine js ?_;obtain ⟨y8,hy8,Ho8⟩:=bind_some H;refine jO _ (fun x=>ay8 s2 s1 (s1.length:Int) x) hy8 (wb []) ?_;rintro v17 z8 H
  try dsimp only at H
  unfold aq4 at H;refine Sm.st (ay8.eq_1 ..) ?_;refine rA ?_;refine jn fun K10 hK10=>?_;refine cnd H (fun h11 H=>?_) (fun h11 H=>?_)
  ·refine jp (hK10 _ (jn fun K12 hK12=>js ?_));obtain ⟨hg19,H⟩:=aj3 H;refine rA ?_;obtain ⟨hg18,H⟩:=aj3 H;refine rA ?_;obtain ⟨r1,hr1,H⟩:=bind_some H;have q:=aI @ekh.eq_1 hr1;refine rAq ?_;refine cnd H (fun h16 H=>?_) (fun h16 H=>?_)
   ·refine rA ?_;refine jv (lf ?_);refine lx H fun hyy=>?_;subst hyy;have H:=Ho8
    try dsimp only at H
    refine lf ?_;obtain rfl:=sI H;exact rtM []
   refine jp (hK12 _ ?_);refine eA ?_;refine lf ?_;exact nx H (wb [])
  refine jT (lf ?_);refine lx H fun hyy=>?_;subst hyy;have H:=Ho8
  try dsimp only at H
  refine lf ?_;exact ⟨(),H,wb []⟩
 rintro ⟨⟩ H
 try dsimp only at H
 unfold aqm at H;refine Sm.st (aky.eq_1 ..) ?_;refine rA ?_;refine jv (lf ?_);obtain rfl:=sI H;exact rtM []
abbrev cy0 (l:List (List TRec)) (v:List UInt8) (v_1:Int) (v_2:Int) (v_3:Int) (v_4:List aj8):S:=stB [(0,.c (.slice 84) (.slice (List.map ajh l))),(2,.box 9000 0),(5,.box 9001 0)] [(9000,.box [.c .str (.str []),.c (.int .i64) (.int 0),.c (.int .i64) (.int 0),.c (.int .i64) (.int 0),.nilsl]),(9001,.box [.c .str (.str v),.c (.int .i64) (.int v_1),.c (.int .i64) (.int v_2),.c (.int .i64) (.int v_3),.own 9002 kD 0 v_4.length]),(9002,.row 41 (List.map aj6 v_4))]
def bj0 (n:Nat) (l:List (List TRec)) (v:List UInt8) (v_1:Int) (v_2:Int) (v_3:Int) (v_4:List aj8):Option (aja×Int) :=
 (bj8 n (⟨v,v_1,v_2,v_3,v_4⟩:aja)).bind fun r5 =>
 bif (r5.2 != 0) then
  some ((⟨[],0,0,0,[]⟩:aja),5)
 else
  gd ((!(r5.2 != 0))=true) <|
  (aqh n l r5.1).bind fun r6 =>
  bif (!r6) then
   some ((⟨[],0,0,0,[]⟩:aja),5)
  else
   some ((⟨v,v_1,v_2,v_3,v_4⟩:aja),0)
abbrev cy5 (l:List (List TRec)) (v_5:List UInt8) (v_6:Int) (v_7:Int) (v_8:Int) (v_10:List aj8) (v52:List (List TRec)) (v53:Int) (v54:Int):S:=stB [(0,.c (.slice 84) (.slice (List.map ajh l))),(2,.box 9011 0),(5,.box 9012 0),(52,.c (.slice 84) (.slice (List.map ajh v52))),(53,.c (.int .i64) (.int v53)),(54,.c (.int .i64) (.int v54))] [(9011,.box [.c .str (.str []),.c (.int .i64) (.int 0),.c (.int .i64) (.int 0),.c (.int .i64) (.int 0),.nilsl]),(9012,.box [.c .str (.str v_5),.c (.int .i64) (.int v_6),.c (.int .i64) (.int v_7),.c (.int .i64) (.int v_8),.own 9013 kD 0 v_10.length]),(9013,.row 41 (List.map aj6 v_10))]
def bwj (n:Nat) (l:List (List TRec)) (v_5:List UInt8) (v_6:Int) (v_7:Int) (v_8:Int) (v_10:List aj8) (v52:List (List TRec)) (v53:Int) (v54:Int):Option (((List aj8)×Int) ⊕ (((aja×Int) ⊕ ((List aj8))))) :=
 some (.inl (v_10,(ja .i64 (v54+1))))
abbrev cyo (l:List (List TRec)) (v_5:List UInt8) (v_6:Int) (v_7:Int) (v_8:Int) (v52:List (List TRec)) (v53:Int) (v54:Int) (v58:List TRec) (v59:Int) (v_11:List aj8) (v60:Int):S:=stB [(0,.c (.slice 84) (.slice (List.map ajh l))),(2,.box 9017 0),(5,.box 9018 0),(52,.c (.slice 84) (.slice (List.map ajh v52))),(53,.c (.int .i64) (.int v53)),(54,.c (.int .i64) (.int v54)),(58,.c (.slice 87) (.slice (List.map ajr v58))),(59,.c (.int .i64) (.int v59)),(60,.c (.int .i64) (.int v60))] [(9017,.box [.c .str (.str []),.c (.int .i64) (.int 0),.c (.int .i64) (.int 0),.c (.int .i64) (.int 0),.nilsl]),(9018,.box [.c .str (.str v_5),.c (.int .i64) (.int v_6),.c (.int .i64) (.int v_7),.c (.int .i64) (.int v_8),.own 9019 kD 0 v_11.length]),(9019,.row 41 (List.map aj6 v_11))]
def az7 (n:Nat) (l:List (List TRec)) (v_5:List UInt8) (v_6:Int) (v_7:Int) (v_8:Int) (v52:List (List TRec)) (v53:Int) (v54:Int) (v58:List TRec) (v59:Int) (v_11:List aj8) (v60:Int):Option (((List aj8)×Int) ⊕ (((aja×Int) ⊕ ((List aj8))))) :=
 bif (decide (v60 < v59)) then
  gd ((0≤v60∧v60 < (v58.length:Int))) <|
  (cj7 n (gt v58 (Int.toNat v60))).bind fun r7 =>
  bif (!r7.2) then
   some (.inr (.inl ((⟨[],0,0,0,[]⟩:aja),5)))
  else
   gd ((v_11.length+1)≤2147483648) <|
   some (.inl ((v_11 ++ [r7.1]),(ja .i64 (v60+1))))
 else
  some (.inr (.inr v_11))
abbrev cyi (l:List (List TRec)) (v_5:List UInt8) (v_6:Int) (v_7:Int) (v_8:Int) (v52:List (List TRec)) (v53:Int) (v_9:List aj8) (v54:Int):S:=stB [(0,.c (.slice 84) (.slice (List.map ajh l))),(2,.box 9008 0),(5,.box 9009 0),(52,.c (.slice 84) (.slice (List.map ajh v52))),(53,.c (.int .i64) (.int v53)),(54,.c (.int .i64) (.int v54))] [(9008,.box [.c .str (.str []),.c (.int .i64) (.int 0),.c (.int .i64) (.int 0),.c (.int .i64) (.int 0),.nilsl]),(9009,.box [.c .str (.str v_5),.c (.int .i64) (.int v_6),.c (.int .i64) (.int v_7),.c (.int .i64) (.int v_8),.own 9010 kD 0 v_9.length]),(9010,.row 41 (List.map aj6 v_9))]
def awb (n:Nat) (l:List (List TRec)) (v_5:List UInt8) (v_6:Int) (v_7:Int) (v_8:Int) (v52:List (List TRec)) (v53:Int) (v_9:List aj8) (v54:Int):Option (((List aj8)×Int) ⊕ (((aja×Int) ⊕ ((List aj8))))) :=
 bif (decide (v54 < v53)) then
  gd ((0≤v54∧v54 < (v52.length:Int))) <|
  (ajg (fun (x:(List aj8)×Int)=>az7 n l v_5 v_6 v_7 v_8 v52 v53 v54 (gt v52 (Int.toNat v54)) ((gt v52 (Int.toNat v54)).length:Int) x.1 x.2) n (v_9,0)).bind fun y25 =>
  match y25 with
  | .inl vv =>
   some (.inr (.inl (vv.1,vv.2)))
  | .inr vv =>
   bwj n l v_5 v_6 v_7 v_8 vv v52 v53 v54
 else
  some (.inr (.inr v_9))
def bw3 (n:Nat) (l:List (List TRec)):Option (aja×Int) :=
 gd (((!((l.length:Int) == 0))=true→0 < (l.length:Int))∧((!(if ((l.length:Int) == 0)=true then true else (((gt l 0).length:Int) != 1)))=true→0 < (l.length:Int))∧((!(if ((l.length:Int) == 0)=true then true else (((gt l 0).length:Int) != 1)))=true→0 < ((gt l 0).length:Int))) <|
 bif (if (if ((l.length:Int) == 0)=true then true else (((gt l 0).length:Int) != 1))=true then true else ((((gt (gt l 0) 0).Data).length:Int) != 80)) then
  some ((⟨[],0,0,0,[]⟩:aja),5)
 else
  gd (0 < (l.length:Int)∧0 < ((gt l 0).length:Int)) <|
  gd ((0≤4∧4≤10∧10≤(((gt (gt l 0) 0).Data).length:Int))) <|
  (bw0 n (List.drop 4 (List.take 10 ((gt (gt l 0) 0).Data)))).bind fun r1 =>
  (awg n ((gt (gt l 0) 0).Data) 10).bind fun r2 =>
  (awg n ((gt (gt l 0) 0).Data) 12).bind fun r3 =>
  (awg n ((gt (gt l 0) 0).Data) 14).bind fun r4 =>
  gd ((0≤1∧1≤(l.length:Int)∧(l.length:Int)≤(l.length:Int))) <|
  (ajg (fun (x:(List aj8)×Int)=>awb n l r1 r2 r3 r4 (List.drop 1 l) ((List.drop 1 l).length:Int) x.1 x.2) n ([],0)).bind fun y19 =>
  match y19 with
  | .inl vv =>
   some (vv.1,vv.2)
  | .inr vv =>
   bj0 n l r1 r2 r3 r4 vv
def dkr (n:Nat):Go.AE.Fn:=mkFn (A:=(List (List TRec))) (R:=aja×Int) 51 [(false,[.slice 84])] true (fun xs=>((cg (xs.getD 0 []) 0).toSl.map bje)) (fun a=>[[.slice (List.map ajh a)]]) (fun a=>bw3 n a) (fun r=>[.agg (cV r.1),.c (.int .i64) (.int r.2)]) (fun r=>[])
theorem fqy (n:Nat):aj1 jd (dkr n):=by
 have hΓ:=g1 (dyc n) (g1 (ezh n) (g1 (fzt n) (g1 (dkt n) (@g0 (aj1 jd)))));have qe:=aI @bjl.eq_1 (aI @dzx.eq_1 (aI @ewg.eq_1 @cza.eq_1));refine aj5 (Tryz.f51.body.getD .skip) h00 Tryz.func51 rfl Tryz.call51 (by decide) (by intro h;cases h) ?_;rintro l r H
 try dsimp only at H
 unfold bw3 at H;simp only [Tryz.f51,jr];refine rA ?_;refine jn fun K2 hK2=>?_;obtain ⟨⟨hg43,hg44,hg45⟩,H⟩:=aj3 H;refine rA ?_;refine cnd H (fun h4 H=>?_) (fun h4 H=>?_)
 ·refine rA ?_;refine jv (lf ?_);obtain rfl:=sI H;exact rt []
 refine jp (hK2 _ ?_);obtain ⟨⟨hg41,hg42⟩,H⟩:=aj3 H;refine rA ?_;obtain ⟨hg40,H⟩:=aj3 H;obtain ⟨r1,hr1,H⟩:=bind_some H;obtain ⟨r2,hr2,H⟩:=bind_some H;obtain ⟨r3,hr3,H⟩:=bind_some H;obtain ⟨r4,hr4,H⟩:=bind_some H;have q:=aI qe (aI hr1 (aI hr2 (aI hr3 hr4)));refine rAq ?_;refine jU (fun (x:(List UInt8)×Int×Int×Int×(List aj8))=>cy0 l x.1 x.2.1 x.2.2.1 x.2.2.2.1 x.2.2.2.2) (fun x=>bj0 n l x.1 x.2.1 x.2.2.1 x.2.2.2.1 x.2.2.2.2=some r) ?_ ?_
 ·obtain ⟨hg39,H⟩:=aj3 H;refine rA ?_;refine js ?_;obtain ⟨y19,hy19,Ho19⟩:=bind_some H;refine jO _ (fun x=>cyi l r1 r2 r3 r4 (List.drop 1 l) ((List.drop 1 l).length:Int) x.1 x.2) hy19 (wb [some 32,some 80,none]) ?_;rintro ⟨v_9,v54⟩ z19 H
  try dsimp only at H
  unfold awb at H;refine Sm.st (cyi.eq_1 ..) ?_;refine rA ?_;refine jn fun K21 hK21=>?_;refine cnd H (fun h22 H=>?_) (fun h22 H=>?_)
  ·refine jp (hK21 _ ?_);refine jU (fun (x:(List aj8))=>cy5 l r1 r2 r3 r4 x (List.drop 1 l) ((List.drop 1 l).length:Int) v54) (fun x=>bwj n l r1 r2 r3 r4 x (List.drop 1 l) ((List.drop 1 l).length:Int) v54=some z19) ?_ ?_
   ·refine js ?_;obtain ⟨hg38,H⟩:=aj3 H;refine rA ?_;refine rA ?_;refine js ?_;obtain ⟨y25,hy25,Ho25⟩:=bind_some H;refine jO _ (fun x=>cyo l r1 r2 r3 r4 (List.drop 1 l) ((List.drop 1 l).length:Int) v54 (gt (List.drop 1 l) (Int.toNat v54)) ((gt (List.drop 1 l) (Int.toNat v54)).length:Int) x.1 x.2) hy25 (wb [some 9008,some 9009,some 9010]) ?_;rintro ⟨v_11,v60⟩ z25 H
    try dsimp only at H
    unfold az7 at H;refine Sm.st (cyo.eq_1 ..) ?_;refine rA ?_;refine jn fun K27 hK27=>?_;refine cnd H (fun h28 H=>?_) (fun h28 H=>?_)
    ·refine jp (hK27 _ (jn fun K29 hK29=>js ?_));obtain ⟨hg37,H⟩:=aj3 H;refine rA ?_;obtain ⟨r7,hr7,H⟩:=bind_some H;have q:=aI qe hr7;refine rAq ?_;refine jn fun K32 hK32=>?_;refine rA ?_;refine cnd H (fun h34 H=>?_) (fun h34 H=>?_)
     ·refine rA ?_;refine jv (lf ?_);refine lx H fun hyy=>?_;subst hyy;have H:=Ho25
      try dsimp only at H
      refine lf ?_;refine lx H fun hyy=>?_;subst hyy;have H:=Ho19
      try dsimp only at H
      refine lf ?_;obtain rfl:=sI H;exact rt []
     refine jp (hK32 _ ?_);obtain ⟨hg36,H⟩:=aj3 H;refine eA ?_;refine hK29 _ ?_;refine eA ?_;refine lf ?_;exact nx H (wb [some 9017,some 9018,some 1216])
    refine jT (lf ?_);refine lx H fun hyy=>?_;subst hyy;have H:=Ho25
    try dsimp only at H
    refine lf ?_;exact ⟨_,H,wb [some 9017,some 9018,some 9019]⟩
   rintro v_10 H
   try dsimp only at H
   unfold bwj at H;refine Sm.st (cy5.eq_1 ..) ?_;refine eA ?_;refine lf ?_;exact nx H (wb [some 9011,some 9012,some 9013])
  refine jT (lf ?_);refine lx H fun hyy=>?_;subst hyy;have H:=Ho19
  try dsimp only at H
  refine lf ?_;exact ⟨(r1,r2,r3,r4,v_9),H,wb [some 9008,some 9009,some 9010]⟩
 rintro ⟨v,v_1,v_2,v_3,v_4⟩ H
 try dsimp only at H
 unfold bj0 at H;refine Sm.st (cy0.eq_1 ..) ?_;obtain ⟨r5,hr5,H⟩:=bind_some H;have q:=aI qe hr5;refine rAq ?_;refine jn fun K9 hK9=>?_;refine sX fun K10 hK10=>?_
 iterate 5 refine oX ?_
 refine ak7 H (fun hs11 H=>?_) (fun hs11 H=>?_)
 ·have q:=hs11;refine oFq ?_;refine oFq ?_;refine oPl ?_;refine hK10 _ ?_;refine cndT ?_;refine rA ?_;refine jv (lf ?_);obtain rfl:=sI H;exact rt []
 obtain ⟨hg14,H⟩:=aj3 H;obtain ⟨r6,hr6,H⟩:=bind_some H;have q:=aI hs11 hr6;refine oTM (byw n _ _ r6 hr6) [] [] ?_;refine oTG ?_;refine oPr ?_;refine hK10 _ ?_;refine cnd H (fun h15 H=>?_) (fun h15 H=>?_)
 ·refine rA ?_;refine jv (lf ?_);obtain rfl:=sI H;exact rt []
 refine jp (hK9 _ ?_);refine rA ?_;refine jv (lf ?_);obtain rfl:=sI H;exact rt []
abbrev bzk (l:List (List TRec)):S:=stB [(0,.c (.slice 84) (.slice (List.map ajh l)))] []
def azc (n:Nat) (l:List (List TRec)):Option Bool :=
 (bw3 n l).bind fun r2 =>
 (bwx n l).bind fun r3 =>
 bif (r2.2 == r3.2) then
  gd ((r2.2 == r3.2)=true) <|
  (bkn n r2.1).bind fun r4 =>
  (bk2 n r4 r3.1).bind fun r5 =>
  some r5
 else
  some false
abbrev bzd (l:List (List TRec)) (k:Int):S:=stB [(0,.c (.slice 84) (.slice (List.map ajh l))),(3,.c (.int .i64) (.int k))] []
def azb (n:Nat) (l:List (List TRec)) (k:Int):Option ((Int) ⊕ (((Bool) ⊕ (Unit)))) :=
 some (.inl (ja .i64 (k+1)))
abbrev bzj (l:List (List TRec)) (k:Int) (i:Int):S:=stB [(0,.c (.slice 84) (.slice (List.map ajh l))),(3,.c (.int .i64) (.int k)),(4,.c (.int .i64) (.int i))] []
def aw6 (n:Nat) (l:List (List TRec)) (k:Int) (i:Int):Option ((Int) ⊕ (((Bool) ⊕ (Unit)))) :=
 gd ((0≤k∧k < (l.length:Int))) <|
 bif (decide (i < ((gt l (Int.toNat k)).length:Int))) then
  gd ((0≤k∧k < (l.length:Int))∧(0≤i∧i < ((gt l (Int.toNat k)).length:Int))∧((!(decide ((((gt (gt l (Int.toNat k)) (Int.toNat i)).Key).length:Int) > 300)))=true→(0≤k∧k < (l.length:Int)))∧((!(decide ((((gt (gt l (Int.toNat k)) (Int.toNat i)).Key).length:Int) > 300)))=true→(0≤i∧i < ((gt l (Int.toNat k)).length:Int)))) <|
  bif (if (decide ((((gt (gt l (Int.toNat k)) (Int.toNat i)).Key).length:Int) > 300))=true then true else (decide ((((gt (gt l (Int.toNat k)) (Int.toNat i)).Data).length:Int) > 300))) then
   some (.inr (.inl true))
  else
   some (.inl (ja .i64 (i+1)))
 else
  some (.inr (.inr ()))
abbrev bzc (l:List (List TRec)) (k:Int):S:=stB [(0,.c (.slice 84) (.slice (List.map ajh l))),(3,.c (.int .i64) (.int k))] []
def aw5 (n:Nat) (l:List (List TRec)) (k:Int):Option ((Int) ⊕ (((Bool) ⊕ (Unit)))) :=
 bif (decide (k < (l.length:Int))) then
  gd ((0≤k∧k < (l.length:Int))) <|
  bif (decide (((gt l (Int.toNat k)).length:Int) > 20)) then
   some (.inr (.inl true))
  else
   (ajg (fun (x:Int)=>aw6 n l k x) n 0).bind fun y25 =>
   match y25 with
   | .inl vv =>
    some (.inr (.inl vv))
   | .inr vv =>
    azb n l k
 else
  some (.inr (.inr ()))
def aye (n:Nat) (l:List (List TRec)):Option Bool :=
 (bkr n).bind fun r1 =>
 bif (!r1) then
  some false
 else
  bif (decide ((l.length:Int) > 12)) then
   some true
  else
   (ajg (fun (x:Int)=>aw5 n l x) n 0).bind fun y16 =>
   match y16 with
   | .inl vv =>
    some vv
   | .inr vv =>
    azc n l
def dw4 (n:Nat):Go.AE.Fn:=mkFn (A:=(List (List TRec))) (R:=Bool) 12 [(false,[.slice 84])] false (fun xs=>((cg (xs.getD 0 []) 0).toSl.map bje)) (fun a=>[[.slice (List.map ajh a)]]) (fun a=>aye n a) (fun r=>[.c .bool (.bool r)]) (fun r=>[])
theorem dz7 (n:Nat):aj1 jd (dw4 n):=by
 have hΓ:=g1 (dyj n) (g1 (fqy n) (g1 (fj7 n) (g1 (ekf n) (g1 (eqz n) (@g0 (aj1 jd))))));have qe:=aI @czf.eq_1 (aI @dkr.eq_1 (aI @dz6.eq_1 (aI @dzv.eq_1 @djr.eq_1)));refine cF (Tryz.f12.body.getD .skip) Tryz.func12 rfl Tryz.call12 ?_;rintro l r H
 try dsimp only at H
 unfold aye at H;simp only [Tryz.f12,jr];refine rA ?_;refine jn fun K2 hK2=>?_;obtain ⟨r1,hr1,H⟩:=bind_some H;have q:=aI qe hr1;refine rAq ?_;refine cnd H (fun h4 H=>?_) (fun h4 H=>?_)
 ·refine rA ?_;refine jv (lf ?_);obtain rfl:=sI H;exact rt []
 refine jp (hK2 _ (jn fun K6 hK6=>?_));refine rA ?_;refine cnd H (fun h8 H=>?_) (fun h8 H=>?_)
 ·refine rA ?_;refine jv (lf ?_);obtain rfl:=sI H;exact rt []
 refine jp (hK6 _ ?_);refine jU (fun (x:Unit)=>bzk l) (fun x=>azc n l=some r) ?_ ?_
 ·refine rA ?_;refine js ?_;obtain ⟨y16,hy16,Ho16⟩:=bind_some H;refine jO _ (fun x=>bzc l x) hy16 (wb []) ?_;rintro k z16 H
  try dsimp only at H
  unfold aw5 at H;refine Sm.st (bzc.eq_1 ..) ?_;refine jn fun K17 hK17=>?_;refine rA ?_;refine cnd H (fun h19 H=>?_) (fun h19 H=>?_)
  ·refine jp (hK17 _ ?_);refine jU (fun (x:Unit)=>bzd l k) (fun x=>azb n l k=some z16) ?_ ?_
   ·refine js (jn fun K20 hK20=>?_);obtain ⟨hg38,H⟩:=aj3 H;refine rA ?_;refine cnd H (fun h22 H=>?_) (fun h22 H=>?_)
    ·refine rA ?_;refine jv (lf ?_);refine lx H fun hyy=>?_;subst hyy;have H:=Ho16
     try dsimp only at H
     refine lf ?_;obtain rfl:=sI H;exact rt []
    refine jp (hK20 _ ?_);refine rA ?_;refine js ?_;obtain ⟨y25,hy25,Ho25⟩:=bind_some H;refine jO _ (fun x=>bzj l k x) hy25 (wb []) ?_;rintro i z25 H
    try dsimp only at H
    unfold aw6 at H;refine Sm.st (bzj.eq_1 ..) ?_;refine jn fun K26 hK26=>?_;obtain ⟨hg37,H⟩:=aj3 H;refine rA ?_;refine cnd H (fun h28 H=>?_) (fun h28 H=>?_)
    ·refine jp (hK26 _ (jn fun K29 hK29=>js ?_));obtain ⟨⟨hg33,hg34,hg35,hg36⟩,H⟩:=aj3 H;refine rA ?_;refine cnd H (fun h31 H=>?_) (fun h31 H=>?_)
     ·refine rA ?_;refine jv (lf ?_);refine lx H fun hyy=>?_;subst hyy;have H:=Ho25
      try dsimp only at H
      refine lf ?_;refine lx H fun hyy=>?_;subst hyy;have H:=Ho16
      try dsimp only at H
      refine lf ?_;obtain rfl:=sI H;exact rt []
     refine jp (hK29 _ ?_);refine eA ?_;refine lf ?_;exact nx H (wb [])
    refine jT (lf ?_);refine lx H fun hyy=>?_;subst hyy;have H:=Ho25
    try dsimp only at H
    refine lf ?_;exact ⟨(),H,wb []⟩
   rintro ⟨⟩ H
   try dsimp only at H
   unfold azb at H;refine Sm.st (bzd.eq_1 ..) ?_;refine eA ?_;refine lf ?_;exact nx H (wb [])
  refine jT (lf ?_);refine lx H fun hyy=>?_;subst hyy;have H:=Ho16
  try dsimp only at H
  refine lf ?_;exact ⟨(),H,wb []⟩
 rintro ⟨⟩ H
 try dsimp only at H
 unfold azc at H;refine Sm.st (bzk.eq_1 ..) ?_;obtain ⟨r2,hr2,H⟩:=bind_some H;have q:=aI qe hr2;refine rAq ?_;obtain ⟨r3,hr3,H⟩:=bind_some H;have q:=aI qe hr3;refine rAq ?_;refine ak7 H (fun hs13 H=>?_) (fun hs13 H=>?_)
 ·obtain ⟨hg14,H⟩:=aj3 H;obtain ⟨r4,hr4,H⟩:=bind_some H;obtain ⟨r5,hr5,H⟩:=bind_some H;refine sQ [0,1,2,3,4,5,6,7,8,9] [(none,[],[]),(none,[],[]),(none,[],[]),(none,[],[]),(none,[80],[]),(some true,[],[1167,1166,1165,1164,1163,1162,1161,1160,1159,1158,1157,1156,1155,1154,1153,1152]),(some true,[112],[]),(some true,[1152],[1199,1198,1197,1196,1195,1194,1193,1192,1191,1190,1189,1188,1187,1186,1185,1184,1152]),(some true,[],[]),(none,[],[])] fun K12 hK12=>?_;have q:=aI qe (aI hs13 (aI hr4 hr5))
  iterate 10 refine oQq ?_
  refine byo ?_;refine hK12 _ (jv (lf ?_));obtain rfl:=sI H;exact rt []
 refine sQ [0,1,2,3,4,5,6,7,8,9] [(none,[],[]),(none,[],[]),(none,[],[]),(none,[],[]),(none,[80],[]),(some false,[],[]),(some false,[],[]),(some false,[],[]),(some false,[],[]),(none,[],[])] fun K12 hK12=>?_;have q:=aI qe hs13
 iterate 10 refine oQq ?_
 refine byo ?_;refine hK12 _ (jv (lf ?_));obtain rfl:=sI H;exact rt []
end Go.Proofs.YtijnkhcfondehaaGreatDoor
