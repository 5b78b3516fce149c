/- Text. -/
import Derived.Test.YtijnkhcfondehaaGreatDoorM
set_option maxHeartbeats 8000000
set_option linter.unusedVariables false
set_option linter.unusedSimpArgs false
set_option maxRecDepth 100000
open _root_.Bool renaming not_false→j9,not_true→Jg,false_eq_true→jw
open Go.AE.Sm renaming seqK→jj,ret→jp,skip→jo,block→jr
open Go.Proofs.Tryz renaming prog→jd
namespace Go.Proofs.YtijnkhcfondehaaGreatDoor
open Go.AE
def bkx (n:Nat) (v:aj9):Option Bool :=
 (bqh n).bind fun r1 =>
 bif (!r1) then
  some false
 else
  (ckp n v).bind fun r2 =>
  bif (!r2) then
   some true
  else
   (djh n v).bind fun r3 =>
   (bzz n v).bind fun r4 =>
   (cjn n r3).bind fun r5 =>
   (aq5 n v).bind fun r6 =>
   (bqp n r3).bind fun r7 =>
   gd (((!((r6 == 0) != r7))=true→(aq5 n v).isSome=true)) <|
   bif (if (if ((r6 == 0) != r7)=true then true else (((aq5 n v).getD default) != r4.2))=true then true else (r4.2 != r5.2)) then
    some false
   else
    gd ((!(if (if ((r6 == 0) != r7)=true then true else (((aq5 n v).getD default) != r4.2))=true then true else (r4.2 != r5.2)))=true) <|
    (bja n r4.1 r5.1).bind fun r8 =>
    bif (!r8) then
     some false
    else
     (bzi n v).bind fun r9 =>
     (dql n r3).bind fun r10 =>
     (dqi n r9 r10).bind fun r11 =>
     bif r11 then
      gd (r11=true) <|
      (djh n v).bind fun r12 =>
      (dqa n r12 r3).bind fun r13 =>
      some r13
     else
      some false
def dqj (n:Nat):Go.AE.Fn:=mkFn (A:=aj9) (R:=Bool) 5 [(true,[.str,.int .i64,.int .i64,.int .i64,.slice 41])] false (fun xs=>(⟨(cg (xs.getD 0 []) 0).toStr,(cg (xs.getD 0 []) 1).toInt,(cg (xs.getD 0 []) 2).toInt,(cg (xs.getD 0 []) 3).toInt,((cg (xs.getD 0 []) 4).toSl.map aqi)⟩:aj9)) (fun a=>[[.str a.Serial,.int a.Cyls,.int a.Heads,.int a.Size,.slice (List.map aj4 a.Sets)]]) (fun a=>bkx n a) (fun r=>[.c .bool (.bool r)]) (fun r=>[])
theorem fwx (n:Nat):aj1 jd (dqj n):=by
 have hΓ:=g1 (dwq n) (g1 (ezr n) (g1 (fwj n) (g1 (dw4 n) (g1 (ewh n) (g1 (aw4 n) (g1 (byx n) (g1 (dq6 n) (g1 (bzb n) (g1 (ekz n) (g1 (fj0 n) (g1 (eyl n) (@g0 (aj1 jd)))))))))))))
 have qe:=aI @cjk.eq_1 (aI @dwo.eq_1 (aI @eje.eq_1 (aI @cjf.eq_1 (aI @djv.eq_1 (aI @aqc.eq_1 (aI @bwa.eq_1 (aI @bzm.eq_1 (aI @bjr.eq_1 (aI @dzw.eq_1 (aI @dkm.eq_1 @dk5.eq_1))))))))))
 refine aj6 (Tryz.f5.body.getD .skip) h00 Tryz.func5 rfl Tryz.call5 (by decide) (by intro _ r;exact ⟨rfl,by simp⟩) ?_
 rintro v r H
 try dsimp only at H
 unfold bkx at H
 simp only [Tryz.f5,Option.getD]
 refine rA ?_
 refine jj fun K2 hK2=>?_
 obtain ⟨r1,hr1,H⟩:=bind_some H
 have q:=aI qe hr1
 refine rAq ?_
 refine cnd H (fun h4 H=>?_) (fun h4 H=>?_)
 ·refine rA ?_
  refine jp ?_
  refine lf ?_
  obtain rfl:=Option.some.inj H
  exact rt []
 refine jo ?_
 refine hK2 _ ?_
 refine jj fun K6 hK6=>?_
 obtain ⟨r2,hr2,H⟩:=bind_some H
 have q:=aI qe hr2
 refine rAq ?_
 refine cnd H (fun h8 H=>?_) (fun h8 H=>?_)
 ·refine rA ?_
  refine jp ?_
  refine lf ?_
  obtain rfl:=Option.some.inj H
  exact rt []
 refine jo ?_
 refine hK6 _ ?_
 obtain ⟨r3,hr3,H⟩:=bind_some H
 have q:=aI qe hr3
 refine rAq ?_
 obtain ⟨r4,hr4,H⟩:=bind_some H
 have q:=aI qe hr4
 refine rAq ?_
 obtain ⟨r5,hr5,H⟩:=bind_some H
 have q:=aI qe hr5
 refine rAq ?_
 refine jj fun K13 hK13=>?_
 obtain ⟨r6,hr6,H⟩:=bind_some H
 obtain ⟨r7,hr7,H⟩:=bind_some H
 obtain ⟨hg15,H⟩:=aj3 H
 refine azn H (fun hs16 H=>?_) (fun hs16 H=>?_)
 ·try simp only [z,seval,hr6,hr7] at hs16
  try simp only [hs16,j9,Jg,jw,true_implies,false_implies,forall_const] at hg15
  refine sQ [0,1,2,3,4,5,6,7,8,9,10,11,12,13,14,15,16,17,18,19,20,21,22] [(none,[16],[]),(none,[],[431,430,429,428,427,426,425,424,423,422,421,420,419,418,417,416]),(none,[],[]),(none,[48],[]),(none,[224],[479,478,477,476,475,474,473,472,471,470,469,468,467,466,465,464,224]),(none,[],[]),(none,[],[]),(none,[16],[]),(none,[],[543,542,541,540,539,538,537,536,535,534,533,532,531,530,529,528]),(none,[],[]),(none,[],[]),(none,[],[]),(none,[],[]),(none,[],[]),(none,[],[]),(none,[],[]),(none,[],[]),(none,[],[]),(none,[],[]),(none,[],[]),(some false,[],[]),(some false,[],[]),(some true,[],[])] fun K14 hK14=>?_
  have q:=aI qe (aI hr6 (aI hr7 hs16))
  iterate 23 refine oQq ?_
  refine bjh ?_
  refine hK14 _ ?_
  refine cndT ?_
  refine rA ?_
  refine jp ?_
  refine lf ?_
  obtain rfl:=Option.some.inj H
  exact rt []
 try simp only [z,seval,hr6,hr7] at hs16
 try simp only [hs16,j9,Jg,jw,true_implies,false_implies,forall_const] at hg15
 obtain ⟨hg19,H⟩:=aj3 H
 obtain ⟨r8,hr8,H⟩:=bind_some H
 refine sQ [0,1,2,3,4,5,6,7,8,9,10,11,12,13,14,15,16,17,18,19,20,21,22] [(none,[16],[]),(none,[],[431,430,429,428,427,426,425,424,423,422,421,420,419,418,417,416]),(none,[],[]),(none,[48],[]),(none,[224],[479,478,477,476,475,474,473,472,471,470,469,468,467,466,465,464,224]),(none,[],[]),(none,[],[]),(none,[16],[]),(none,[],[543,542,541,540,539,538,537,536,535,534,533,532,531,530,529,528]),(none,[],[]),(none,[],[]),(none,[],[]),(none,[],[]),(none,[],[]),(none,[],[]),(none,[],[]),(none,[],[]),(none,[],[]),(none,[],[]),(none,[],[]),(some true,[272,352],[735,734,733,732,731,730,729,728,727,726,725,724,723,722,721,720,272,352]),(some true,[],[]),(some false,[],[])] fun K14 hK14=>?_
 have q:=aI qe (aI hr6 (aI hr7 (aI hs16 hr8)))
 iterate 23 refine oQq ?_
 refine bjh ?_
 refine hK14 _ ?_
 refine cnd H (fun h20 H=>?_) (fun h20 H=>?_)
 ·refine rA ?_
  refine jp ?_
  refine lf ?_
  obtain rfl:=Option.some.inj H
  exact rt []
 refine jo ?_
 refine hK13 _ ?_
 obtain ⟨r9,hr9,H⟩:=bind_some H
 obtain ⟨r10,hr10,H⟩:=bind_some H
 obtain ⟨r11,hr11,H⟩:=bind_some H
 refine azn H (fun hs23 H=>?_) (fun hs23 H=>?_)
 ·try simp only [z,seval,hr9,hr10,hr11] at hs23
  obtain ⟨hg24,H⟩:=aj3 H
  obtain ⟨r12,hr12,H⟩:=bind_some H
  obtain ⟨r13,hr13,H⟩:=bind_some H
  refine sQ [0,1,2,3,4,5,6,7,8,9,10,11] [(none,[16],[]),(none,[],[799,798,797,796,795,794,793,792,791,790,789,788,787,786,785,784]),(none,[48],[]),(none,[224],[831,830,829,828,827,826,825,824,823,822,821,820,819,818,817,816,224]),(none,[784,816],[847,846,845,844,843,842,841,840,839,838,837,836,835,834,833,832,784,816]),(none,[],[]),(none,[16],[]),(some true,[],[895,894,893,892,891,890,889,888,887,886,885,884,883,882,881,880]),(some true,[48],[]),(some true,[224,880],[927,926,925,924,923,922,921,920,919,918,917,916,915,914,913,912,224,880]),(some true,[],[]),(none,[],[])] fun K22 hK22=>?_
  have q:=aI qe (aI hr9 (aI hr10 (aI hr11 (aI hs23 (aI hr12 hr13)))))
  iterate 12 refine oQq ?_
  refine bjh ?_
  refine hK22 _ ?_
  refine jp ?_
  refine lf ?_
  obtain rfl:=Option.some.inj H
  exact rt []
 try simp only [z,seval,hr9,hr10,hr11] at hs23
 refine sQ [0,1,2,3,4,5,6,7,8,9,10,11] [(none,[16],[]),(none,[],[799,798,797,796,795,794,793,792,791,790,789,788,787,786,785,784]),(none,[48],[]),(none,[224],[831,830,829,828,827,826,825,824,823,822,821,820,819,818,817,816,224]),(none,[784,816],[847,846,845,844,843,842,841,840,839,838,837,836,835,834,833,832,784,816]),(none,[],[]),(none,[16],[]),(some false,[],[]),(some false,[],[]),(some false,[],[]),(some false,[],[]),(none,[],[])] fun K22 hK22=>?_
 have q:=aI qe (aI hr9 (aI hr10 (aI hr11 hs23)))
 iterate 12 refine oQq ?_
 refine bjh ?_
 refine hK22 _ ?_
 refine jp ?_
 refine lf ?_
 obtain rfl:=Option.some.inj H
 exact rt []
abbrev dj1:S:=stB [] []
def bko (n:Nat):Option ((List UInt8)×Int×Bool) :=
 some ([],0,false)
abbrev djj (track:Int) (v:aj9) (v16:Int) (v17:Int):S:=stB [(1,.c (.int .i64) (.int track)),(15,.c (.slice 41) (.slice (List.map aj4 v.Sets))),(16,.c (.int .i64) (.int v16)),(17,.c (.int .i64) (.int v17))] []
def ckr (n:Nat) (track:Int) (v:aj9) (v16:Int) (v17:Int):Option ((Int) ⊕ ((((List UInt8)×Int×Bool) ⊕ (Unit)))) :=
 bif (decide (v17 < v16)) then
  gd ((0≤v17∧v17 < (v.Sets.length:Int))) <|
  (azt n ((gt v.Sets (Int.toNat v17)).Extents) track).bind fun r2 =>
  bif r2.2 then
   some (.inr (.inl ((gt v.Sets (Int.toNat v17)).Name,r2.1,true)))
  else
   some (.inl (IntKind.wrap .i64 (v17+1)))
 else
  some (.inr (.inr ()))
def bzh (n:Nat) (v:aj9) (track:Int):Option ((List UInt8)×Int×Bool) :=
 (aq5 n v).bind fun r1 =>
 bif (r1 != 0) then
  some ([],0,false)
 else
  (aql (fun (x:Int)=>ckr n track v (v.Sets.length:Int) x) n 0).bind fun y8 =>
  match y8 with
  | .inl vv =>
   some (vv.1,vv.2.1,vv.2.2)
  | .inr vv =>
   bko n
def dy0 (n:Nat):Go.AE.Fn:=mkFn (A:=aj9×Int) (R:=(List UInt8)×Int×Bool) 24 [(true,[.str,.int .i64,.int .i64,.int .i64,.slice 41]),(false,[.int .i64])] false (fun xs=>((⟨(cg (xs.getD 0 []) 0).toStr,(cg (xs.getD 0 []) 1).toInt,(cg (xs.getD 0 []) 2).toInt,(cg (xs.getD 0 []) 3).toInt,((cg (xs.getD 0 []) 4).toSl.map aqi)⟩:aj9),(cg (xs.getD 1 []) 0).toInt)) (fun a=>[[.str a.1.Serial,.int a.1.Cyls,.int a.1.Heads,.int a.1.Size,.slice (List.map aj4 a.1.Sets)],[.int a.2]]) (fun a=>bzh n a.1 a.2) (fun r=>[.c .str (.str r.1),.c (.int .i64) (.int r.2.1),.c .bool (.bool r.2.2)]) (fun r=>[])
theorem eyc (n:Nat):aj1 jd (dy0 n):=by
 have hΓ:=g1 (aw4 n) (g1 (ewf n) (@g0 (aj1 jd)))
 have qe:=aI @aqc.eq_1 @ay6.eq_1
 refine aj6 (Tryz.f24.body.getD .skip) h00 Tryz.func24 rfl Tryz.call24 (by decide) (by intro _ r;exact ⟨rfl,by simp⟩) ?_
 rintro ⟨v,track⟩ r H
 try dsimp only at H
 unfold bzh at H
 simp only [Tryz.f24,Option.getD]
 refine rA ?_
 refine jj fun K2 hK2=>?_
 obtain ⟨r1,hr1,H⟩:=bind_some H
 have q:=aI qe hr1
 refine rAq ?_
 refine cnd H (fun h4 H=>?_) (fun h4 H=>?_)
 ·refine rA ?_
  refine jp ?_
  refine lf ?_
  obtain rfl:=Option.some.inj H
  exact rt []
 refine jo ?_
 refine hK2 _ ?_
 refine Sm.cut (fun (x:Unit)=>dj1) (fun x=>bko n=some r) ?_ ?_
 ·refine rA ?_
  refine jr ?_
  obtain ⟨y8,hy8,Ho8⟩:=bind_some H
  refine Sm.loopB _ (fun x=>djj track v (v.Sets.length:Int) x) hy8 (wb []) ?_
  rintro v17 z8 H
  try dsimp only at H
  unfold ckr at H
  refine Sm.st (djj.eq_1 ..) ?_
  refine rA ?_
  refine jj fun K10 hK10=>?_
  refine cnd H (fun h11 H=>?_) (fun h11 H=>?_)
  ·refine jo ?_
   refine hK10 _ ?_
   refine jj fun K12 hK12=>?_
   refine jr ?_
   obtain ⟨hg18,H⟩:=aj3 H
   refine rA ?_
   obtain ⟨r2,hr2,H⟩:=bind_some H
   have q:=aI qe hr2
   refine rAq ?_
   refine rA ?_
   refine cnd H (fun h16 H=>?_) (fun h16 H=>?_)
   ·refine rA ?_
    refine jp ?_
    refine lf ?_
    refine lx H fun hyy=>?_
    subst hyy
    have H:=Ho8
    try dsimp only at H
    refine lf ?_
    obtain rfl:=Option.some.inj H
    exact rt []
   refine jo ?_
   refine hK12 _ ?_
   refine eA ?_
   refine lf ?_
   exact nx H (wb [])
  refine Sm.exit ?_
  refine lf ?_
  refine lx H fun hyy=>?_
  subst hyy
  have H:=Ho8
  try dsimp only at H
  refine lf ?_
  exact ⟨(),H,wb []⟩
 rintro ⟨⟩ H
 try dsimp only at H
 unfold bko at H
 refine Sm.st (dj1.eq_1 ..) ?_
 refine rA ?_
 refine jp ?_
 refine lf ?_
 obtain rfl:=Option.some.inj H
 exact rt []
def bjz (n:Nat):Option Bool :=
 (bzq n [86,49] 4 2 1).bind fun r1 =>
 (awk n).bind fun r2 =>
 (az0 n (⟨r1.1.Serial,r1.1.Cyls,r1.1.Heads,r1.1.Size,[]⟩:aj9) (⟨[65],r2,[],0⟩:aja) 3).bind fun r3 =>
 (awk n).bind fun r4 =>
 (az0 n r3.1 (⟨[66],r4,[],0⟩:aja) 2).bind fun r5 =>
 (cqn n r5.1 [65]).bind fun r6 =>
 (awk n).bind fun r7 =>
 (az0 n r6.1 (⟨[67],r7,[],0⟩:aja) 4).bind fun r8 =>
 (bzh n r8.1 7).bind fun r9 =>
 (bzh n r8.1 5).bind fun r10 =>
 (bzh n r8.1 1).bind fun r11 =>
 (cko n r8.1 [66] 1).bind fun r12 =>
 (awk n).bind fun r13 =>
 (ckk n r8.1 [67] r13 2).bind fun r14 =>
 (cqw n r14.1 [67] 0).bind fun r15 =>
 gd (((!(if (if (if (if (if (if (if (if (if (if (if (r8.2 != 0)=true then true else (r9.1 != [67]))=true then true else (r9.2.1 != 3))=true then true else (!r9.2.2))=true then true else (r10.1 != [66]))=true then true else (r10.2.1 != 0))=true then true else (!r10.2.2))=true then true else r11.2.2)=true then true else (r12.2 != 200))=true then true else (r14.2 != 0))=true then true else (r15.2 != 0))=true then true else (((r15.1.Sets.length:Nat):Int) != 2)))=true→1 < (r15.1.Sets.length:Int))∧((!(if (if (if (if (if (if (if (if (if (if (if (r8.2 != 0)=true then true else (r9.1 != [67]))=true then true else (r9.2.1 != 3))=true then true else (!r9.2.2))=true then true else (r10.1 != [66]))=true then true else (r10.2.1 != 0))=true then true else (!r10.2.2))=true then true else r11.2.2)=true then true else (r12.2 != 200))=true then true else (r14.2 != 0))=true then true else (r15.2 != 0))=true then true else (((r15.1.Sets.length:Nat):Int) != 2)))=true→1 < r15.1.Sets.length)) <|
 bif (if (if (if (if (if (if (if (if (if (if (if (r8.2 != 0)=true then true else (r9.1 != [67]))=true then true else (r9.2.1 != 3))=true then true else (!r9.2.2))=true then true else (r10.1 != [66]))=true then true else (r10.2.1 != 0))=true then true else (!r10.2.2))=true then true else r11.2.2)=true then true else (r12.2 != 200))=true then true else (r14.2 != 0))=true then true else (r15.2 != 0))=true then true else (((r15.1.Sets.length:Nat):Int) != 2)) then
  some false
 else
  gd ((!(if (if (if (if (if (if (if (if (if (if (if (r8.2 != 0)=true then true else (r9.1 != [67]))=true then true else (r9.2.1 != 3))=true then true else (!r9.2.2))=true then true else (r10.1 != [66]))=true then true else (r10.2.1 != 0))=true then true else (!r10.2.2))=true then true else r11.2.2)=true then true else (r12.2 != 200))=true then true else (r14.2 != 0))=true then true else (r15.2 != 0))=true then true else (((r15.1.Sets.length:Nat):Int) != 2)))=true∧(!(if (if (if (if (if (if (if (if (if (if (if (r8.2 != 0)=true then true else (r9.1 != [67]))=true then true else (r9.2.1 != 3))=true then true else (!r9.2.2))=true then true else (r10.1 != [66]))=true then true else (r10.2.1 != 0))=true then true else (!r10.2.2))=true then true else r11.2.2)=true then true else (r12.2 != 200))=true then true else (r14.2 != 0))=true then true else (r15.2 != 0))=true then true else (((r15.1.Sets.length:Nat):Int) != 2)))=true) <|
  (azx n ((gt r15.1.Sets 1).Extents) [(⟨2,2⟩:aj0)]).bind fun r16 =>
  bif (!r16) then
   some false
  else
   (bzq n [86,49] 1 1 1).bind fun r17 =>
   (bzq n [118,49] 1 2 1).bind fun r18 =>
   (bzz n r15.1).bind fun r19 =>
   gd (((!(if (if (r17.2 != 1)=true then true else (r18.2 != 1))=true then true else (((r19.1.length:Nat):Int) != 2)))=true→0 < (r19.1.length:Int))∧((!(if (if (r17.2 != 1)=true then true else (r18.2 != 1))=true then true else (((r19.1.length:Nat):Int) != 2)))=true→0 < r19.1.length)∧((!(if (if (if (r17.2 != 1)=true then true else (r18.2 != 1))=true then true else (((r19.1.length:Nat):Int) != 2))=true then true else (((gt r19.1 0).length:Int) != 1)))=true→0 < (r19.1.length:Int))∧((!(if (if (if (r17.2 != 1)=true then true else (r18.2 != 1))=true then true else (((r19.1.length:Nat):Int) != 2))=true then true else (((gt r19.1 0).length:Int) != 1)))=true→0 < r19.1.length)∧((!(if (if (if (r17.2 != 1)=true then true else (r18.2 != 1))=true then true else (((r19.1.length:Nat):Int) != 2))=true then true else (((gt r19.1 0).length:Int) != 1)))=true→0 < ((gt r19.1 0).length:Int))∧((!(if (if (if (if (r17.2 != 1)=true then true else (r18.2 != 1))=true then true else (((r19.1.length:Nat):Int) != 2))=true then true else (((gt r19.1 0).length:Int) != 1))=true then true else (((gt (gt r19.1 0) 0).R) != 3)))=true→1 < (r19.1.length:Int))∧((!(if (if (if (if (r17.2 != 1)=true then true else (r18.2 != 1))=true then true else (((r19.1.length:Nat):Int) != 2))=true then true else (((gt r19.1 0).length:Int) != 1))=true then true else (((gt (gt r19.1 0) 0).R) != 3)))=true→1 < r19.1.length)) <|
   bif (if (if (if (if (if (r17.2 != 1)=true then true else (r18.2 != 1))=true then true else (((r19.1.length:Nat):Int) != 2))=true then true else (((gt r19.1 0).length:Int) != 1))=true then true else (((gt (gt r19.1 0) 0).R) != 3))=true then true else (((gt r19.1 1).length:Int) != 2)) then
    some false
   else
    (ajg n [65,46,66,49]).bind fun r20 =>
    gd ((r20=true→(ajg n [65,46,46,66]).isSome=true)∧((if r20=true then (!((ajg n [65,46,46,66]).getD default)) else false)=true→(ajg n [49,65]).isSome=true)∧((if (if r20=true then (!((ajg n [65,46,46,66]).getD default)) else false)=true then (!((ajg n [49,65]).getD default)) else false)=true→(ajg n [65,66,67,68,69,70,71,72,73]).isSome=true)∧((if (if (if r20=true then (!((ajg n [65,46,46,66]).getD default)) else false)=true then (!((ajg n [49,65]).getD default)) else false)=true then (!((ajg n [65,66,67,68,69,70,71,72,73]).getD default)) else false)=true→(ajg n [36,88]).isSome=true)∧((if (if (if (if r20=true then (!((ajg n [65,46,46,66]).getD default)) else false)=true then (!((ajg n [49,65]).getD default)) else false)=true then (!((ajg n [65,66,67,68,69,70,71,72,73]).getD default)) else false)=true then ((ajg n [36,88]).getD default) else false)=true→(ajg n []).isSome=true)∧((if (if (if (if (if r20=true then (!((ajg n [65,46,46,66]).getD default)) else false)=true then (!((ajg n [49,65]).getD default)) else false)=true then (!((ajg n [65,66,67,68,69,70,71,72,73]).getD default)) else false)=true then ((ajg n [36,88]).getD default) else false)=true then (!((ajg n []).getD default)) else false)=true→(ajg n [65,46]).isSome=true)∧((if (if (if (if (if (if r20=true then (!((ajg n [65,46,46,66]).getD default)) else false)=true then (!((ajg n [49,65]).getD default)) else false)=true then (!((ajg n [65,66,67,68,69,70,71,72,73]).getD default)) else false)=true then ((ajg n [36,88]).getD default) else false)=true then (!((ajg n []).getD default)) else false)=true then (!((ajg n [65,46]).getD default)) else false)=true→(bza n).isSome=true)∧((if (if (if (if (if (if (if r20=true then (!((ajg n [65,46,46,66]).getD default)) else false)=true then (!((ajg n [49,65]).getD default)) else false)=true then (!((ajg n [65,66,67,68,69,70,71,72,73]).getD default)) else false)=true then ((ajg n [36,88]).getD default) else false)=true then (!((ajg n []).getD default)) else false)=true then (!((ajg n [65,46]).getD default)) else false)=true then ((bza n).getD default) else false)=true→(bqh n).isSome=true)) <|
    some (if (if (if (if (if (if (if (if r20=true then (!((ajg n [65,46,46,66]).getD default)) else false)=true then (!((ajg n [49,65]).getD default)) else false)=true then (!((ajg n [65,66,67,68,69,70,71,72,73]).getD default)) else false)=true then ((ajg n [36,88]).getD default) else false)=true then (!((ajg n []).getD default)) else false)=true then (!((ajg n [65,46]).getD default)) else false)=true then ((bza n).getD default) else false)=true then ((bqh n).getD default) else false)
def dzi (n:Nat):Go.AE.Fn:=mkFn (A:=Unit) (R:=Bool) 11 [] false (fun xs=>()) (fun a=>[]) (fun a=>bjz n) (fun r=>[.c .bool (.bool r)]) (fun r=>[])
theorem dzb (n:Nat):aj1 jd (dzi n):=by
 have hΓ:=g1 (dyc n) (g1 (cj2 n) (g1 (byd n) (g1 (ew6 n) (g1 (eyc n) (g1 (ewu n) (g1 (ezj n) (g1 (ewe n) (g1 (cwv n) (g1 (dw4 n) (g1 (dqr n) (g1 (ey1 n) (g1 (dwq n) (@g0 (aj1 jd))))))))))))))
 have qe:=aI @cyh.eq_1 (aI @bqy.eq_1 (aI @bw0.eq_1 (aI @dje.eq_1 (aI @dy0.eq_1 (aI @dwu.eq_1 (aI @dwt.eq_1 (aI @cyb.eq_1 (aI @bz1.eq_1 (aI @cjf.eq_1 (aI @cw8.eq_1 (aI @dkk.eq_1 @cjk.eq_1)))))))))))
 refine aj6 (Tryz.f11.body.getD .skip) h00 Tryz.func11 rfl Tryz.call11 (by decide) (by intro _ r;exact ⟨rfl,by simp⟩) ?_
 rintro ⟨⟩ r H
 try dsimp only at H
 unfold bjz at H
 simp only [Tryz.f11,Option.getD]
 refine rA ?_
 obtain ⟨r1,hr1,H⟩:=bind_some H
 have q:=aI qe hr1
 refine rAq ?_
 obtain ⟨r2,hr2,H⟩:=bind_some H
 obtain ⟨r3,hr3,H⟩:=bind_some H
 refine sQ [0,1,2,3,4,5,6,7] [(none,[16],[]),(none,[],[511,510,509,508,507,506,505,504,503,502,501,500,499,498,497,496]),(none,[],[]),(none,[],[543,542,541,540,539,538,537,536,535,534,533,532,531,530,529,528]),(none,[],[]),(none,[],[]),(none,[],[]),(none,[16,528],[16])] fun K3 hK3=>?_
 have q:=aI qe (aI hr2 hr3)
 iterate 8 refine oQq ?_
 refine bjh ?_
 refine hK3 _ ?_
 obtain ⟨r4,hr4,H⟩:=bind_some H
 obtain ⟨r5,hr5,H⟩:=bind_some H
 refine sQ [0,1,2,3,4,5,6,7] [(none,[16],[]),(none,[],[623,622,621,620,619,618,617,616,615,614,613,612,611,610,609,608]),(none,[],[]),(none,[528],[655,654,653,652,651,650,649,648,647,646,645,644,643,642,641,640,528]),(none,[],[]),(none,[],[]),(none,[],[]),(none,[16,640],[16])] fun K4 hK4=>?_
 have q:=aI qe (aI hr4 hr5)
 iterate 8 refine oQq ?_
 refine bjh ?_
 refine hK4 _ ?_
 obtain ⟨r6,hr6,H⟩:=bind_some H
 have q:=aI qe hr6
 refine rAq ?_
 obtain ⟨r7,hr7,H⟩:=bind_some H
 obtain ⟨r8,hr8,H⟩:=bind_some H
 refine sQ [0,1,2,3,4,5,6,7,8] [(none,[16],[]),(none,[],[815,814,813,812,811,810,809,808,807,806,805,804,803,802,801,800]),(none,[],[]),(none,[],[847,846,845,844,843,842,841,840,839,838,837,836,835,834,833,832]),(none,[],[]),(none,[],[]),(none,[],[]),(none,[16,832],[16]),(none,[],[])] fun K6 hK6=>?_
 have q:=aI qe (aI hr7 hr8)
 iterate 9 refine oQq ?_
 refine bjh ?_
 refine hK6 _ ?_
 obtain ⟨r9,hr9,H⟩:=bind_some H
 have q:=aI qe hr9
 refine rAq ?_
 obtain ⟨r10,hr10,H⟩:=bind_some H
 have q:=aI qe hr10
 refine rAq ?_
 obtain ⟨r11,hr11,H⟩:=bind_some H
 have q:=aI qe hr11
 refine rAq ?_
 obtain ⟨r12,hr12,H⟩:=bind_some H
 have q:=aI qe hr12
 refine rAq ?_
 obtain ⟨r13,hr13,H⟩:=bind_some H
 obtain ⟨r14,hr14,H⟩:=bind_some H
 refine sQ [0,1,2,3,4,5,6,7,8] [(none,[16],[]),(none,[],[1295,1294,1293,1292,1291,1290,1289,1288,1287,1286,1285,1284,1283,1282,1281,1280]),(none,[832],[1311,1310,1309,1308,1307,1306,1305,1304,1303,1302,1301,1300,1299,1298,1297,1296,832]),(none,[],[]),(none,[],[]),(none,[],[]),(none,[],[240]),(none,[240,1296],[240]),(none,[],[])] fun K11 hK11=>?_
 have q:=aI qe (aI hr13 hr14)
 iterate 9 refine oQq ?_
 refine bjh ?_
 refine hK11 _ ?_
 obtain ⟨r15,hr15,H⟩:=bind_some H
 have q:=aI qe hr15
 refine rAq ?_
 refine jj fun K13 hK13=>?_
 refine sX fun K14 hK14=>?_
 obtain ⟨⟨hg15,hg16⟩,H⟩:=aj3 H
 have q:=qe
 iterate 54 refine oXq ?_
 refine azn H (fun hs17 H=>?_) (fun hs17 H=>?_)
 ·try simp only [hs17,j9,Jg,jw,true_implies,false_implies,forall_const] at hg15
  try simp only [hs17,j9,Jg,jw,true_implies,false_implies,forall_const] at hg16
  have q:=aI qe hs17
  refine oFq ?_
  refine oFq ?_
  refine oFq ?_
  refine oPl ?_
  refine hK14 _ ?_
  refine cndT ?_
  refine rA ?_
  refine jp ?_
  refine lf ?_
  obtain rfl:=Option.some.inj H
  exact rt []
 try simp only [hs17,j9,Jg,jw,true_implies,false_implies,forall_const] at hg15
 try simp only [hs17,j9,Jg,jw,true_implies,false_implies,forall_const] at hg16
 obtain ⟨⟨hg20,hg21⟩,H⟩:=aj3 H
 obtain ⟨r16,hr16,H⟩:=bind_some H
 have q:=aI qe (aI hs17 hr16)
 refine oTG ?_
 refine oTG ?_
 refine oTG ?_
 refine oPr ?_
 refine hK14 _ ?_
 refine cnd H (fun h22 H=>?_) (fun h22 H=>?_)
 ·refine rA ?_
  refine jp ?_
  refine lf ?_
  obtain rfl:=Option.some.inj H
  exact rt []
 refine jo ?_
 refine hK13 _ ?_
 obtain ⟨r17,hr17,H⟩:=bind_some H
 have q:=aI qe hr17
 refine rAq ?_
 obtain ⟨r18,hr18,H⟩:=bind_some H
 have q:=aI qe hr18
 refine rAq ?_
 obtain ⟨r19,hr19,H⟩:=bind_some H
 have q:=aI qe hr19
 refine rAq ?_
 refine jj fun K27 hK27=>?_
 obtain ⟨⟨hg40,hg41,hg42,hg43,hg44,hg45,hg46⟩,H⟩:=aj3 H
 refine rA ?_
 refine cnd H (fun h29 H=>?_) (fun h29 H=>?_)
 ·refine rA ?_
  refine jp ?_
  refine lf ?_
  obtain rfl:=Option.some.inj H
  exact rt []
 refine jo ?_
 refine hK27 _ ?_
 obtain ⟨r20,hr20,H⟩:=bind_some H
 obtain ⟨⟨hg32,hg33,hg34,hg35,hg36,hg37,hg38,hg39⟩,H⟩:=aj3 H
 have q:=aI qe hr20
 refine rAq ?_
 refine jp ?_
 refine lf ?_
 obtain rfl:=Option.some.inj H
 exact rt []
end Go.Proofs.YtijnkhcfondehaaGreatDoor
