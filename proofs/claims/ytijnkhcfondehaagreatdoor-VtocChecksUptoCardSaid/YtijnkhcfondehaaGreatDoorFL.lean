/- Text. -/
import Derived.Test.YtijnkhcfondehaaGreatDoorM
set_option maxHeartbeats 8000000
set_option linter.unusedVariables false
set_option linter.unusedSimpArgs false
set_option maxRecDepth 100000
open _root_.Bool renaming not_false→jY,not_true→jQ,false_eq_true→jl
open Go.AE.Sm renaming seqK→jp,ret→jx,skip→js
namespace Go.Proofs.YtijnkhcfondehaaGreatDoor
open Go.AE
def ay7 (n:Nat) (v:aja):Option Bool :=
 (bym n).bind fun r1 =>
 bif (!r1) then
  some false
 else
  (bq5 n v).bind fun r2 =>
  bif (!r2) then
   some true
  else
   (bkp n v).bind fun r3 =>
   (bwt n v).bind fun r4 =>
   (bqt n r3).bind fun r5 =>
   (awd n v).bind fun r6 =>
   (ayl n r3).bind fun r7 =>
   gd (((!((r6 == 0) != r7))=true→(awd n v).isSome=true)) <|
   bif (if (if ((r6 == 0) != r7)=true then true else (((awd n v).getD default) != r4.2))=true then true else (r4.2 != r5.2)) then
    some false
   else
    gd ((!(if (if ((r6 == 0) != r7)=true then true else (((awd n v).getD default) != r4.2))=true then true else (r4.2 != r5.2)))=true) <|
    (awe n r4.1 r5.1).bind fun r8 =>
    bif (!r8) then
     some false
    else
     (bz2 n v).bind fun r9 =>
     (bkq n r3).bind fun r10 =>
     (bwo n r9 r10).bind fun r11 =>
     bif r11 then
      gd (r11=true) <|
      (bkp n v).bind fun r12 =>
      (bkg n r12 r3).bind fun r13 =>
      some r13
     else
      some false
def djy (n:Nat):Go.AE.Fn:=mkFn (A:=aja) (R:=Bool) 5 [(true,[.str,.int .i64,.int .i64,.int .i64,.slice 41])] false (fun xs=>(⟨(cg (xs.getD 0 []) 0).toStr,(cg (xs.getD 0 []) 1).toInt,(cg (xs.getD 0 []) 2).toInt,(cg (xs.getD 0 []) 3).toInt,((cg (xs.getD 0 []) 4).toSl.map aql)⟩:aja)) (fun a=>[[.str a.Serial,.int a.Cyls,.int a.Heads,.int a.Size,.slice (List.map aj5 a.Sets)]]) (fun a=>ay7 n a) (fun r=>[.c .bool (.bool r)]) (fun r=>[])
theorem dq1 (n:Nat):aj1 Tryz.prog (djy n):=by
 have hΓ:=g1 (ekc n) (g1 (ezx n) (g1 (fzl n) (g1 (ezi n) (g1 (ewe n) (g1 (bwy n) (g1 (cjq n) (g1 (djo n) (g1 (djs n) (g1 (eyi n) (g1 (fjh n) (g1 (fj1 n) (@g0 (aj1 Tryz.prog)))))))))))))
 have qe:=aI @dqs.eq_1 (aI @dw1.eq_1 (aI @dyy.eq_1 (aI @dqp.eq_1 (aI @djf.eq_1 (aI @ayd.eq_1 (aI @bzr.eq_1 (aI @bkw.eq_1 (aI @cwf.eq_1 (aI @dza.eq_1 (aI @dk7.eq_1 @dzk.eq_1))))))))))
 refine aj7 (Tryz.f5.body.getD .skip) h00 Tryz.func5 rfl Tryz.call5 (by decide) (by intro _ r;exact ⟨rfl,by simp⟩) ?_
 rintro v r H
 try dsimp only at H
 unfold ay7 at H
 simp only [Tryz.f5,Option.getD]
 refine rA ?_
 refine jp fun K2 hK2=>?_
 obtain ⟨r1,hr1,H⟩:=bind_some H
 have q:=aI qe hr1
 refine rAq ?_
 refine cnd H (fun h4 H=>?_) (fun h4 H=>?_)
 ·refine rA ?_
  refine jx ?_
  refine lf ?_
  obtain rfl:=Option.some.inj H
  exact rt []
 refine js ?_
 refine hK2 _ ?_
 refine jp fun K6 hK6=>?_
 obtain ⟨r2,hr2,H⟩:=bind_some H
 have q:=aI qe hr2
 refine rAq ?_
 refine cnd H (fun h8 H=>?_) (fun h8 H=>?_)
 ·refine rA ?_
  refine jx ?_
  refine lf ?_
  obtain rfl:=Option.some.inj H
  exact rt []
 refine js ?_
 refine hK6 _ ?_
 obtain ⟨r3,hr3,H⟩:=bind_some H
 have q:=aI qe hr3
 refine rAq ?_
 obtain ⟨r4,hr4,H⟩:=bind_some H
 have q:=aI qe hr4
 refine rAq ?_
 obtain ⟨r5,hr5,H⟩:=bind_some H
 have q:=aI qe hr5
 refine rAq ?_
 refine jp fun K13 hK13=>?_
 obtain ⟨r6,hr6,H⟩:=bind_some H
 obtain ⟨r7,hr7,H⟩:=bind_some H
 obtain ⟨hg15,H⟩:=aj4 H
 refine bqo H (fun hs16 H=>?_) (fun hs16 H=>?_)
 ·try simp only [z,seval,hr6,hr7] at hs16
  try simp only [hs16,jY,jQ,jl,true_implies,false_implies,forall_const] at hg15
  refine sQ [0,1,2,3,4,5,6,7,8,9,10,11,12,13,14,15,16,17,18,19,20,21,22] [(none,[16],[]),(none,[],[431,430,429,428,427,426,425,424,423,422,421,420,419,418,417,416]),(none,[],[]),(none,[48],[]),(none,[224],[479,478,477,476,475,474,473,472,471,470,469,468,467,466,465,464,224]),(none,[],[]),(none,[],[]),(none,[16],[]),(none,[],[543,542,541,540,539,538,537,536,535,534,533,532,531,530,529,528]),(none,[],[]),(none,[],[]),(none,[],[]),(none,[],[]),(none,[],[]),(none,[],[]),(none,[],[]),(none,[],[]),(none,[],[]),(none,[],[]),(none,[],[]),(some false,[],[]),(some false,[],[]),(some true,[],[])] fun K14 hK14=>?_
  have q:=aI qe (aI hr6 (aI hr7 hs16))
  iterate 23 refine oQq ?_
  refine ck2 ?_
  refine hK14 _ ?_
  refine cndT ?_
  refine rA ?_
  refine jx ?_
  refine lf ?_
  obtain rfl:=Option.some.inj H
  exact rt []
 try simp only [z,seval,hr6,hr7] at hs16
 try simp only [hs16,jY,jQ,jl,true_implies,false_implies,forall_const] at hg15
 obtain ⟨hg19,H⟩:=aj4 H
 obtain ⟨r8,hr8,H⟩:=bind_some H
 refine sQ [0,1,2,3,4,5,6,7,8,9,10,11,12,13,14,15,16,17,18,19,20,21,22] [(none,[16],[]),(none,[],[431,430,429,428,427,426,425,424,423,422,421,420,419,418,417,416]),(none,[],[]),(none,[48],[]),(none,[224],[479,478,477,476,475,474,473,472,471,470,469,468,467,466,465,464,224]),(none,[],[]),(none,[],[]),(none,[16],[]),(none,[],[543,542,541,540,539,538,537,536,535,534,533,532,531,530,529,528]),(none,[],[]),(none,[],[]),(none,[],[]),(none,[],[]),(none,[],[]),(none,[],[]),(none,[],[]),(none,[],[]),(none,[],[]),(none,[],[]),(none,[],[]),(some true,[272,352],[735,734,733,732,731,730,729,728,727,726,725,724,723,722,721,720,272,352]),(some true,[],[]),(some false,[],[])] fun K14 hK14=>?_
 have q:=aI qe (aI hr6 (aI hr7 (aI hs16 hr8)))
 iterate 23 refine oQq ?_
 refine ck2 ?_
 refine hK14 _ ?_
 refine cnd H (fun h20 H=>?_) (fun h20 H=>?_)
 ·refine rA ?_
  refine jx ?_
  refine lf ?_
  obtain rfl:=Option.some.inj H
  exact rt []
 refine js ?_
 refine hK13 _ ?_
 obtain ⟨r9,hr9,H⟩:=bind_some H
 obtain ⟨r10,hr10,H⟩:=bind_some H
 obtain ⟨r11,hr11,H⟩:=bind_some H
 refine bqo H (fun hs23 H=>?_) (fun hs23 H=>?_)
 ·try simp only [z,seval,hr9,hr10,hr11] at hs23
  obtain ⟨hg24,H⟩:=aj4 H
  obtain ⟨r12,hr12,H⟩:=bind_some H
  obtain ⟨r13,hr13,H⟩:=bind_some H
  refine sQ [0,1,2,3,4,5,6,7,8,9,10,11] [(none,[16],[]),(none,[],[799,798,797,796,795,794,793,792,791,790,789,788,787,786,785,784]),(none,[48],[]),(none,[224],[831,830,829,828,827,826,825,824,823,822,821,820,819,818,817,816,224]),(none,[784,816],[847,846,845,844,843,842,841,840,839,838,837,836,835,834,833,832,784,816]),(none,[],[]),(none,[16],[]),(some true,[],[895,894,893,892,891,890,889,888,887,886,885,884,883,882,881,880]),(some true,[48],[]),(some true,[224,880],[927,926,925,924,923,922,921,920,919,918,917,916,915,914,913,912,224,880]),(some true,[],[]),(none,[],[])] fun K22 hK22=>?_
  have q:=aI qe (aI hr9 (aI hr10 (aI hr11 (aI hs23 (aI hr12 hr13)))))
  iterate 12 refine oQq ?_
  refine ck2 ?_
  refine hK22 _ ?_
  refine jx ?_
  refine lf ?_
  obtain rfl:=Option.some.inj H
  exact rt []
 try simp only [z,seval,hr9,hr10,hr11] at hs23
 refine sQ [0,1,2,3,4,5,6,7,8,9,10,11] [(none,[16],[]),(none,[],[799,798,797,796,795,794,793,792,791,790,789,788,787,786,785,784]),(none,[48],[]),(none,[224],[831,830,829,828,827,826,825,824,823,822,821,820,819,818,817,816,224]),(none,[784,816],[847,846,845,844,843,842,841,840,839,838,837,836,835,834,833,832,784,816]),(none,[],[]),(none,[16],[]),(some false,[],[]),(some false,[],[]),(some false,[],[]),(some false,[],[]),(none,[],[])] fun K22 hK22=>?_
 have q:=aI qe (aI hr9 (aI hr10 (aI hr11 hs23)))
 iterate 12 refine oQq ?_
 refine ck2 ?_
 refine hK22 _ ?_
 refine jx ?_
 refine lf ?_
 obtain rfl:=Option.some.inj H
 exact rt []
end Go.Proofs.YtijnkhcfondehaaGreatDoor
