/- Text. -/
import Derived.Test.YtijnkhcfondehaaGreatDoorM
set_option maxHeartbeats 8000000
set_option linter.unusedVariables false
set_option linter.unusedSimpArgs false
set_option maxRecDepth 100000
open Go.AE.Sm renaming seqK→jr,ret→js,skip→jq
namespace Go.Proofs.YtijnkhcfondehaaGreatDoor
open Go.AE
def czu (n:Nat) (v:aj5) (a:TAct):Option (aj5×Int) :=
 bif ((Int.tmod a.Kind 6) == 0) then
  (aky n v (⟨a.Name,a.Dcb,[(⟨1,1⟩:aj0)],7⟩:aj6) a.N).bind fun r1 =>
  some (r1.1,r1.2)
 else
  bif ((Int.tmod a.Kind 6) == 1) then
   (bwo n v a.Name a.N).bind fun r2 =>
   some (r2.1,r2.2)
  else
   bif ((Int.tmod a.Kind 6) == 2) then
    (bq9 n v a.Name a.N).bind fun r3 =>
    some (r3.1,r3.2)
   else
    bif ((Int.tmod a.Kind 6) == 3) then
     (bwm n v a.Name a.Dcb a.N).bind fun r4 =>
     some (r4.1,r4.2)
    else
     bif ((Int.tmod a.Kind 6) == 4) then
      (bq6 n v a.Name).bind fun r5 =>
      some (r5.1,r5.2)
     else
      (bwq n v a.Name a.To).bind fun r6 =>
      some (r6.1,r6.2)
theorem fq1 (n:Nat) (v:aj5) (a:TAct) (r:aj5×Int) (H:czu n v a=some r):aqg Tryz.prog 36 [.ref (.agg [.c .str (.str v.Serial),.c (.int .i64) (.int v.Cyls),.c (.int .i64) (.int v.Heads),.c (.int .i64) (.int v.Size),.rg 0 (.slice 41) (.slice (List.map aj3 v.Sets))]),.dat (true,[.int .u8,.str,.str,.int .i64,.int .i64,.bool,.bool,.int .i64,.int .i64,.int .i64,.int .i64,.int .i64]) [.int a.Kind,.str a.Name,.str a.To,.int a.Dcb.Org,.int a.Dcb.Format,.bool a.Dcb.Blocked,.bool a.Dcb.Asa,.int a.Dcb.Lrecl,.int a.Dcb.Blksize,.int a.Dcb.KeyLen,.int a.Dcb.KeyPos,.int a.N]] [.reg] [.agg [.c .str (.str r.1.Serial),.c (.int .i64) (.int r.1.Cyls),.c (.int .i64) (.int r.1.Heads),.c (.int .i64) (.int r.1.Size),.c (.slice 41) (.slice (List.map aj3 r.1.Sets))],.c (.int .i64) (.int r.2)] [.reg]:=by
 have hΓ:=g1 (dzl n) (g1 (eyv n) (g1 (eyb n) (g1 (fjt n) (g1 (eku n) (g1 (eys n) (@g0 (aj2 Tryz.prog)))))))
 have qe:=aI @cza.eq_1 (aI @dkk.eq_1 (aI @dq6.eq_1 (aI @dki.eq_1 (aI @dw3.eq_1 @dzs.eq_1))))
 refine aq4 (Tryz.f36.body.getD .skip) h00 Tryz.func36 rfl Tryz.call36 (Nat.le_of_ble_eq_true rfl) (Nat.le_of_ble_eq_true rfl) ?_
 unfold czu at H
 simp only [Tryz.f36,Option.getD]
 refine rA ?_
 refine jr fun K2 hK2=>?_
 refine rA ?_
 refine Sm.block ?_
 refine rA ?_
 refine cnd H (fun h5 H=>?_) (fun h5 H=>?_)
 ·obtain ⟨r1,hr1,H⟩:=bind_some H
  have q:=aI qe hr1
  refine rAq ?_
  refine js ?_
  refine lf ?_
  obtain rfl:=Option.some.inj H
  exact rtM [some 0]
 refine rA ?_
 refine cnd H (fun h8 H=>?_) (fun h8 H=>?_)
 ·obtain ⟨r2,hr2,H⟩:=bind_some H
  have q:=aI qe hr2
  refine rAq ?_
  refine js ?_
  refine lf ?_
  obtain rfl:=Option.some.inj H
  exact rtM [some 0]
 refine rA ?_
 refine cnd H (fun h11 H=>?_) (fun h11 H=>?_)
 ·obtain ⟨r3,hr3,H⟩:=bind_some H
  have q:=aI qe hr3
  refine rAq ?_
  refine js ?_
  refine lf ?_
  obtain rfl:=Option.some.inj H
  exact rtM [some 0]
 refine rA ?_
 refine cnd H (fun h14 H=>?_) (fun h14 H=>?_)
 ·obtain ⟨r4,hr4,H⟩:=bind_some H
  have q:=aI qe hr4
  refine rAq ?_
  refine js ?_
  refine lf ?_
  obtain rfl:=Option.some.inj H
  exact rtM [some 0]
 refine rA ?_
 refine cnd H (fun h17 H=>?_) (fun h17 H=>?_)
 ·obtain ⟨r5,hr5,H⟩:=bind_some H
  have q:=aI qe hr5
  refine rAq ?_
  refine js ?_
  refine lf ?_
  obtain rfl:=Option.some.inj H
  exact rtM [some 0]
 refine jq ?_
 refine hK2 _ ?_
 obtain ⟨r6,hr6,H⟩:=bind_some H
 have q:=aI qe hr6
 refine rAq ?_
 refine js ?_
 refine lf ?_
 obtain rfl:=Option.some.inj H
 exact rtM [some 0]
def bz8 (n:Nat) (v:aj5) (a:TAct):Option Bool :=
 (cqr n).bind fun r1 =>
 bif (!r1) then
  some false
 else
  (bwp n v).bind fun r2 =>
  bif (if (if (!r2)=true then true else (decide ((a.Name.length:Int) > 100)))=true then true else (decide ((a.To.length:Int) > 100))) then
   some true
  else
   (bzq n v).bind fun r3 =>
   (czu n v a).bind fun r4 =>
   (cjd n r3 a).bind fun r5 =>
   bif (r4.2 != r5.2) then
    some false
   else
    gd ((!(r4.2 != r5.2))=true) <|
    (bzq n r4.1).bind fun r6 =>
    (bki n r6 r5.1).bind fun r7 =>
    bif (!r7) then
     some false
    else
     (bqx n r4.1).bind fun r8 =>
     (bzq n v).bind fun r9 =>
     (bki n r9 r3).bind fun r10 =>
     some r10
def eqg (n:Nat):Go.AE.Fn:=mkFn (A:=aj5×TAct) (R:=Bool) 6 [(true,[.str,.int .i64,.int .i64,.int .i64,.slice 41]),(true,[.int .u8,.str,.str,.int .i64,.int .i64,.bool,.bool,.int .i64,.int .i64,.int .i64,.int .i64,.int .i64])] false (fun xs=>((⟨(cg (xs.getD 0 []) 0).toStr,(cg (xs.getD 0 []) 1).toInt,(cg (xs.getD 0 []) 2).toInt,(cg (xs.getD 0 []) 3).toInt,((cg (xs.getD 0 []) 4).toSl.map aq3)⟩:aj5),(⟨(cg (xs.getD 1 []) 0).toInt,(cg (xs.getD 1 []) 1).toStr,(cg (xs.getD 1 []) 2).toStr,(⟨(cg (xs.getD 1 []) 3).toInt,(cg (xs.getD 1 []) 4).toInt,(cg (xs.getD 1 []) 5).toBool,(cg (xs.getD 1 []) 6).toBool,(cg (xs.getD 1 []) 7).toInt,(cg (xs.getD 1 []) 8).toInt,(cg (xs.getD 1 []) 9).toInt,(cg (xs.getD 1 []) 10).toInt⟩:TDcb),(cg (xs.getD 1 []) 11).toInt⟩:TAct))) (fun a=>[[.str a.1.Serial,.int a.1.Cyls,.int a.1.Heads,.int a.1.Size,.slice (List.map aj3 a.1.Sets)],[.int a.2.Kind,.str a.2.Name,.str a.2.To,.int a.2.Dcb.Org,.int a.2.Dcb.Format,.bool a.2.Dcb.Blocked,.bool a.2.Dcb.Asa,.int a.2.Dcb.Lrecl,.int a.2.Dcb.Blksize,.int a.2.Dcb.KeyLen,.int a.2.Dcb.KeyPos,.int a.2.N]]) (fun a=>bz8 n a.1 a.2) (fun r=>[.c .bool (.bool r)]) (fun r=>[])
theorem dyv (n:Nat):aj2 Tryz.prog (eqg n):=by
 have hΓ:=g1 (fqj n) (g1 (fq4 n) (g1 (gjs n) (g1 (fwo n) (g1 (fz9 n) (@g0 (aj2 Tryz.prog))))))
 have qe:=aI @dk5.eq_1 (aI @dke.eq_1 (aI @ewr.eq_1 (aI @ejp.eq_1 @dyz.eq_1)))
 refine ajb (Tryz.f6.body.getD .skip) h00 Tryz.func6 rfl Tryz.call6 (by decide) (by intro _ r;exact ⟨rfl,by simp⟩) ?_
 rintro ⟨v,a⟩ r H
 try dsimp only at H
 unfold bz8 at H
 simp only [Tryz.f6,Option.getD]
 refine rA ?_
 refine jr fun K2 hK2=>?_
 obtain ⟨r1,hr1,H⟩:=bind_some H
 have q:=aI qe hr1
 refine rAq ?_
 refine cnd H (fun h4 H=>?_) (fun h4 H=>?_)
 ·refine rA ?_
  refine js ?_
  refine lf ?_
  obtain rfl:=Option.some.inj H
  exact rt []
 refine jq ?_
 refine hK2 _ ?_
 refine jr fun K6 hK6=>?_
 obtain ⟨r2,hr2,H⟩:=bind_some H
 have q:=aI qe hr2
 refine rAq ?_
 refine cnd H (fun h8 H=>?_) (fun h8 H=>?_)
 ·refine rA ?_
  refine js ?_
  refine lf ?_
  obtain rfl:=Option.some.inj H
  exact rt []
 refine jq ?_
 refine hK6 _ ?_
 obtain ⟨r3,hr3,H⟩:=bind_some H
 have q:=aI qe hr3
 refine rAq ?_
 refine sX fun K11 hK11=>?_
 obtain ⟨r4,hr4,H⟩:=bind_some H
 have q:=hr4
 iterate 2 refine oX ?_
 refine oFCq (fq1 n _ _ r4 hr4) 512 [(true,[.str,.int .i64,.int .i64,.int .i64,.slice 41]),(true,[.int .u8,.str,.str,.int .i64,.int .i64,.bool,.bool,.int .i64,.int .i64,.int .i64,.int .i64,.int .i64])] ?_
 iterate 6 refine oXq ?_
 refine hK11 _ ?_
 obtain ⟨r5,hr5,H⟩:=bind_some H
 have q:=aI qe hr5
 refine rAq ?_
 refine jr fun K13 hK13=>?_
 refine bkv H (fun hs15 H=>?_) (fun hs15 H=>?_)
 ·refine sQ [0,1,2,3,4,5,6,7,8,9] [(none,[],[]),(none,[],[]),(none,[],[]),(none,[],[]),(none,[96],[]),(some false,[],[]),(some false,[],[]),(some false,[],[]),(some false,[],[]),(some true,[],[])] fun K14 hK14=>?_
  have q:=aI qe hs15
  iterate 10 refine oQq ?_
  refine ckg ?_
  refine hK14 _ ?_
  refine cndT ?_
  refine rA ?_
  refine js ?_
  refine lf ?_
  obtain rfl:=Option.some.inj H
  exact rt []
 obtain ⟨hg18,H⟩:=aj7 H
 obtain ⟨r6,hr6,H⟩:=bind_some H
 obtain ⟨r7,hr7,H⟩:=bind_some H
 refine sQ [0,1,2,3,4,5,6,7,8,9] [(none,[],[]),(none,[],[]),(none,[],[]),(none,[],[]),(none,[96],[]),(some true,[512],[751,750,749,748,747,746,745,744,743,742,741,740,739,738,737,736,512]),(some true,[128],[]),(some true,[608,736],[783,782,781,780,779,778,777,776,775,774,773,772,771,770,769,768,608,736]),(some true,[],[]),(some false,[],[])] fun K14 hK14=>?_
 have q:=aI qe (aI hs15 (aI hr6 hr7))
 iterate 10 refine oQq ?_
 refine ckg ?_
 refine hK14 _ ?_
 refine cnd H (fun h19 H=>?_) (fun h19 H=>?_)
 ·refine rA ?_
  refine js ?_
  refine lf ?_
  obtain rfl:=Option.some.inj H
  exact rt []
 refine jq ?_
 refine hK13 _ ?_
 refine sX fun K21 hK21=>?_
 obtain ⟨r8,hr8,H⟩:=bind_some H
 have q:=hr8
 refine oX ?_
 refine oMq (ew3 n _ r8 hr8) [512] [] ?_
 refine hK21 _ ?_
 obtain ⟨r9,hr9,H⟩:=bind_some H
 obtain ⟨r10,hr10,H⟩:=bind_some H
 refine sQ [0,1,2,3,4] [(none,[32],[]),(none,[],[879,878,877,876,875,874,873,872,871,870,869,868,867,866,865,864]),(none,[80],[]),(none,[448,864],[911,910,909,908,907,906,905,904,903,902,901,900,899,898,897,896,448,864]),(none,[],[])] fun K22 hK22=>?_
 have q:=aI qe (aI hr9 hr10)
 iterate 5 refine oQq ?_
 refine ckg ?_
 refine hK22 _ ?_
 refine js ?_
 refine lf ?_
 obtain rfl:=Option.some.inj H
 exact rt []
end Go.Proofs.YtijnkhcfondehaaGreatDoor
