/- Text. -/
import Derived.Test.YtijnkhcfondehaaGreatDoorM
set_option maxHeartbeats 8000000
set_option linter.unusedVariables false
set_option linter.unusedSimpArgs false
set_option maxRecDepth 100000
namespace Go.Proofs.YtijnkhcfondehaaGreatDoor
open Go.AE
def cqm (n:Nat) (v:aj5) (a:TAct):Option (aj5×Int) :=
 bif ((Int.tmod a.Kind 6) == 0) then
  (bq6 n v (⟨a.Name,a.Dcb,[(⟨1,1⟩:aj0)],7⟩:aj4) a.N).bind fun r1 =>
  some (r1.1,r1.2)
 else
  bif ((Int.tmod a.Kind 6) == 1) then
   (bya n v a.Name a.N).bind fun r2 =>
   some (r2.1,r2.2)
  else
   bif ((Int.tmod a.Kind 6) == 2) then
    (bzw n v a.Name a.N).bind fun r3 =>
    some (r3.1,r3.2)
   else
    bif ((Int.tmod a.Kind 6) == 3) then
     (bys n v a.Name a.Dcb a.N).bind fun r4 =>
     some (r4.1,r4.2)
    else
     bif ((Int.tmod a.Kind 6) == 4) then
      (bzt n v a.Name).bind fun r5 =>
      some (r5.1,r5.2)
     else
      (byf n v a.Name a.To).bind fun r6 =>
      some (r6.1,r6.2)
def by0 (n:Nat):Go.AE.Fn:=mkFn (A:=aj5×TAct) (R:=aj5×Int) 36 [(true,[.str,.int .i64,.int .i64,.int .i64,.slice 41]),(true,[.int .u8,.str,.str,.int .i64,.int .i64,.bool,.bool,.int .i64,.int .i64,.int .i64,.int .i64,.int .i64])] true (fun xs=>((⟨(cg (xs.getD 0 []) 0).toStr,(cg (xs.getD 0 []) 1).toInt,(cg (xs.getD 0 []) 2).toInt,(cg (xs.getD 0 []) 3).toInt,((cg (xs.getD 0 []) 4).toSl.map aqd)⟩:aj5),(⟨(cg (xs.getD 1 []) 0).toInt,(cg (xs.getD 1 []) 1).toStr,(cg (xs.getD 1 []) 2).toStr,(⟨(cg (xs.getD 1 []) 3).toInt,(cg (xs.getD 1 []) 4).toInt,(cg (xs.getD 1 []) 5).toBool,(cg (xs.getD 1 []) 6).toBool,(cg (xs.getD 1 []) 7).toInt,(cg (xs.getD 1 []) 8).toInt,(cg (xs.getD 1 []) 9).toInt,(cg (xs.getD 1 []) 10).toInt⟩:TDcb),(cg (xs.getD 1 []) 11).toInt⟩:TAct))) (fun a=>[[.str a.1.Serial,.int a.1.Cyls,.int a.1.Heads,.int a.1.Size,.slice (List.map aj3 a.1.Sets)],[.int a.2.Kind,.str a.2.Name,.str a.2.To,.int a.2.Dcb.Org,.int a.2.Dcb.Format,.bool a.2.Dcb.Blocked,.bool a.2.Dcb.Asa,.int a.2.Dcb.Lrecl,.int a.2.Dcb.Blksize,.int a.2.Dcb.KeyLen,.int a.2.Dcb.KeyPos,.int a.2.N]]) (fun a=>cqm n a.1 a.2) (fun r=>[.agg [.c .str (.str r.1.Serial),.c (.int .i64) (.int r.1.Cyls),.c (.int .i64) (.int r.1.Heads),.c (.int .i64) (.int r.1.Size),.c (.slice 41) (.slice (List.map aj3 r.1.Sets))],.c (.int .i64) (.int r.2)]) (fun r=>[])
theorem fkz (n:Nat):aj2 Tryz.prog (by0 n):=by
 have hΓ:=g1 (dkf n) (g1 (fj5 n) (g1 (ezq n) (g1 (fjo n) (g1 (ek4 n) (g1 (fjw n) (@g0 (aj2 Tryz.prog)))))))
 refine aj8 (Tryz.f36.body.getD .skip) h00 Tryz.func36 rfl Tryz.call36 (by decide) (by intro h;cases h) ?_
 rintro ⟨v,a⟩ r H
 try dsimp only at H
 unfold cqm at H
 simp only [Tryz.f36,Option.getD]
 refine rA ?_
 refine Sm.seqK fun K2 hK2=>?_
 refine rA ?_
 refine Sm.block ?_
 refine rA ?_
 refine cnd H (fun h5 H=>?_) (fun h5 H=>?_)
 ·obtain ⟨r1,hr1,H⟩:=bind_some H
  have q:=And.intro @aq5.eq_1 hr1
  refine rAq ?_
  refine Sm.ret ?_
  refine lf ?_
  obtain rfl:=Option.some.inj H
  exact rt []
 refine rA ?_
 refine cnd H (fun h8 H=>?_) (fun h8 H=>?_)
 ·obtain ⟨r2,hr2,H⟩:=bind_some H
  have q:=And.intro @aq5.eq_1 (And.intro @bq9.eq_1 hr2)
  refine rAq ?_
  refine Sm.ret ?_
  refine lf ?_
  obtain rfl:=Option.some.inj H
  exact rt []
 refine rA ?_
 refine cnd H (fun h11 H=>?_) (fun h11 H=>?_)
 ·obtain ⟨r3,hr3,H⟩:=bind_some H
  have q:=And.intro @aq5.eq_1 (And.intro @bq9.eq_1 (And.intro @bw0.eq_1 hr3))
  refine rAq ?_
  refine Sm.ret ?_
  refine lf ?_
  obtain rfl:=Option.some.inj H
  exact rt []
 refine rA ?_
 refine cnd H (fun h14 H=>?_) (fun h14 H=>?_)
 ·obtain ⟨r4,hr4,H⟩:=bind_some H
  have q:=And.intro @aq5.eq_1 (And.intro @bq9.eq_1 (And.intro @bw0.eq_1 (And.intro @cj7.eq_1 hr4)))
  refine rAq ?_
  refine Sm.ret ?_
  refine lf ?_
  obtain rfl:=Option.some.inj H
  exact rt []
 refine rA ?_
 refine cnd H (fun h17 H=>?_) (fun h17 H=>?_)
 ·obtain ⟨r5,hr5,H⟩:=bind_some H
  have q:=And.intro @aq5.eq_1 (And.intro @bq9.eq_1 (And.intro @bw0.eq_1 (And.intro @cj7.eq_1 (And.intro @cw3.eq_1 hr5))))
  refine rAq ?_
  refine Sm.ret ?_
  refine lf ?_
  obtain rfl:=Option.some.inj H
  exact rt []
 refine Sm.skip ?_
 refine hK2 _ ?_
 obtain ⟨r6,hr6,H⟩:=bind_some H
 have q:=And.intro @aq5.eq_1 (And.intro @bq9.eq_1 (And.intro @bw0.eq_1 (And.intro @cj7.eq_1 (And.intro @cw3.eq_1 (And.intro @dzn.eq_1 hr6)))))
 refine rAq ?_
 refine Sm.ret ?_
 refine lf ?_
 obtain rfl:=Option.some.inj H
 exact rt []
abbrev cqd (v:List UInt8) (v_1:Int) (v_2:Int) (v_3:Int) (v_4:List aj4) (w:List UInt8) (w_1:Int) (w_2:Int) (w_3:Int) (w_4:List aj4):S:=stB [(5,.box 9000 0),(7,.box 9001 0)] [(9000,.box [.c .str (.str v),.c (.int .i64) (.int v_1),.c (.int .i64) (.int v_2),.c (.int .i64) (.int v_3),.c (.slice 41) (.slice (List.map aj3 v_4))]),(9001,.box [.c .str (.str w),.c (.int .i64) (.int w_1),.c (.int .i64) (.int w_2),.c (.int .i64) (.int w_3),.c (.slice 41) (.slice (List.map aj3 w_4))])]
def bj3 (n:Nat) (v:List UInt8) (v_1:Int) (v_2:Int) (v_3:Int) (v_4:List aj4) (w:List UInt8) (w_1:Int) (w_2:Int) (w_3:Int) (w_4:List aj4):Option Bool :=
 (bwb n (⟨v,v_1,v_2,v_3,v_4⟩:aj5)).bind fun r3 =>
 (bqm n (⟨w,w_1,w_2,w_3,w_4⟩:aj5)).bind fun r4 =>
 (by3 n r3 r4).bind fun r5 =>
 some r5
abbrev cqc (l:List TAct) (v_10:List UInt8) (v_11:Int) (v_12:Int) (v_13:Int) (v_14:List aj4) (w_10:List UInt8) (w_11:Int) (w_12:Int) (w_13:Int) (w_14:List aj4) (k:Int):S:=stB [(1,.c (.slice 62) (.slice (List.map awh l))),(5,.box 9007 0),(7,.box 9008 0),(8,.c (.int .i64) (.int k))] [(9007,.box [.c .str (.str v_10),.c (.int .i64) (.int v_11),.c (.int .i64) (.int v_12),.c (.int .i64) (.int v_13),.c (.slice 41) (.slice (List.map aj3 v_14))]),(9008,.box [.c .str (.str w_10),.c (.int .i64) (.int w_11),.c (.int .i64) (.int w_12),.c (.int .i64) (.int w_13),.c (.slice 41) (.slice (List.map aj3 w_14))])]
def aqs (n:Nat) (l:List TAct) (v_10:List UInt8) (v_11:Int) (v_12:Int) (v_13:Int) (v_14:List aj4) (w_10:List UInt8) (w_11:Int) (w_12:Int) (w_13:Int) (w_14:List aj4) (k:Int):Option (((List UInt8)×Int×Int×Int×(List aj4)×(List UInt8)×Int×Int×Int×(List aj4)×Int) ⊕ (((Bool) ⊕ ((List UInt8)×Int×Int×Int×(List aj4)×(List UInt8)×Int×Int×Int×(List aj4))))) :=
 some (.inl (v_10,v_11,v_12,v_13,v_14,w_10,w_11,w_12,w_13,w_14,(IntKind.wrap .i64 (k+1))))
abbrev cqe (l:List TAct) (v_5:List UInt8) (v_6:Int) (v_7:Int) (v_8:Int) (v_9:List aj4) (w_5:List UInt8) (w_6:Int) (w_7:Int) (w_8:Int) (w_9:List aj4) (k:Int):S:=stB [(1,.c (.slice 62) (.slice (List.map awh l))),(5,.box 9005 0),(7,.box 9006 0),(8,.c (.int .i64) (.int k))] [(9005,.box [.c .str (.str v_5),.c (.int .i64) (.int v_6),.c (.int .i64) (.int v_7),.c (.int .i64) (.int v_8),.c (.slice 41) (.slice (List.map aj3 v_9))]),(9006,.box [.c .str (.str w_5),.c (.int .i64) (.int w_6),.c (.int .i64) (.int w_7),.c (.int .i64) (.int w_8),.c (.slice 41) (.slice (List.map aj3 w_9))])]
def aq9 (n:Nat) (l:List TAct) (v_5:List UInt8) (v_6:Int) (v_7:Int) (v_8:Int) (v_9:List aj4) (w_5:List UInt8) (w_6:Int) (w_7:Int) (w_8:Int) (w_9:List aj4) (k:Int):Option (((List UInt8)×Int×Int×Int×(List aj4)×(List UInt8)×Int×Int×Int×(List aj4)×Int) ⊕ (((Bool) ⊕ ((List UInt8)×Int×Int×Int×(List aj4)×(List UInt8)×Int×Int×Int×(List aj4))))) :=
 bif (if (decide (k < (l.length:Int)))=true then (decide (k < 40)) else false) then
  gd ((0≤k∧k < (l.length:Int))∧((!(decide ((((gt l (Int.toNat k)).Name).length:Int) > 100)))=true→(0≤k∧k < (l.length:Int)))) <|
  bif (if (decide ((((gt l (Int.toNat k)).Name).length:Int) > 100))=true then true else (decide ((((gt l (Int.toNat k)).To).length:Int) > 100))) then
   some (.inr (.inl true))
  else
   gd ((0≤k∧k < (l.length:Int))) <|
   (cqm n (⟨v_5,v_6,v_7,v_8,v_9⟩:aj5) (gt l (Int.toNat k))).bind fun r6 =>
   gd ((0≤k∧k < (l.length:Int))) <|
   (bky n (⟨w_5,w_6,w_7,w_8,w_9⟩:aj5) (gt l (Int.toNat k))).bind fun r7 =>
   bif (r6.2 != r7.2) then
    some (.inr (.inl false))
   else
    gd ((!(r6.2 != r7.2))=true) <|
    (cqn n r6.1).bind fun r8 =>
    (cqa n r8 r7.1).bind fun r9 =>
    bif (!r9) then
     some (.inr (.inl false))
    else
     bif (r6.2 == 0) then
      aqs n l r6.1.Serial r6.1.Cyls r6.1.Heads r6.1.Size r6.1.Sets r7.1.Serial r7.1.Cyls r7.1.Heads r7.1.Size r7.1.Sets k
     else
      aqs n l v_5 v_6 v_7 v_8 v_9 w_5 w_6 w_7 w_8 w_9 k
 else
  some (.inr (.inr (v_5,v_6,v_7,v_8,v_9,w_5,w_6,w_7,w_8,w_9)))
def bzd (n:Nat) (s:cyh) (l:List TAct):Option Bool :=
 (byp n s).bind fun r1 =>
 gd (((!(r1.2 != 0))=true→(byu n).isSome=true)) <|
 bif (if (r1.2 != 0)=true then true else (!((byu n).getD default))) then
  some false
 else
  (cqn n (⟨r1.1.Serial,r1.1.Cyls,r1.1.Heads,r1.1.Size,[]⟩:aj5)).bind fun r2 =>
  (ajj (fun (x:(List UInt8)×Int×Int×Int×(List aj4)×(List UInt8)×Int×Int×Int×(List aj4)×Int)=>aq9 n l x.1 x.2.1 x.2.2.1 x.2.2.2.1 x.2.2.2.2.1 x.2.2.2.2.2.1 x.2.2.2.2.2.2.1 x.2.2.2.2.2.2.2.1 x.2.2.2.2.2.2.2.2.1 x.2.2.2.2.2.2.2.2.2.1 x.2.2.2.2.2.2.2.2.2.2) n (r1.1.Serial,r1.1.Cyls,r1.1.Heads,r1.1.Size,[],r2.Serial,r2.Cyls,r2.Heads,r2.Size,r2.Sets,0)).bind fun y10 =>
  match y10 with
  | .inl vv =>
   some vv
  | .inr vv =>
   bj3 n vv.1 vv.2.1 vv.2.2.1 vv.2.2.2.1 vv.2.2.2.2.1 vv.2.2.2.2.2.1 vv.2.2.2.2.2.2.1 vv.2.2.2.2.2.2.2.1 vv.2.2.2.2.2.2.2.2.1 vv.2.2.2.2.2.2.2.2.2
def ejs (n:Nat):Go.AE.Fn:=mkFn (A:=cyh×(List TAct)) (R:=Bool) 7 [(true,[.int .u8,.int .u8,.int .u8]),(false,[.slice 62])] false (fun xs=>((⟨(cg (xs.getD 0 []) 0).toInt,(cg (xs.getD 0 []) 1).toInt,(cg (xs.getD 0 []) 2).toInt⟩:cyh),((cg (xs.getD 1 []) 0).toSl.map czu))) (fun a=>[[.int a.1.Cyls,.int a.1.Heads,.int a.1.Size],[.slice (List.map awh a.2)]]) (fun a=>bzd n a.1 a.2) (fun r=>[.c .bool (.bool r)]) (fun r=>[])
theorem ejg (n:Nat):aj2 Tryz.prog (ejs n):=by
 have hΓ:=g1 (fj1 n) (g1 (eyl n) (g1 (gjf n) (g1 (fkz n) (g1 (fwp n) (g1 (fqx n) (g1 (cq4 n) (g1 (djf n) (g1 (dyv n) (@g0 (aj2 Tryz.prog))))))))))
 refine aj8 (Tryz.f7.body.getD .skip) h00 Tryz.func7 rfl Tryz.call7 (by decide) (by intro _ r;exact ⟨rfl,by simp⟩) ?_
 rintro ⟨s,l⟩ r H
 try dsimp only at H
 unfold bzd at H
 simp only [Tryz.f7,Option.getD]
 refine rA ?_
 obtain ⟨r1,hr1,H⟩:=bind_some H
 have q:=And.intro @azf.eq_1 hr1
 refine rAq ?_
 refine Sm.seqK fun K3 hK3=>?_
 obtain ⟨hg34,H⟩:=aj7 H
 have q:=And.intro @azf.eq_1 @akn.eq_1
 refine rAq ?_
 refine cnd H (fun h5 H=>?_) (fun h5 H=>?_)
 ·refine rA ?_
  refine Sm.ret ?_
  refine lf ?_
  obtain rfl:=Option.some.inj H
  exact rt []
 refine Sm.skip ?_
 refine hK3 _ ?_
 obtain ⟨r2,hr2,H⟩:=bind_some H
 have q:=And.intro @azf.eq_1 (And.intro @akn.eq_1 (And.intro @bwx.eq_1 hr2))
 refine rAq ?_
 refine Sm.cut (fun (x:(List UInt8)×Int×Int×Int×(List aj4)×(List UInt8)×Int×Int×Int×(List aj4))=>cqd x.1 x.2.1 x.2.2.1 x.2.2.2.1 x.2.2.2.2.1 x.2.2.2.2.2.1 x.2.2.2.2.2.2.1 x.2.2.2.2.2.2.2.1 x.2.2.2.2.2.2.2.2.1 x.2.2.2.2.2.2.2.2.2) (fun x=>bj3 n x.1 x.2.1 x.2.2.1 x.2.2.2.1 x.2.2.2.2.1 x.2.2.2.2.2.1 x.2.2.2.2.2.2.1 x.2.2.2.2.2.2.2.1 x.2.2.2.2.2.2.2.2.1 x.2.2.2.2.2.2.2.2.2=some r) ?_ ?_
 ·refine rA ?_
  refine Sm.block ?_
  obtain ⟨y10,hy10,Ho10⟩:=bind_some H
  refine Sm.loopB _ (fun x=>cqe l x.1 x.2.1 x.2.2.1 x.2.2.2.1 x.2.2.2.2.1 x.2.2.2.2.2.1 x.2.2.2.2.2.2.1 x.2.2.2.2.2.2.2.1 x.2.2.2.2.2.2.2.2.1 x.2.2.2.2.2.2.2.2.2.1 x.2.2.2.2.2.2.2.2.2.2) hy10 (wbf [400] [some 80,some 112]) ?_
  rintro ⟨v_5,v_6,v_7,v_8,v_9,w_5,w_6,w_7,w_8,w_9,k⟩ z10 H
  try dsimp only at H
  unfold aq9 at H
  refine Sm.st (cqe.eq_1 ..) ?_
  refine Sm.seqK fun K11 hK11=>?_
  refine rA ?_
  refine cnd H (fun h13 H=>?_) (fun h13 H=>?_)
  ·refine Sm.skip ?_
   refine hK11 _ ?_
   refine Sm.cut (fun (x:(List UInt8)×Int×Int×Int×(List aj4)×(List UInt8)×Int×Int×Int×(List aj4))=>cqc l x.1 x.2.1 x.2.2.1 x.2.2.2.1 x.2.2.2.2.1 x.2.2.2.2.2.1 x.2.2.2.2.2.2.1 x.2.2.2.2.2.2.2.1 x.2.2.2.2.2.2.2.2.1 x.2.2.2.2.2.2.2.2.2 k) (fun x=>aqs n l x.1 x.2.1 x.2.2.1 x.2.2.2.1 x.2.2.2.2.1 x.2.2.2.2.2.1 x.2.2.2.2.2.2.1 x.2.2.2.2.2.2.2.1 x.2.2.2.2.2.2.2.2.1 x.2.2.2.2.2.2.2.2.2 k=some z10) ?_ ?_
   ·refine Sm.block ?_
    refine Sm.seqK fun K14 hK14=>?_
    obtain ⟨⟨hg32,hg33⟩,H⟩:=aj7 H
    refine rA ?_
    refine cnd H (fun h16 H=>?_) (fun h16 H=>?_)
    ·refine rA ?_
     refine Sm.ret ?_
     refine lf ?_
     refine lx H fun hyy=>?_
     subst hyy
     have H:=Ho10
     try dsimp only at H
     refine lf ?_
     obtain rfl:=Option.some.inj H
     exact rt []
    refine Sm.skip ?_
    refine hK14 _ ?_
    obtain ⟨hg19,H⟩:=aj7 H
    obtain ⟨r6,hr6,H⟩:=bind_some H
    refine sQ [0,1,2,3,4,5,6,7,8,9,10,11] [(none,[9005],[]),(none,[],[]),(none,[],[]),(none,[],[]),(none,[],[]),(none,[],[943,942,941,940,939,938,937,936,935,934,933,932,931,930,929,928]),(none,[],[]),(none,[],[]),(none,[],[]),(none,[],[144]),(none,[144],[144]),(none,[],[])] fun K18 hK18=>?_
    have q:=And.intro @azf.eq_1 (And.intro @akn.eq_1 (And.intro @bwx.eq_1 (And.intro @by0.eq_1 hr6)))
    iterate 12 refine oQq ?_
    refine cw0 ?_
    refine hK18 _ ?_
    obtain ⟨hg21,H⟩:=aj7 H
    obtain ⟨r7,hr7,H⟩:=bind_some H
    refine sQ [0,1,2,3,4,5,6,7,8,9,10,11] [(none,[9006],[]),(none,[],[]),(none,[],[]),(none,[],[]),(none,[],[]),(none,[],[1087,1086,1085,1084,1083,1082,1081,1080,1079,1078,1077,1076,1075,1074,1073,1072]),(none,[],[]),(none,[],[]),(none,[],[]),(none,[],[176]),(none,[176,1072],[176]),(none,[],[])] fun K20 hK20=>?_
    have q:=And.intro @azf.eq_1 (And.intro @akn.eq_1 (And.intro @bwx.eq_1 (And.intro @by0.eq_1 (And.intro @cj1.eq_1 hr7))))
    iterate 12 refine oQq ?_
    refine cw0 ?_
    refine hK20 _ ?_
    refine Sm.seqK fun K22 hK22=>?_
    refine byw H (fun hs24 H=>?_) (fun hs24 H=>?_)
    ·refine sQ [0,1,2,3,4,5,6,7,8,9] [(none,[],[]),(none,[],[]),(none,[],[]),(none,[],[]),(none,[144],[]),(some false,[],[]),(some false,[],[]),(some false,[],[]),(some false,[],[]),(some true,[],[])] fun K23 hK23=>?_
     have q:=And.intro @azf.eq_1 (And.intro @akn.eq_1 (And.intro @bwx.eq_1 (And.intro @by0.eq_1 (And.intro @cj1.eq_1 (And.intro @cqw.eq_1 hs24)))))
     iterate 10 refine oQq ?_
     refine cw0 ?_
     refine hK23 _ ?_
     refine cndT ?_
     refine rA ?_
     refine Sm.ret ?_
     refine lf ?_
     refine lx H fun hyy=>?_
     subst hyy
     have H:=Ho10
     try dsimp only at H
     refine lf ?_
     obtain rfl:=Option.some.inj H
     exact rt []
    obtain ⟨hg27,H⟩:=aj7 H
    obtain ⟨r8,hr8,H⟩:=bind_some H
    obtain ⟨r9,hr9,H⟩:=bind_some H
    refine sQ [0,1,2,3,4,5,6,7,8,9] [(none,[],[]),(none,[],[]),(none,[],[]),(none,[],[]),(none,[144],[]),(some true,[],[1215,1214,1213,1212,1211,1210,1209,1208,1207,1206,1205,1204,1203,1202,1201,1200]),(some true,[176],[]),(some true,[1072,1200],[1247,1246,1245,1244,1243,1242,1241,1240,1239,1238,1237,1236,1235,1234,1233,1232,1072,1200]),(some true,[],[]),(some false,[],[])] fun K23 hK23=>?_
    have q:=And.intro @azf.eq_1 (And.intro @akn.eq_1 (And.intro @bwx.eq_1 (And.intro @by0.eq_1 (And.intro @cj1.eq_1 (And.intro @cqw.eq_1 (And.intro hs24 (And.intro hr8 hr9)))))))
    iterate 10 refine oQq ?_
    refine cw0 ?_
    refine hK23 _ ?_
    refine cnd H (fun h28 H=>?_) (fun h28 H=>?_)
    ·refine rA ?_
     refine Sm.ret ?_
     refine lf ?_
     refine lx H fun hyy=>?_
     subst hyy
     have H:=Ho10
     try dsimp only at H
     refine lf ?_
     obtain rfl:=Option.some.inj H
     exact rt []
    refine Sm.skip ?_
    refine hK22 _ ?_
    refine rA ?_
    refine cnd H (fun h31 H=>?_) (fun h31 H=>?_)
    ·refine eQ [0,1,2,3] [(none,[144],[]),(none,[176],[]),(none,[9005],[9005]),(none,[1072,9006],[9006])] ?_
     iterate 4 refine oQ ?_
     refine cw0 ?_
     refine lf ?_
     exact ⟨(r6.1.Serial,r6.1.Cyls,r6.1.Heads,r6.1.Size,r6.1.Sets,r7.1.Serial,r7.1.Cyls,r7.1.Heads,r7.1.Size,r7.1.Sets),H,wbf [1072] [some 9005,some 9006]⟩
    refine Sm.skip ?_
    refine lf ?_
    exact ⟨(v_5,v_6,v_7,v_8,v_9,w_5,w_6,w_7,w_8,w_9),H,wb [some 9005,some 9006]⟩
   rintro ⟨v_10,v_11,v_12,v_13,v_14,w_10,w_11,w_12,w_13,w_14⟩ H
   try dsimp only at H
   unfold aqs at H
   refine Sm.st (cqc.eq_1 ..) ?_
   refine eA ?_
   refine lf ?_
   exact nx H (wb [some 9007,some 9008])
  refine Sm.exit ?_
  refine lf ?_
  refine lx H fun hyy=>?_
  subst hyy
  have H:=Ho10
  try dsimp only at H
  refine lf ?_
  exact ⟨(v_5,v_6,v_7,v_8,v_9,w_5,w_6,w_7,w_8,w_9),H,wb [some 9005,some 9006]⟩
 rintro ⟨v,v_1,v_2,v_3,v_4,w,w_1,w_2,w_3,w_4⟩ H
 try dsimp only at H
 unfold bj3 at H
 refine Sm.st (cqd.eq_1 ..) ?_
 obtain ⟨r3,hr3,H⟩:=bind_some H
 obtain ⟨r4,hr4,H⟩:=bind_some H
 obtain ⟨r5,hr5,H⟩:=bind_some H
 refine sQ [0,1,2,3,4,5] [(none,[9000],[]),(none,[],[1375,1374,1373,1372,1371,1370,1369,1368,1367,1366,1365,1364,1363,1362,1361,1360]),(none,[9001],[]),(none,[],[1407,1406,1405,1404,1403,1402,1401,1400,1399,1398,1397,1396,1395,1394,1393,1392]),(none,[1360,1392],[1423,1422,1421,1420,1419,1418,1417,1416,1415,1414,1413,1412,1411,1410,1409,1408,1360,1392]),(none,[],[])] fun K8 hK8=>?_
 have q:=And.intro @azf.eq_1 (And.intro @akn.eq_1 (And.intro @bwx.eq_1 (And.intro @by0.eq_1 (And.intro @cj1.eq_1 (And.intro @cqw.eq_1 (And.intro @aw4.eq_1 (And.intro @bjy.eq_1 (And.intro @byi.eq_1 (And.intro hr3 (And.intro hr4 hr5))))))))))
 iterate 6 refine oQq ?_
 refine cw0 ?_
 refine hK8 _ ?_
 refine Sm.ret ?_
 refine lf ?_
 obtain rfl:=Option.some.inj H
 exact rt []
end Go.Proofs.YtijnkhcfondehaaGreatDoor
