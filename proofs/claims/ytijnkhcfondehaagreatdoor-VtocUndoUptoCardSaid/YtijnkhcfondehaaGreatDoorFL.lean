/- Text. -/
import Derived.Test.YtijnkhcfondehaaGreatDoorM
set_option maxHeartbeats 8000000
set_option linter.unusedVariables false
set_option linter.unusedSimpArgs false
set_option maxRecDepth 100000
namespace Go.Proofs.YtijnkhcfondehaaGreatDoor
open Go.AE
def law21_act (n:Nat) (v:TVtoc) (a:TAct):Option (TVtoc×Int) :=
  bif ((Int.tmod a.Kind 6) == 0) then
    (vtoc_Create n v (⟨a.Name,a.Dcb,[(⟨1,1⟩:TExtent)],7⟩:TDscb) a.N).bind fun r1 =>
    some (r1.1,r1.2)
  else
    bif ((Int.tmod a.Kind 6) == 1) then
      (vtoc_Extend n v a.Name a.N).bind fun r2 =>
      some (r2.1,r2.2)
    else
      bif ((Int.tmod a.Kind 6) == 2) then
        (vtoc_Release n v a.Name a.N).bind fun r3 =>
        some (r3.1,r3.2)
      else
        bif ((Int.tmod a.Kind 6) == 3) then
          (vtoc_Update n v a.Name a.Dcb a.N).bind fun r4 =>
          some (r4.1,r4.2)
        else
          bif ((Int.tmod a.Kind 6) == 4) then
            (vtoc_Scratch n v a.Name).bind fun r5 =>
            some (r5.1,r5.2)
          else
            (vtoc_Rename n v a.Name a.To).bind fun r6 =>
            some (r6.1,r6.2)
def xlaw21_act (n:Nat):Go.AE.Fn:=mkFn (A:=TVtoc×TAct) (R:=TVtoc×Int) 36 [(true,[.str,.int .i64,.int .i64,.int .i64,.slice 41]),(true,[.int .u8,.str,.str,.int .i64,.int .i64,.bool,.bool,.int .i64,.int .i64,.int .i64,.int .i64,.int .i64])] true (fun xs=>((⟨(cg (xs.getD 0 []) 0).toStr,(cg (xs.getD 0 []) 1).toInt,(cg (xs.getD 0 []) 2).toInt,(cg (xs.getD 0 []) 3).toInt,((cg (xs.getD 0 []) 4).toSl.map d_TDscb)⟩:TVtoc),(⟨(cg (xs.getD 1 []) 0).toInt,(cg (xs.getD 1 []) 1).toStr,(cg (xs.getD 1 []) 2).toStr,(⟨(cg (xs.getD 1 []) 3).toInt,(cg (xs.getD 1 []) 4).toInt,(cg (xs.getD 1 []) 5).toBool,(cg (xs.getD 1 []) 6).toBool,(cg (xs.getD 1 []) 7).toInt,(cg (xs.getD 1 []) 8).toInt,(cg (xs.getD 1 []) 9).toInt,(cg (xs.getD 1 []) 10).toInt⟩:TDcb),(cg (xs.getD 1 []) 11).toInt⟩:TAct))) (fun a=>[[.str a.1.Serial,.int a.1.Cyls,.int a.1.Heads,.int a.1.Size,.slice (List.map e_TDscb a.1.Sets)],[.int a.2.Kind,.str a.2.Name,.str a.2.To,.int a.2.Dcb.Org,.int a.2.Dcb.Format,.bool a.2.Dcb.Blocked,.bool a.2.Dcb.Asa,.int a.2.Dcb.Lrecl,.int a.2.Dcb.Blksize,.int a.2.Dcb.KeyLen,.int a.2.Dcb.KeyPos,.int a.2.N]]) (fun a=>law21_act n a.1 a.2) (fun r=>[.agg [.c .str (.str r.1.Serial),.c (.int .i64) (.int r.1.Cyls),.c (.int .i64) (.int r.1.Heads),.c (.int .i64) (.int r.1.Size),.c (.slice 41) (.slice (List.map e_TDscb r.1.Sets))],.c (.int .i64) (.int r.2)]) (fun r=>[])
theorem claw21_act (n:Nat):Contract Tryz.prog (xlaw21_act n):=by
  have hΓ:=g1 (cvtoc_Create n) (g1 (cvtoc_Extend n) (g1 (cvtoc_Release n) (g1 (cvtoc_Update n) (g1 (cvtoc_Scratch n) (g1 (cvtoc_Rename n) (@g0 (Contract Tryz.prog)))))))
  refine contract_f (Tryz.f36.body.getD .skip) h00 Tryz.func36 rfl Tryz.call36 (by decide) (by intro h;cases h) ?_
  rintro ⟨v,a⟩ r H
  try dsimp only at H
  unfold law21_act at H
  simp only [Tryz.f36,Option.getD]
  refine rA ?_
  refine Sm.seqK fun K2 hK2=>?_
  refine rA ?_
  refine Sm.block ?_
  refine rA ?_
  refine cnd H (fun h5 H=>?_) (fun h5 H=>?_)
  · obtain ⟨r1,hr1,H⟩:=bind_some H
    have q:=And.intro @xvtoc_Create.eq_1 hr1
    refine rAq ?_
    refine Sm.ret ?_
    refine lf ?_
    obtain rfl:=Option.some.inj H
    exact rt []
  refine rA ?_
  refine cnd H (fun h8 H=>?_) (fun h8 H=>?_)
  · obtain ⟨r2,hr2,H⟩:=bind_some H
    have q:=And.intro @xvtoc_Create.eq_1 (And.intro @xvtoc_Extend.eq_1 hr2)
    refine rAq ?_
    refine Sm.ret ?_
    refine lf ?_
    obtain rfl:=Option.some.inj H
    exact rt []
  refine rA ?_
  refine cnd H (fun h11 H=>?_) (fun h11 H=>?_)
  · obtain ⟨r3,hr3,H⟩:=bind_some H
    have q:=And.intro @xvtoc_Create.eq_1 (And.intro @xvtoc_Extend.eq_1 (And.intro @xvtoc_Release.eq_1 hr3))
    refine rAq ?_
    refine Sm.ret ?_
    refine lf ?_
    obtain rfl:=Option.some.inj H
    exact rt []
  refine rA ?_
  refine cnd H (fun h14 H=>?_) (fun h14 H=>?_)
  · obtain ⟨r4,hr4,H⟩:=bind_some H
    have q:=And.intro @xvtoc_Create.eq_1 (And.intro @xvtoc_Extend.eq_1 (And.intro @xvtoc_Release.eq_1 (And.intro @xvtoc_Update.eq_1 hr4)))
    refine rAq ?_
    refine Sm.ret ?_
    refine lf ?_
    obtain rfl:=Option.some.inj H
    exact rt []
  refine rA ?_
  refine cnd H (fun h17 H=>?_) (fun h17 H=>?_)
  · obtain ⟨r5,hr5,H⟩:=bind_some H
    have q:=And.intro @xvtoc_Create.eq_1 (And.intro @xvtoc_Extend.eq_1 (And.intro @xvtoc_Release.eq_1 (And.intro @xvtoc_Update.eq_1 (And.intro @xvtoc_Scratch.eq_1 hr5))))
    refine rAq ?_
    refine Sm.ret ?_
    refine lf ?_
    obtain rfl:=Option.some.inj H
    exact rt []
  refine Sm.skip ?_
  refine hK2 _ ?_
  obtain ⟨r6,hr6,H⟩:=bind_some H
  have q:=And.intro @xvtoc_Create.eq_1 (And.intro @xvtoc_Extend.eq_1 (And.intro @xvtoc_Release.eq_1 (And.intro @xvtoc_Update.eq_1 (And.intro @xvtoc_Scratch.eq_1 (And.intro @xvtoc_Rename.eq_1 hr6)))))
  refine rAq ?_
  refine Sm.ret ?_
  refine lf ?_
  obtain rfl:=Option.some.inj H
  exact rt []
abbrev law21_play_s1 (v:List UInt8) (v_1:Int) (v_2:Int) (v_3:Int) (v_4:List TDscb):S:=stB [(4,.box 9000 0),(5,.box 9001 0)] [(9000,.box [.c .str (.str []),.c (.int .i64) (.int 0),.c (.int .i64) (.int 0),.c (.int .i64) (.int 0),.nilsl]),(9001,.box [.c .str (.str v),.c (.int .i64) (.int v_1),.c (.int .i64) (.int v_2),.c (.int .i64) (.int v_3),.c (.slice 41) (.slice (List.map e_TDscb v_4))])]
def law21_play_k1 (n:Nat) (v:List UInt8) (v_1:Int) (v_2:Int) (v_3:Int) (v_4:List TDscb):Option TVtoc :=
  some (⟨v,v_1,v_2,v_3,v_4⟩:TVtoc)
abbrev law21_play_s3 (l:List TAct) (v_10:List UInt8) (v_11:Int) (v_12:Int) (v_13:Int) (v_14:List TDscb) (k:Int):S:=stB [(1,.c (.slice 62) (.slice (List.map e_TAct l))),(4,.box 9006 0),(5,.box 9007 0),(7,.c (.int .i64) (.int k))] [(9006,.box [.c .str (.str []),.c (.int .i64) (.int 0),.c (.int .i64) (.int 0),.c (.int .i64) (.int 0),.nilsl]),(9007,.box [.c .str (.str v_10),.c (.int .i64) (.int v_11),.c (.int .i64) (.int v_12),.c (.int .i64) (.int v_13),.c (.slice 41) (.slice (List.map e_TDscb v_14))])]
def law21_play_k3 (n:Nat) (l:List TAct) (v_10:List UInt8) (v_11:Int) (v_12:Int) (v_13:Int) (v_14:List TDscb) (k:Int):Option (((List UInt8)×Int×Int×Int×(List TDscb)×Int) ⊕ (((TVtoc) ⊕ ((List UInt8)×Int×Int×Int×(List TDscb))))) :=
  some (.inl (v_10,v_11,v_12,v_13,v_14,(IntKind.wrap .i64 (k+1))))
abbrev law21_play_t2 (l:List TAct) (v_5:List UInt8) (v_6:Int) (v_7:Int) (v_8:Int) (v_9:List TDscb) (k:Int):S:=stB [(1,.c (.slice 62) (.slice (List.map e_TAct l))),(4,.box 9004 0),(5,.box 9005 0),(7,.c (.int .i64) (.int k))] [(9004,.box [.c .str (.str []),.c (.int .i64) (.int 0),.c (.int .i64) (.int 0),.c (.int .i64) (.int 0),.nilsl]),(9005,.box [.c .str (.str v_5),.c (.int .i64) (.int v_6),.c (.int .i64) (.int v_7),.c (.int .i64) (.int v_8),.c (.slice 41) (.slice (List.map e_TDscb v_9))])]
def law21_play_b2 (n:Nat) (l:List TAct) (v_5:List UInt8) (v_6:Int) (v_7:Int) (v_8:Int) (v_9:List TDscb) (k:Int):Option (((List UInt8)×Int×Int×Int×(List TDscb)×Int) ⊕ (((TVtoc) ⊕ ((List UInt8)×Int×Int×Int×(List TDscb))))) :=
  bif (if (decide (k < (l.length:Int)))=true then (decide (k < 40)) else false) then
    gd ((0≤k∧k < (l.length:Int))∧((!(decide ((((gt l (Int.toNat k)).Name).length:Int) > 100)))=true→(0≤k∧k < (l.length:Int)))) <|
    bif (if (decide ((((gt l (Int.toNat k)).Name).length:Int) > 100))=true then true else (decide ((((gt l (Int.toNat k)).To).length:Int) > 100))) then
      some (.inr (.inl (⟨v_5,v_6,v_7,v_8,v_9⟩:TVtoc)))
    else
      gd ((0≤k∧k < (l.length:Int))) <|
      (law21_act n (⟨v_5,v_6,v_7,v_8,v_9⟩:TVtoc) (gt l (Int.toNat k))).bind fun r2 =>
      bif (r2.2 == 0) then
        law21_play_k3 n l r2.1.Serial r2.1.Cyls r2.1.Heads r2.1.Size r2.1.Sets k
      else
        law21_play_k3 n l v_5 v_6 v_7 v_8 v_9 k
  else
    some (.inr (.inr (v_5,v_6,v_7,v_8,v_9)))
def law21_play (n:Nat) (s:TStart) (l:List TAct):Option TVtoc :=
  (law21_empty n s).bind fun r1 =>
  (loopF (fun (x:(List UInt8)×Int×Int×Int×(List TDscb)×Int)=>law21_play_b2 n l x.1 x.2.1 x.2.2.1 x.2.2.2.1 x.2.2.2.2.1 x.2.2.2.2.2) n (r1.1.Serial,r1.1.Cyls,r1.1.Heads,r1.1.Size,[],0)).bind fun y5 =>
  match y5 with
  | .inl vv =>
    some vv
  | .inr vv =>
    law21_play_k1 n vv.1 vv.2.1 vv.2.2.1 vv.2.2.2.1 vv.2.2.2.2
def xlaw21_play (n:Nat):Go.AE.Fn:=mkFn (A:=TStart×(List TAct)) (R:=TVtoc) 39 [(true,[.int .u8,.int .u8,.int .u8]),(false,[.slice 62])] true (fun xs=>((⟨(cg (xs.getD 0 []) 0).toInt,(cg (xs.getD 0 []) 1).toInt,(cg (xs.getD 0 []) 2).toInt⟩:TStart),((cg (xs.getD 1 []) 0).toSl.map d_TAct))) (fun a=>[[.int a.1.Cyls,.int a.1.Heads,.int a.1.Size],[.slice (List.map e_TAct a.2)]]) (fun a=>law21_play n a.1 a.2) (fun r=>[.agg [.c .str (.str r.Serial),.c (.int .i64) (.int r.Cyls),.c (.int .i64) (.int r.Heads),.c (.int .i64) (.int r.Size),.c (.slice 41) (.slice (List.map e_TDscb r.Sets))]]) (fun r=>[])
theorem claw21_play (n:Nat):Contract Tryz.prog (xlaw21_play n):=by
  have hΓ:=g1 (claw21_empty n) (g1 (claw21_act n) (@g0 (Contract Tryz.prog)))
  refine contract_f (Tryz.f39.body.getD .skip) h00 Tryz.func39 rfl Tryz.call39 (by decide) (by intro h;cases h) ?_
  rintro ⟨s,l⟩ r H
  try dsimp only at H
  unfold law21_play at H
  simp only [Tryz.f39,Option.getD]
  refine rA ?_
  obtain ⟨r1,hr1,H⟩:=bind_some H
  have q:=And.intro @xlaw21_empty.eq_1 hr1
  refine rAq ?_
  refine Sm.cut (fun (x:(List UInt8)×Int×Int×Int×(List TDscb))=>law21_play_s1 x.1 x.2.1 x.2.2.1 x.2.2.2.1 x.2.2.2.2) (fun x=>law21_play_k1 n x.1 x.2.1 x.2.2.1 x.2.2.2.1 x.2.2.2.2=some r) ?_ ?_
  · refine rA ?_
    refine Sm.block ?_
    obtain ⟨y5,hy5,Ho5⟩:=bind_some H
    refine Sm.loopB _ (fun x=>law21_play_t2 l x.1 x.2.1 x.2.2.1 x.2.2.2.1 x.2.2.2.2.1 x.2.2.2.2.2) hy5 (wb [some 64,some 80]) ?_
    rintro ⟨v_5,v_6,v_7,v_8,v_9,k⟩ z5 H
    try dsimp only at H
    unfold law21_play_b2 at H
    refine Sm.st (law21_play_t2.eq_1 ..) ?_
    refine Sm.seqK fun K6 hK6=>?_
    refine rA ?_
    refine cnd H (fun h8 H=>?_) (fun h8 H=>?_)
    · refine Sm.skip ?_
      refine hK6 _ ?_
      refine Sm.cut (fun (x:(List UInt8)×Int×Int×Int×(List TDscb))=>law21_play_s3 l x.1 x.2.1 x.2.2.1 x.2.2.2.1 x.2.2.2.2 k) (fun x=>law21_play_k3 n l x.1 x.2.1 x.2.2.1 x.2.2.2.1 x.2.2.2.2 k=some z5) ?_ ?_
      · refine Sm.block ?_
        refine Sm.seqK fun K9 hK9=>?_
        obtain ⟨⟨hg17,hg18⟩,H⟩:=gd_some H
        refine rA ?_
        refine cnd H (fun h11 H=>?_) (fun h11 H=>?_)
        · refine rA ?_
          refine Sm.ret ?_
          refine lf ?_
          refine lx H fun hyy=>?_
          subst hyy
          have H:=Ho5
          try dsimp only at H
          refine lf ?_
          obtain rfl:=Option.some.inj H
          exact rt []
        refine Sm.skip ?_
        refine hK9 _ ?_
        obtain ⟨hg14,H⟩:=gd_some H
        obtain ⟨r2,hr2,H⟩:=bind_some H
        refine sQ [0,1,2,3,4,5,6,7,8,9,10,11] [(none,[9005],[]),(none,[],[]),(none,[],[]),(none,[],[]),(none,[],[]),(none,[],[783,782,781,780,779,778,777,776,775,774,773,772,771,770,769,768]),(none,[],[]),(none,[],[]),(none,[],[]),(none,[],[128]),(none,[128],[128]),(none,[],[])] fun K13 hK13=>?_
        have q:=And.intro @xlaw21_empty.eq_1 (And.intro @xlaw21_act.eq_1 hr2)
        iterate 12 refine oQq ?_
        refine opsQ0 ?_
        refine hK13 _ ?_
        refine rA ?_
        refine cnd H (fun h16 H=>?_) (fun h16 H=>?_)
        · refine eA ?_
          refine lf ?_
          exact ⟨(r2.1.Serial,r2.1.Cyls,r2.1.Heads,r2.1.Size,r2.1.Sets),H,wb [some 9004,some 9005]⟩
        refine Sm.skip ?_
        refine lf ?_
        exact ⟨(v_5,v_6,v_7,v_8,v_9),H,wb [some 9004,some 9005]⟩
      rintro ⟨v_10,v_11,v_12,v_13,v_14⟩ H
      try dsimp only at H
      unfold law21_play_k3 at H
      refine Sm.st (law21_play_s3.eq_1 ..) ?_
      refine eA ?_
      refine lf ?_
      exact nx H (wb [some 9006,some 9007])
    refine Sm.exit ?_
    refine lf ?_
    refine lx H fun hyy=>?_
    subst hyy
    have H:=Ho5
    try dsimp only at H
    refine lf ?_
    exact ⟨(v_5,v_6,v_7,v_8,v_9),H,wb [some 9004,some 9005]⟩
  rintro ⟨v,v_1,v_2,v_3,v_4⟩ H
  try dsimp only at H
  unfold law21_play_k1 at H
  refine Sm.st (law21_play_s1.eq_1 ..) ?_
  refine rA ?_
  refine Sm.ret ?_
  refine lf ?_
  obtain rfl:=Option.some.inj H
  exact rt []
abbrev law21_VtocOthers_s2 (w:List UInt8) (w_1:Int) (w_2:Int) (w_3:Int) (w_4:List TDscb):S:=stB [(8,.box 9003 0)] [(9003,.box [.c .str (.str w),.c (.int .i64) (.int w_1),.c (.int .i64) (.int w_2),.c (.int .i64) (.int w_3),.c (.slice 41) (.slice (List.map e_TDscb w_4))])]
def law21_VtocOthers_k2 (n:Nat) (w:List UInt8) (w_1:Int) (w_2:Int) (w_3:Int) (w_4:List TDscb):Option Bool :=
  (vtoc_Check n (⟨w,w_1,w_2,w_3,w_4⟩:TVtoc)).bind fun r4 =>
  gd (((r4 == 0)=true→(law21_works n).isSome=true)) <|
  some (if (r4 == 0)=true then ((law21_works n).getD default) else false)
abbrev law21_VtocOthers_t3 (a:TAct) (v:List UInt8) (v_1:Int) (v_2:Int) (v_3:Int) (v_4:List TDscb) (w:List UInt8) (w_1:Int) (w_2:Int) (w_3:Int) (w_4:List TDscb) (k:Int):S:=stB [(5,.box 9007 0),(7,.box 9008 0),(8,.box 9009 0),(13,.c (.int .i64) (.int k))] [(9007,.box [.c (.int .u8) (.int a.Kind),.c .str (.str a.Name),.c .str (.str a.To),.c (.int .i64) (.int a.Dcb.Org),.c (.int .i64) (.int a.Dcb.Format),.c .bool (.bool a.Dcb.Blocked),.c .bool (.bool a.Dcb.Asa),.c (.int .i64) (.int a.Dcb.Lrecl),.c (.int .i64) (.int a.Dcb.Blksize),.c (.int .i64) (.int a.Dcb.KeyLen),.c (.int .i64) (.int a.Dcb.KeyPos),.c (.int .i64) (.int a.N)]),(9008,.box [.c .str (.str v),.c (.int .i64) (.int v_1),.c (.int .i64) (.int v_2),.c (.int .i64) (.int v_3),.c (.slice 41) (.slice (List.map e_TDscb v_4))]),(9009,.box [.c .str (.str w),.c (.int .i64) (.int w_1),.c (.int .i64) (.int w_2),.c (.int .i64) (.int w_3),.c (.slice 41) (.slice (List.map e_TDscb w_4))])]
def law21_VtocOthers_b3 (n:Nat) (a:TAct) (v:List UInt8) (v_1:Int) (v_2:Int) (v_3:Int) (v_4:List TDscb) (w:List UInt8) (w_1:Int) (w_2:Int) (w_3:Int) (w_4:List TDscb) (k:Int):Option ((Int) ⊕ (((Bool) ⊕ (Unit)))) :=
  bif (decide (k < (w_4.length:Int))) then
    gd ((0≤k∧k < (w_4.length:Int))) <|
    (vtoc_Find n (⟨v,v_1,v_2,v_3,v_4⟩:TVtoc) ((gt w_4 (Int.toNat k)).Name)).bind fun r5 =>
    gd ((0≤k∧k < (w_4.length:Int))∧(((!(((gt w_4 (Int.toNat k)).Name) == a.Name)) && ((Int.tmod a.Kind 6) == 5))=true→(0≤k∧k < (w_4.length:Int)))) <|
    bif (if (!r5.2)=true then (!(if (((gt w_4 (Int.toNat k)).Name) == a.Name)=true then true else (if ((Int.tmod a.Kind 6) == 5)=true then (((gt w_4 (Int.toNat k)).Name) == a.To) else false))) else false) then
      some (.inr (.inl false))
    else
      some (.inl (IntKind.wrap .i64 (k+1)))
  else
    some (.inr (.inr ()))
abbrev law21_VtocOthers_s1 (a:TAct) (v:List UInt8) (v_1:Int) (v_2:Int) (v_3:Int) (v_4:List TDscb) (w:List UInt8) (w_1:Int) (w_2:Int) (w_3:Int) (w_4:List TDscb):S:=stB [(5,.box 9000 0),(7,.box 9001 0),(8,.box 9002 0)] [(9000,.box [.c (.int .u8) (.int a.Kind),.c .str (.str a.Name),.c .str (.str a.To),.c (.int .i64) (.int a.Dcb.Org),.c (.int .i64) (.int a.Dcb.Format),.c .bool (.bool a.Dcb.Blocked),.c .bool (.bool a.Dcb.Asa),.c (.int .i64) (.int a.Dcb.Lrecl),.c (.int .i64) (.int a.Dcb.Blksize),.c (.int .i64) (.int a.Dcb.KeyLen),.c (.int .i64) (.int a.Dcb.KeyPos),.c (.int .i64) (.int a.N)]),(9001,.box [.c .str (.str v),.c (.int .i64) (.int v_1),.c (.int .i64) (.int v_2),.c (.int .i64) (.int v_3),.c (.slice 41) (.slice (List.map e_TDscb v_4))]),(9002,.box [.c .str (.str w),.c (.int .i64) (.int w_1),.c (.int .i64) (.int w_2),.c (.int .i64) (.int w_3),.c (.slice 41) (.slice (List.map e_TDscb w_4))])]
def law21_VtocOthers_k1 (n:Nat) (a:TAct) (v:List UInt8) (v_1:Int) (v_2:Int) (v_3:Int) (v_4:List TDscb) (w:List UInt8) (w_1:Int) (w_2:Int) (w_3:Int) (w_4:List TDscb):Option Bool :=
  (loopF (fun (x:Int)=>law21_VtocOthers_b3 n a v v_1 v_2 v_3 v_4 w w_1 w_2 w_3 w_4 x) n 0).bind fun y16 =>
  match y16 with
  | .inl vv =>
    some vv
  | .inr vv =>
    law21_VtocOthers_k2 n w w_1 w_2 w_3 w_4
abbrev law21_VtocOthers_t4 (a:TAct) (v_5:List UInt8) (v_6:Int) (v_7:Int) (v_8:Int) (v_9:List TDscb) (w_5:List UInt8) (w_6:Int) (w_7:Int) (w_8:Int) (w_9:List TDscb) (k_1:Int):S:=stB [(5,.box 9013 0),(7,.box 9014 0),(8,.box 9015 0),(10,.c (.int .i64) (.int k_1))] [(9013,.box [.c (.int .u8) (.int a.Kind),.c .str (.str a.Name),.c .str (.str a.To),.c (.int .i64) (.int a.Dcb.Org),.c (.int .i64) (.int a.Dcb.Format),.c .bool (.bool a.Dcb.Blocked),.c .bool (.bool a.Dcb.Asa),.c (.int .i64) (.int a.Dcb.Lrecl),.c (.int .i64) (.int a.Dcb.Blksize),.c (.int .i64) (.int a.Dcb.KeyLen),.c (.int .i64) (.int a.Dcb.KeyPos),.c (.int .i64) (.int a.N)]),(9014,.box [.c .str (.str v_5),.c (.int .i64) (.int v_6),.c (.int .i64) (.int v_7),.c (.int .i64) (.int v_8),.c (.slice 41) (.slice (List.map e_TDscb v_9))]),(9015,.box [.c .str (.str w_5),.c (.int .i64) (.int w_6),.c (.int .i64) (.int w_7),.c (.int .i64) (.int w_8),.c (.slice 41) (.slice (List.map e_TDscb w_9))])]
def law21_VtocOthers_b4 (n:Nat) (a:TAct) (v_5:List UInt8) (v_6:Int) (v_7:Int) (v_8:Int) (v_9:List TDscb) (w_5:List UInt8) (w_6:Int) (w_7:Int) (w_8:Int) (w_9:List TDscb) (k_1:Int):Option ((Int) ⊕ (((Bool) ⊕ (Unit)))) :=
  bif (decide (k_1 < (v_9.length:Int))) then
    gd ((0≤k_1∧k_1 < (v_9.length:Int))) <|
    (vtoc_Find n (⟨w_5,w_6,w_7,w_8,w_9⟩:TVtoc) ((gt v_9 (Int.toNat k_1)).Name)).bind fun r6 =>
    gd ((0≤k_1∧k_1 < (v_9.length:Int))∧(((((gt v_9 (Int.toNat k_1)).Name) != a.Name) && (!(!r6.2)))=true→(0≤k_1∧k_1 < (v_9.length:Int)))∧(((((gt v_9 (Int.toNat k_1)).Name) != a.Name) && (!(!r6.2)))=true→(law21_label n r6.1 (gt v_9 (Int.toNat k_1))).isSome=true)∧(((((gt v_9 (Int.toNat k_1)).Name) != a.Name) && !(!r6.2))=true→((((gt v_9 (Int.toNat k_1)).Name) != a.Name) && (!(!r6.2)))=true)) <|
    bif (if (((gt v_9 (Int.toNat k_1)).Name) != a.Name)=true then (if (!r6.2)=true then true else (!((law21_label n r6.1 (gt v_9 (Int.toNat k_1))).getD default))) else false) then
      some (.inr (.inl false))
    else
      some (.inl (IntKind.wrap .i64 (k_1+1)))
  else
    some (.inr (.inr ()))
def law21_VtocOthers (n:Nat) (s:TStart) (l:List TAct) (a:TAct):Option Bool :=
  (law21_play n s l).bind fun r1 =>
  bif (if (decide ((a.Name.length:Int) > 100))=true then true else (decide ((a.To.length:Int) > 100))) then
    (law21_works n).bind fun r2 =>
    some r2
  else
    (law21_act n r1 a).bind fun r3 =>
    bif (r3.2 != 0) then
      gd ((((r3.1.Sets.length:Int) == 0)=true→(law21_works n).isSome=true)) <|
      some (if ((r3.1.Sets.length:Int) == 0)=true then ((law21_works n).getD default) else false)
    else
      (loopF (fun (x:Int)=>law21_VtocOthers_b4 n a r1.Serial r1.Cyls r1.Heads r1.Size r1.Sets r3.1.Serial r3.1.Cyls r3.1.Heads r3.1.Size r3.1.Sets x) n 0).bind fun y30 =>
      match y30 with
      | .inl vv =>
        some vv
      | .inr vv =>
        law21_VtocOthers_k1 n a r1.Serial r1.Cyls r1.Heads r1.Size r1.Sets r3.1.Serial r3.1.Cyls r3.1.Heads r3.1.Size r3.1.Sets
def xlaw21_VtocOthers (n:Nat):Go.AE.Fn:=mkFn (A:=TStart×(List TAct)×TAct) (R:=Bool) 8 [(true,[.int .u8,.int .u8,.int .u8]),(false,[.slice 62]),(true,[.int .u8,.str,.str,.int .i64,.int .i64,.bool,.bool,.int .i64,.int .i64,.int .i64,.int .i64,.int .i64])] false (fun xs=>((⟨(cg (xs.getD 0 []) 0).toInt,(cg (xs.getD 0 []) 1).toInt,(cg (xs.getD 0 []) 2).toInt⟩:TStart),((cg (xs.getD 1 []) 0).toSl.map d_TAct),(⟨(cg (xs.getD 2 []) 0).toInt,(cg (xs.getD 2 []) 1).toStr,(cg (xs.getD 2 []) 2).toStr,(⟨(cg (xs.getD 2 []) 3).toInt,(cg (xs.getD 2 []) 4).toInt,(cg (xs.getD 2 []) 5).toBool,(cg (xs.getD 2 []) 6).toBool,(cg (xs.getD 2 []) 7).toInt,(cg (xs.getD 2 []) 8).toInt,(cg (xs.getD 2 []) 9).toInt,(cg (xs.getD 2 []) 10).toInt⟩:TDcb),(cg (xs.getD 2 []) 11).toInt⟩:TAct))) (fun a=>[[.int a.1.Cyls,.int a.1.Heads,.int a.1.Size],[.slice (List.map e_TAct a.2.1)],[.int a.2.2.Kind,.str a.2.2.Name,.str a.2.2.To,.int a.2.2.Dcb.Org,.int a.2.2.Dcb.Format,.bool a.2.2.Dcb.Blocked,.bool a.2.2.Dcb.Asa,.int a.2.2.Dcb.Lrecl,.int a.2.2.Dcb.Blksize,.int a.2.2.Dcb.KeyLen,.int a.2.2.Dcb.KeyPos,.int a.2.2.N]]) (fun a=>law21_VtocOthers n a.1 a.2.1 a.2.2) (fun r=>[.c .bool (.bool r)]) (fun r=>[])
theorem claw21_VtocOthers (n:Nat):Contract Tryz.prog (xlaw21_VtocOthers n):=by
  have hΓ:=g1 (claw21_play n) (g1 (claw21_works n) (g1 (claw21_act n) (g1 (cvtoc_Find n) (g1 (claw21_label n) (g1 (cvtoc_Check n) (@g0 (Contract Tryz.prog)))))))
  refine contract_f (Tryz.f8.body.getD .skip) h00 Tryz.func8 rfl Tryz.call8 (by decide) (by intro _ r;exact ⟨rfl,by simp⟩) ?_
  rintro ⟨s,l,a⟩ r H
  try dsimp only at H
  unfold law21_VtocOthers at H
  simp only [Tryz.f8,Option.getD]
  refine rA ?_
  obtain ⟨r1,hr1,H⟩:=bind_some H
  have q:=And.intro @xlaw21_play.eq_1 hr1
  refine rAq ?_
  refine Sm.seqK fun K3 hK3=>?_
  refine rA ?_
  refine cnd H (fun h5 H=>?_) (fun h5 H=>?_)
  · obtain ⟨r2,hr2,H⟩:=bind_some H
    have q:=And.intro @xlaw21_play.eq_1 (And.intro @xlaw21_works.eq_1 hr2)
    refine rAq ?_
    refine Sm.ret ?_
    refine lf ?_
    obtain rfl:=Option.some.inj H
    exact rt []
  refine Sm.skip ?_
  refine hK3 _ ?_
  obtain ⟨r3,hr3,H⟩:=bind_some H
  have q:=And.intro @xlaw21_play.eq_1 (And.intro @xlaw21_works.eq_1 (And.intro @xlaw21_act.eq_1 hr3))
  refine rAq ?_
  refine Sm.seqK fun K8 hK8=>?_
  refine rA ?_
  refine cnd H (fun h10 H=>?_) (fun h10 H=>?_)
  · obtain ⟨hg12,H⟩:=gd_some H
    have q:=And.intro @xlaw21_play.eq_1 @xlaw21_works.eq_1
    refine rAq ?_
    refine Sm.ret ?_
    refine lf ?_
    obtain rfl:=Option.some.inj H
    exact rt []
  refine Sm.skip ?_
  refine hK8 _ ?_
  refine Sm.cut (fun (x:(List UInt8)×Int×Int×Int×(List TDscb)×(List UInt8)×Int×Int×Int×(List TDscb))=>law21_VtocOthers_s1 a x.1 x.2.1 x.2.2.1 x.2.2.2.1 x.2.2.2.2.1 x.2.2.2.2.2.1 x.2.2.2.2.2.2.1 x.2.2.2.2.2.2.2.1 x.2.2.2.2.2.2.2.2.1 x.2.2.2.2.2.2.2.2.2) (fun x=>law21_VtocOthers_k1 n a x.1 x.2.1 x.2.2.1 x.2.2.2.1 x.2.2.2.2.1 x.2.2.2.2.2.1 x.2.2.2.2.2.2.1 x.2.2.2.2.2.2.2.1 x.2.2.2.2.2.2.2.2.1 x.2.2.2.2.2.2.2.2.2=some r) ?_ ?_
  · refine rA ?_
    refine Sm.block ?_
    obtain ⟨y30,hy30,Ho30⟩:=bind_some H
    refine Sm.loopB _ (fun x=>law21_VtocOthers_t4 a r1.Serial r1.Cyls r1.Heads r1.Size r1.Sets r3.1.Serial r3.1.Cyls r3.1.Heads r3.1.Size r3.1.Sets x) hy30 (wb [some 80,some 112,some 128]) ?_
    rintro k_1 z30 H
    try dsimp only at H
    unfold law21_VtocOthers_b4 at H
    refine Sm.st (law21_VtocOthers_t4.eq_1 ..) ?_
    refine Sm.seqK fun K31 hK31=>?_
    refine rA ?_
    refine cnd H (fun h33 H=>?_) (fun h33 H=>?_)
    · refine Sm.skip ?_
      refine hK31 _ ?_
      refine Sm.seqK fun K34 hK34=>?_
      refine Sm.block ?_
      obtain ⟨hg36,H⟩:=gd_some H
      obtain ⟨r6,hr6,H⟩:=bind_some H
      refine sQ [0,1,2,3,4,5,6,7,8,9,10,11,12,13] [(none,[9015],[]),(none,[9014],[]),(none,[9014],[]),(none,[],[]),(none,[],[]),(none,[],[]),(none,[],[]),(none,[],[991,990,989,988,987,986,985,984,983,982,981,980,979,978,977,976]),(none,[],[]),(none,[],[]),(none,[],[]),(none,[],[176]),(none,[176],[176]),(none,[],[])] fun K35 hK35=>?_
      have q:=And.intro @xlaw21_play.eq_1 (And.intro @xlaw21_works.eq_1 (And.intro @xlaw21_act.eq_1 (And.intro @xvtoc_Find.eq_1 hr6)))
      iterate 14 refine oQq ?_
      refine opsQ0 ?_
      refine hK35 _ ?_
      obtain ⟨⟨hg40,hg41,hg42,hg43⟩,H⟩:=gd_some H
      have q:=And.intro @xlaw21_play.eq_1 (And.intro @xlaw21_works.eq_1 (And.intro @xlaw21_act.eq_1 (And.intro @xvtoc_Find.eq_1 @xlaw21_label.eq_1)))
      refine rDq ?_
      refine cnd H (fun h38 H=>?_) (fun h38 H=>?_)
      · refine rA ?_
        refine Sm.ret ?_
        refine lf ?_
        refine lx H fun hyy=>?_
        subst hyy
        have H:=Ho30
        try dsimp only at H
        refine lf ?_
        obtain rfl:=Option.some.inj H
        exact rt []
      refine Sm.skip ?_
      refine hK34 _ ?_
      refine eA ?_
      refine lf ?_
      exact nx H (wb [some 9013,some 9014,some 9015])
    refine Sm.exit ?_
    refine lf ?_
    refine lx H fun hyy=>?_
    subst hyy
    have H:=Ho30
    try dsimp only at H
    refine lf ?_
    exact ⟨(r1.Serial,r1.Cyls,r1.Heads,r1.Size,r1.Sets,r3.1.Serial,r3.1.Cyls,r3.1.Heads,r3.1.Size,r3.1.Sets),H,wb [some 9013,some 9014,some 9015]⟩
  rintro ⟨v,v_1,v_2,v_3,v_4,w,w_1,w_2,w_3,w_4⟩ H
  try dsimp only at H
  unfold law21_VtocOthers_k1 at H
  refine Sm.st (law21_VtocOthers_s1.eq_1 ..) ?_
  refine Sm.cut (fun (x:Unit)=>law21_VtocOthers_s2 w w_1 w_2 w_3 w_4) (fun x=>law21_VtocOthers_k2 n w w_1 w_2 w_3 w_4=some r) ?_ ?_
  · refine rA ?_
    refine Sm.block ?_
    obtain ⟨y16,hy16,Ho16⟩:=bind_some H
    refine Sm.loopB _ (fun x=>law21_VtocOthers_t3 a v v_1 v_2 v_3 v_4 w w_1 w_2 w_3 w_4 x) hy16 (wb [some 9000,some 9001,some 9002]) ?_
    rintro k z16 H
    try dsimp only at H
    unfold law21_VtocOthers_b3 at H
    refine Sm.st (law21_VtocOthers_t3.eq_1 ..) ?_
    refine Sm.seqK fun K17 hK17=>?_
    refine rA ?_
    refine cnd H (fun h19 H=>?_) (fun h19 H=>?_)
    · refine Sm.skip ?_
      refine hK17 _ ?_
      refine Sm.seqK fun K20 hK20=>?_
      refine Sm.block ?_
      obtain ⟨hg22,H⟩:=gd_some H
      obtain ⟨r5,hr5,H⟩:=bind_some H
      refine sQ [0,1,2,3,4,5,6,7,8,9,10,11,12,13] [(none,[9008],[]),(none,[9009],[]),(none,[9009],[]),(none,[],[]),(none,[],[]),(none,[],[]),(none,[],[]),(none,[],[1647,1646,1645,1644,1643,1642,1641,1640,1639,1638,1637,1636,1635,1634,1633,1632]),(none,[],[]),(none,[],[]),(none,[],[]),(none,[],[224]),(none,[224],[224]),(none,[],[])] fun K21 hK21=>?_
      have q:=And.intro @xlaw21_play.eq_1 (And.intro @xlaw21_works.eq_1 (And.intro @xlaw21_act.eq_1 (And.intro @xvtoc_Find.eq_1 hr5)))
      iterate 14 refine oQq ?_
      refine opsQ0 ?_
      refine hK21 _ ?_
      obtain ⟨⟨hg27,hg28⟩,H⟩:=gd_some H
      refine rD ?_
      refine rA ?_
      refine cnd H (fun h25 H=>?_) (fun h25 H=>?_)
      · refine rA ?_
        refine Sm.ret ?_
        refine lf ?_
        refine lx H fun hyy=>?_
        subst hyy
        have H:=Ho16
        try dsimp only at H
        refine lf ?_
        obtain rfl:=Option.some.inj H
        exact rt []
      refine Sm.skip ?_
      refine hK20 _ ?_
      refine eA ?_
      refine lf ?_
      exact nx H (wb [some 9007,some 9008,some 9009])
    refine Sm.exit ?_
    refine lf ?_
    refine lx H fun hyy=>?_
    subst hyy
    have H:=Ho16
    try dsimp only at H
    refine lf ?_
    exact ⟨(),H,wb [some 9009]⟩
  rintro ⟨⟩ H
  try dsimp only at H
  unfold law21_VtocOthers_k2 at H
  refine Sm.st (law21_VtocOthers_s2.eq_1 ..) ?_
  obtain ⟨r4,hr4,H⟩:=bind_some H
  obtain ⟨hg14,H⟩:=gd_some H
  have q:=And.intro @xlaw21_play.eq_1 (And.intro @xlaw21_works.eq_1 (And.intro @xlaw21_act.eq_1 (And.intro @xvtoc_Find.eq_1 (And.intro @xlaw21_label.eq_1 (And.intro @xvtoc_Check.eq_1 hr4)))))
  refine rAq ?_
  refine Sm.ret ?_
  refine lf ?_
  obtain rfl:=Option.some.inj H
  exact rt []
abbrev law21_VtocUndo_s3:S:=stB [] []
def law21_VtocUndo_k3 (n:Nat):Option Bool :=
  (law21_works n).bind fun r8 =>
  some r8
abbrev law21_VtocUndo_s4 (a:TAct) (v:List UInt8) (v_1:Int) (v_2:Int) (v_3:Int) (v_4:List TDscb) (w_10:List UInt8) (w_11:Int) (w_12:Int) (w_13:Int) (w_14:List TDscb) (ok:Bool) (total:Int):S:=stB [(5,.box 9007 0),(7,.box 9008 0),(8,.box 9009 0),(15,.c .bool (.bool ok)),(16,.c (.int .i64) (.int total))] [(9007,.box [.c (.int .u8) (.int a.Kind),.c .str (.str a.Name),.c .str (.str a.To),.c (.int .i64) (.int a.Dcb.Org),.c (.int .i64) (.int a.Dcb.Format),.c .bool (.bool a.Dcb.Blocked),.c .bool (.bool a.Dcb.Asa),.c (.int .i64) (.int a.Dcb.Lrecl),.c (.int .i64) (.int a.Dcb.Blksize),.c (.int .i64) (.int a.Dcb.KeyLen),.c (.int .i64) (.int a.Dcb.KeyPos),.c (.int .i64) (.int a.N)]),(9008,.box [.c .str (.str v),.c (.int .i64) (.int v_1),.c (.int .i64) (.int v_2),.c (.int .i64) (.int v_3),.c (.slice 41) (.slice (List.map e_TDscb v_4))]),(9009,.box [.c .str (.str w_10),.c (.int .i64) (.int w_11),.c (.int .i64) (.int w_12),.c (.int .i64) (.int w_13),.own 9010 [.str,.int .i64,.int .i64,.bool,.bool,.int .i64,.int .i64,.int .i64,.int .i64,.slice 80,.int .i64] 0 w_14.length]),(9010,.row 41 (List.map e_TDscb w_14))]
def law21_VtocUndo_k4 (n:Nat) (a:TAct) (v:List UInt8) (v_1:Int) (v_2:Int) (v_3:Int) (v_4:List TDscb) (w_10:List UInt8) (w_11:Int) (w_12:Int) (w_13:Int) (w_14:List TDscb) (ok:Bool) (total:Int):Option Bool :=
  (vtoc_Release n (⟨w_10,w_11,w_12,w_13,w_14⟩:TVtoc) a.Name total).bind fun r9 =>
  gd (((!(if (!ok)=true then true else (r9.2 != 0)))=true→(law21_equal n r9.1 (⟨v,v_1,v_2,v_3,v_4⟩:TVtoc)).isSome=true)) <|
  bif (if (if (!ok)=true then true else (r9.2 != 0))=true then true else (!((law21_equal n r9.1 (⟨v,v_1,v_2,v_3,v_4⟩:TVtoc)).getD default))) then
    some false
  else
    law21_VtocUndo_k3 n
abbrev law21_VtocUndo_t5 (a:TAct) (v:List UInt8) (v_1:Int) (v_2:Int) (v_3:Int) (v_4:List TDscb) (w_15:List UInt8) (w_16:Int) (w_17:Int) (w_18:Int) (w_19:List TDscb) (d:List UInt8) (d_1:Int) (d_2:Int) (d_3:Bool) (d_4:Bool) (d_5:Int) (d_6:Int) (d_7:Int) (d_8:Int) (d_9:List TExtent) (d_10:Int) (ok_1:Bool) (total_1:Int) (k:Int):S:=stB [(5,.box 9016 0),(7,.box 9017 0),(8,.box 9018 0),(14,.box 9020 0),(15,.c .bool (.bool ok_1)),(16,.c (.int .i64) (.int total_1)),(17,.c (.int .i64) (.int k))] [(9016,.box [.c (.int .u8) (.int a.Kind),.c .str (.str a.Name),.c .str (.str a.To),.c (.int .i64) (.int a.Dcb.Org),.c (.int .i64) (.int a.Dcb.Format),.c .bool (.bool a.Dcb.Blocked),.c .bool (.bool a.Dcb.Asa),.c (.int .i64) (.int a.Dcb.Lrecl),.c (.int .i64) (.int a.Dcb.Blksize),.c (.int .i64) (.int a.Dcb.KeyLen),.c (.int .i64) (.int a.Dcb.KeyPos),.c (.int .i64) (.int a.N)]),(9017,.box [.c .str (.str v),.c (.int .i64) (.int v_1),.c (.int .i64) (.int v_2),.c (.int .i64) (.int v_3),.c (.slice 41) (.slice (List.map e_TDscb v_4))]),(9018,.box [.c .str (.str w_15),.c (.int .i64) (.int w_16),.c (.int .i64) (.int w_17),.c (.int .i64) (.int w_18),.own 9019 [.str,.int .i64,.int .i64,.bool,.bool,.int .i64,.int .i64,.int .i64,.int .i64,.slice 80,.int .i64] 0 w_19.length]),(9019,.row 41 (List.map e_TDscb w_19)),(9020,.box [.c .str (.str d),.c (.int .i64) (.int d_1),.c (.int .i64) (.int d_2),.c .bool (.bool d_3),.c .bool (.bool d_4),.c (.int .i64) (.int d_5),.c (.int .i64) (.int d_6),.c (.int .i64) (.int d_7),.c (.int .i64) (.int d_8),.c (.slice 80) (.slice (List.map e_TExtent d_9)),.c (.int .i64) (.int d_10)])]
def law21_VtocUndo_b5 (n:Nat) (a:TAct) (v:List UInt8) (v_1:Int) (v_2:Int) (v_3:Int) (v_4:List TDscb) (w_15:List UInt8) (w_16:Int) (w_17:Int) (w_18:Int) (w_19:List TDscb) (d:List UInt8) (d_1:Int) (d_2:Int) (d_3:Bool) (d_4:Bool) (d_5:Int) (d_6:Int) (d_7:Int) (d_8:Int) (d_9:List TExtent) (d_10:Int) (ok_1:Bool) (total_1:Int) (k:Int):Option ((Int×Int) ⊕ ((Int))) :=
  bif (decide (k < (d_9.length:Int))) then
    gd ((0≤k∧k < (d_9.length:Int))) <|
    some (.inl ((IntKind.wrap .i64 (total_1+((gt d_9 (Int.toNat k)).Len))),(IntKind.wrap .i64 (k+1))))
  else
    some (.inr total_1)
abbrev law21_VtocUndo_s2 (a:TAct) (v:List UInt8) (v_1:Int) (v_2:Int) (v_3:Int) (v_4:List TDscb) (w_5:List UInt8) (w_6:Int) (w_7:Int) (w_8:Int) (w_9:List TDscb):S:=stB [(5,.box 9004 0),(7,.box 9005 0),(8,.box 9006 0)] [(9004,.box [.c (.int .u8) (.int a.Kind),.c .str (.str a.Name),.c .str (.str a.To),.c (.int .i64) (.int a.Dcb.Org),.c (.int .i64) (.int a.Dcb.Format),.c .bool (.bool a.Dcb.Blocked),.c .bool (.bool a.Dcb.Asa),.c (.int .i64) (.int a.Dcb.Lrecl),.c (.int .i64) (.int a.Dcb.Blksize),.c (.int .i64) (.int a.Dcb.KeyLen),.c (.int .i64) (.int a.Dcb.KeyPos),.c (.int .i64) (.int a.N)]),(9005,.box [.c .str (.str v),.c (.int .i64) (.int v_1),.c (.int .i64) (.int v_2),.c (.int .i64) (.int v_3),.c (.slice 41) (.slice (List.map e_TDscb v_4))]),(9006,.box [.c .str (.str w_5),.c (.int .i64) (.int w_6),.c (.int .i64) (.int w_7),.c (.int .i64) (.int w_8),.c (.slice 41) (.slice (List.map e_TDscb w_9))])]
def law21_VtocUndo_k2 (n:Nat) (a:TAct) (v:List UInt8) (v_1:Int) (v_2:Int) (v_3:Int) (v_4:List TDscb) (w_5:List UInt8) (w_6:Int) (w_7:Int) (w_8:Int) (w_9:List TDscb):Option Bool :=
  (vtoc_Find n (⟨v,v_1,v_2,v_3,v_4⟩:TVtoc) a.Name).bind fun r6 =>
  (vtoc_Extend n (⟨v,v_1,v_2,v_3,v_4⟩:TVtoc) a.Name a.N).bind fun r7 =>
  bif (r7.2 == 0) then
    (loopF (fun (x:Int×Int)=>law21_VtocUndo_b5 n a v v_1 v_2 v_3 v_4 r7.1.Serial r7.1.Cyls r7.1.Heads r7.1.Size r7.1.Sets r6.1.Name r6.1.Dcb.Org r6.1.Dcb.Format r6.1.Dcb.Blocked r6.1.Dcb.Asa r6.1.Dcb.Lrecl r6.1.Dcb.Blksize r6.1.Dcb.KeyLen r6.1.Dcb.KeyPos r6.1.Extents r6.1.Used r6.2 x.1 x.2) n (0,0)).bind fun y21 =>
    law21_VtocUndo_k4 n a v v_1 v_2 v_3 v_4 r7.1.Serial r7.1.Cyls r7.1.Heads r7.1.Size r7.1.Sets r6.2 y21
  else
    law21_VtocUndo_k3 n
abbrev law21_VtocUndo_s1 (a:TAct) (v:List UInt8) (v_1:Int) (v_2:Int) (v_3:Int) (v_4:List TDscb) (w:List UInt8) (w_1:Int) (w_2:Int) (w_3:Int) (w_4:List TDscb):S:=stB [(5,.box 9000 0),(7,.box 9001 0),(8,.box 9002 0)] [(9000,.box [.c (.int .u8) (.int a.Kind),.c .str (.str a.Name),.c .str (.str a.To),.c (.int .i64) (.int a.Dcb.Org),.c (.int .i64) (.int a.Dcb.Format),.c .bool (.bool a.Dcb.Blocked),.c .bool (.bool a.Dcb.Asa),.c (.int .i64) (.int a.Dcb.Lrecl),.c (.int .i64) (.int a.Dcb.Blksize),.c (.int .i64) (.int a.Dcb.KeyLen),.c (.int .i64) (.int a.Dcb.KeyPos),.c (.int .i64) (.int a.N)]),(9001,.box [.c .str (.str v),.c (.int .i64) (.int v_1),.c (.int .i64) (.int v_2),.c (.int .i64) (.int v_3),.c (.slice 41) (.slice (List.map e_TDscb v_4))]),(9002,.box [.c .str (.str w),.c (.int .i64) (.int w_1),.c (.int .i64) (.int w_2),.c (.int .i64) (.int w_3),.own 9003 [.str,.int .i64,.int .i64,.bool,.bool,.int .i64,.int .i64,.int .i64,.int .i64,.slice 80,.int .i64] 0 w_4.length]),(9003,.frz 41 (List.map e_TDscb w_4))]
def law21_VtocUndo_k1 (n:Nat) (a:TAct) (v:List UInt8) (v_1:Int) (v_2:Int) (v_3:Int) (v_4:List TDscb) (w:List UInt8) (w_1:Int) (w_2:Int) (w_3:Int) (w_4:List TDscb):Option Bool :=
  (vtoc_Rename n (⟨v,v_1,v_2,v_3,v_4⟩:TVtoc) a.Name a.To).bind fun r5 =>
  bif (r5.2 == 0) then
    (vtoc_Rename n r5.1 a.To a.Name).bind fun r10 =>
    gd (((!(r10.2 != 0))=true→(law21_equal n r10.1 (⟨v,v_1,v_2,v_3,v_4⟩:TVtoc)).isSome=true)) <|
    bif (if (r10.2 != 0)=true then true else (!((law21_equal n r10.1 (⟨v,v_1,v_2,v_3,v_4⟩:TVtoc)).getD default))) then
      some false
    else
      law21_VtocUndo_k2 n a v v_1 v_2 v_3 v_4 r5.1.Serial r5.1.Cyls r5.1.Heads r5.1.Size r5.1.Sets
  else
    law21_VtocUndo_k2 n a v v_1 v_2 v_3 v_4 r5.1.Serial r5.1.Cyls r5.1.Heads r5.1.Size r5.1.Sets
def law21_VtocUndo (n:Nat) (s:TStart) (l:List TAct) (a:TAct):Option Bool :=
  (law21_play n s l).bind fun r1 =>
  bif (if (decide ((a.Name.length:Int) > 100))=true then true else (decide ((a.To.length:Int) > 100))) then
    (law21_works n).bind fun r2 =>
    some r2
  else
    (law21_plain n).bind fun r3 =>
    (vtoc_Create n r1 (⟨a.Name,r3,[],0⟩:TDscb) a.N).bind fun r4 =>
    bif (r4.2 == 0) then
      (vtoc_Scratch n r4.1 a.Name).bind fun r11 =>
      gd (((!(r11.2 != 0))=true→(law21_equal n r11.1 r1).isSome=true)) <|
      bif (if (r11.2 != 0)=true then true else (!((law21_equal n r11.1 r1).getD default))) then
        some false
      else
        law21_VtocUndo_k1 n a r1.Serial r1.Cyls r1.Heads r1.Size r1.Sets r4.1.Serial r4.1.Cyls r4.1.Heads r4.1.Size r4.1.Sets
    else
      law21_VtocUndo_k1 n a r1.Serial r1.Cyls r1.Heads r1.Size r1.Sets r4.1.Serial r4.1.Cyls r4.1.Heads r4.1.Size r4.1.Sets
def xlaw21_VtocUndo (n:Nat):Go.AE.Fn:=mkFn (A:=TStart×(List TAct)×TAct) (R:=Bool) 9 [(true,[.int .u8,.int .u8,.int .u8]),(false,[.slice 62]),(true,[.int .u8,.str,.str,.int .i64,.int .i64,.bool,.bool,.int .i64,.int .i64,.int .i64,.int .i64,.int .i64])] false (fun xs=>((⟨(cg (xs.getD 0 []) 0).toInt,(cg (xs.getD 0 []) 1).toInt,(cg (xs.getD 0 []) 2).toInt⟩:TStart),((cg (xs.getD 1 []) 0).toSl.map d_TAct),(⟨(cg (xs.getD 2 []) 0).toInt,(cg (xs.getD 2 []) 1).toStr,(cg (xs.getD 2 []) 2).toStr,(⟨(cg (xs.getD 2 []) 3).toInt,(cg (xs.getD 2 []) 4).toInt,(cg (xs.getD 2 []) 5).toBool,(cg (xs.getD 2 []) 6).toBool,(cg (xs.getD 2 []) 7).toInt,(cg (xs.getD 2 []) 8).toInt,(cg (xs.getD 2 []) 9).toInt,(cg (xs.getD 2 []) 10).toInt⟩:TDcb),(cg (xs.getD 2 []) 11).toInt⟩:TAct))) (fun a=>[[.int a.1.Cyls,.int a.1.Heads,.int a.1.Size],[.slice (List.map e_TAct a.2.1)],[.int a.2.2.Kind,.str a.2.2.Name,.str a.2.2.To,.int a.2.2.Dcb.Org,.int a.2.2.Dcb.Format,.bool a.2.2.Dcb.Blocked,.bool a.2.2.Dcb.Asa,.int a.2.2.Dcb.Lrecl,.int a.2.2.Dcb.Blksize,.int a.2.2.Dcb.KeyLen,.int a.2.2.Dcb.KeyPos,.int a.2.2.N]]) (fun a=>law21_VtocUndo n a.1 a.2.1 a.2.2) (fun r=>[.c .bool (.bool r)]) (fun r=>[])
theorem claw21_VtocUndo (n:Nat):Contract Tryz.prog (xlaw21_VtocUndo n):=by
  have hΓ:=g1 (claw21_play n) (g1 (claw21_works n) (g1 (claw21_plain n) (g1 (cvtoc_Create n) (g1 (cvtoc_Scratch n) (g1 (claw21_equal n) (g1 (cvtoc_Rename n) (g1 (cvtoc_Find n) (g1 (cvtoc_Extend n) (g1 (cvtoc_Release n) (@g0 (Contract Tryz.prog)))))))))))
  refine contract_f (Tryz.f9.body.getD .skip) h00 Tryz.func9 rfl Tryz.call9 (by decide) (by intro _ r;exact ⟨rfl,by simp⟩) ?_
  rintro ⟨s,l,a⟩ r H
  try dsimp only at H
  unfold law21_VtocUndo at H
  simp only [Tryz.f9,Option.getD]
  refine rA ?_
  obtain ⟨r1,hr1,H⟩:=bind_some H
  have q:=And.intro @xlaw21_play.eq_1 hr1
  refine rAq ?_
  refine Sm.seqK fun K3 hK3=>?_
  refine rA ?_
  refine cnd H (fun h5 H=>?_) (fun h5 H=>?_)
  · obtain ⟨r2,hr2,H⟩:=bind_some H
    have q:=And.intro @xlaw21_play.eq_1 (And.intro @xlaw21_works.eq_1 hr2)
    refine rAq ?_
    refine Sm.ret ?_
    refine lf ?_
    obtain rfl:=Option.some.inj H
    exact rt []
  refine Sm.skip ?_
  refine hK3 _ ?_
  obtain ⟨r3,hr3,H⟩:=bind_some H
  obtain ⟨r4,hr4,H⟩:=bind_some H
  refine sQ [0,1,2,3,4,5,6,7,8,9,10,11,12,13] [(none,[112],[]),(none,[80],[]),(none,[80],[]),(none,[],[623,622,621,620,619,618,617,616,615,614,613,612,611,610,609,608]),(none,[],[]),(none,[80],[]),(none,[80],[]),(none,[],[687,686,685,684,683,682,681,680,679,678,677,676,675,674,673,672]),(none,[],[]),(none,[],[]),(none,[],[]),(none,[],[128]),(none,[128,672],[128]),(none,[],[])] fun K7 hK7=>?_
  have q:=And.intro @xlaw21_play.eq_1 (And.intro @xlaw21_works.eq_1 (And.intro @xlaw21_plain.eq_1 (And.intro @xvtoc_Create.eq_1 (And.intro hr3 hr4))))
  iterate 14 refine oQq ?_
  refine opsQ0 ?_
  refine hK7 _ ?_
  refine Sm.cut (fun (x:Unit)=>law21_VtocUndo_s1 a r1.Serial r1.Cyls r1.Heads r1.Size r1.Sets r4.1.Serial r4.1.Cyls r4.1.Heads r4.1.Size r4.1.Sets) (fun x=>law21_VtocUndo_k1 n a r1.Serial r1.Cyls r1.Heads r1.Size r1.Sets r4.1.Serial r4.1.Cyls r4.1.Heads r4.1.Size r4.1.Sets=some r) ?_ ?_
  · refine rA ?_
    refine cnd H (fun h35 H=>?_) (fun h35 H=>?_)
    · obtain ⟨r11,hr11,H⟩:=bind_some H
      have q:=And.intro @xlaw21_play.eq_1 (And.intro @xlaw21_works.eq_1 (And.intro @xlaw21_plain.eq_1 (And.intro @xvtoc_Create.eq_1 (And.intro @xvtoc_Scratch.eq_1 hr11))))
      refine rAq ?_
      obtain ⟨hg40,H⟩:=gd_some H
      have q:=And.intro @xlaw21_play.eq_1 (And.intro @xlaw21_works.eq_1 (And.intro @xlaw21_plain.eq_1 (And.intro @xvtoc_Create.eq_1 (And.intro @xvtoc_Scratch.eq_1 @xlaw21_equal.eq_1))))
      refine rAq ?_
      refine cnd H (fun h38 H=>?_) (fun h38 H=>?_)
      · refine rA ?_
        refine Sm.ret ?_
        refine lf ?_
        obtain rfl:=Option.some.inj H
        exact rt []
      refine Sm.skip ?_
      refine lf ?_
      exact ⟨(),H,wb [some 80,some 112,some 128,some 672]⟩
    refine Sm.skip ?_
    refine lf ?_
    exact ⟨(),H,wb [some 80,some 112,some 128,some 672]⟩
  rintro ⟨⟩ H
  try dsimp only at H
  unfold law21_VtocUndo_k1 at H
  refine Sm.st (law21_VtocUndo_s1.eq_1 ..) ?_
  obtain ⟨r5,hr5,H⟩:=bind_some H
  have q:=And.intro @xlaw21_play.eq_1 (And.intro @xlaw21_works.eq_1 (And.intro @xlaw21_plain.eq_1 (And.intro @xvtoc_Create.eq_1 (And.intro @xvtoc_Scratch.eq_1 (And.intro @xlaw21_equal.eq_1 (And.intro @xvtoc_Rename.eq_1 hr5))))))
  refine rAq ?_
  refine Sm.cut (fun (x:Unit)=>law21_VtocUndo_s2 a r1.Serial r1.Cyls r1.Heads r1.Size r1.Sets r5.1.Serial r5.1.Cyls r5.1.Heads r5.1.Size r5.1.Sets) (fun x=>law21_VtocUndo_k2 n a r1.Serial r1.Cyls r1.Heads r1.Size r1.Sets r5.1.Serial r5.1.Cyls r5.1.Heads r5.1.Size r5.1.Sets=some r) ?_ ?_
  · refine rA ?_
    refine cnd H (fun h28 H=>?_) (fun h28 H=>?_)
    · obtain ⟨r10,hr10,H⟩:=bind_some H
      have q:=And.intro @xlaw21_play.eq_1 (And.intro @xlaw21_works.eq_1 (And.intro @xlaw21_plain.eq_1 (And.intro @xvtoc_Create.eq_1 (And.intro @xvtoc_Scratch.eq_1 (And.intro @xlaw21_equal.eq_1 (And.intro @xvtoc_Rename.eq_1 hr10))))))
      refine rAq ?_
      obtain ⟨hg33,H⟩:=gd_some H
      have q:=And.intro @xlaw21_play.eq_1 (And.intro @xlaw21_works.eq_1 (And.intro @xlaw21_plain.eq_1 (And.intro @xvtoc_Create.eq_1 (And.intro @xvtoc_Scratch.eq_1 @xlaw21_equal.eq_1))))
      refine rAq ?_
      refine cnd H (fun h31 H=>?_) (fun h31 H=>?_)
      · refine rA ?_
        refine Sm.ret ?_
        refine lf ?_
        obtain rfl:=Option.some.inj H
        exact rt []
      refine Sm.skip ?_
      refine lf ?_
      exact ⟨(),H,wb [some 9000,some 9001,some 9002]⟩
    refine Sm.skip ?_
    refine lf ?_
    exact ⟨(),H,wb [some 9000,some 9001,some 9002]⟩
  rintro ⟨⟩ H
  try dsimp only at H
  unfold law21_VtocUndo_k2 at H
  refine Sm.st (law21_VtocUndo_s2.eq_1 ..) ?_
  obtain ⟨r6,hr6,H⟩:=bind_some H
  have q:=And.intro @xlaw21_play.eq_1 (And.intro @xlaw21_works.eq_1 (And.intro @xlaw21_plain.eq_1 (And.intro @xvtoc_Create.eq_1 (And.intro @xvtoc_Scratch.eq_1 (And.intro @xlaw21_equal.eq_1 (And.intro @xvtoc_Rename.eq_1 (And.intro @xvtoc_Find.eq_1 hr6)))))))
  refine rAq ?_
  obtain ⟨r7,hr7,H⟩:=bind_some H
  have q:=And.intro @xlaw21_play.eq_1 (And.intro @xlaw21_works.eq_1 (And.intro @xlaw21_plain.eq_1 (And.intro @xvtoc_Create.eq_1 (And.intro @xvtoc_Scratch.eq_1 (And.intro @xlaw21_equal.eq_1 (And.intro @xvtoc_Rename.eq_1 (And.intro @xvtoc_Find.eq_1 (And.intro @xvtoc_Extend.eq_1 hr7))))))))
  refine rAq ?_
  refine Sm.cut (fun (x:Unit)=>law21_VtocUndo_s3) (fun x=>law21_VtocUndo_k3 n=some r) ?_ ?_
  · refine rA ?_
    refine cnd H (fun h13 H=>?_) (fun h13 H=>?_)
    · refine rA ?_
      refine Sm.cut (fun (x:(List UInt8)×Int×Int×Int×(List TDscb)×Bool×Int)=>law21_VtocUndo_s4 a r1.Serial r1.Cyls r1.Heads r1.Size r1.Sets x.1 x.2.1 x.2.2.1 x.2.2.2.1 x.2.2.2.2.1 x.2.2.2.2.2.1 x.2.2.2.2.2.2) (fun x=>law21_VtocUndo_k4 n a r1.Serial r1.Cyls r1.Heads r1.Size r1.Sets x.1 x.2.1 x.2.2.1 x.2.2.2.1 x.2.2.2.2.1 x.2.2.2.2.2.1 x.2.2.2.2.2.2=some r) ?_ ?_
      · refine rA ?_
        refine Sm.block ?_
        obtain ⟨y21,hy21,Ho21⟩:=bind_some H
        refine Sm.loopB _ (fun x=>law21_VtocUndo_t5 a r1.Serial r1.Cyls r1.Heads r1.Size r1.Sets r7.1.Serial r7.1.Cyls r7.1.Heads r7.1.Size r7.1.Sets r6.1.Name r6.1.Dcb.Org r6.1.Dcb.Format r6.1.Dcb.Blocked r6.1.Dcb.Asa r6.1.Dcb.Lrecl r6.1.Dcb.Blksize r6.1.Dcb.KeyLen r6.1.Dcb.KeyPos r6.1.Extents r6.1.Used r6.2 x.1 x.2) hy21 (wb [some 9004,some 9005,some 9006,some 1648,some 224]) ?_
        rintro ⟨total_1,k⟩ z21 H
        try dsimp only at H
        unfold law21_VtocUndo_b5 at H
        refine Sm.st (law21_VtocUndo_t5.eq_1 ..) ?_
        refine Sm.seqK fun K22 hK22=>?_
        refine rA ?_
        refine cnd H (fun h24 H=>?_) (fun h24 H=>?_)
        · refine Sm.skip ?_
          refine hK22 _ ?_
          refine Sm.seqK fun K25 hK25=>?_
          refine Sm.block ?_
          obtain ⟨hg26,H⟩:=gd_some H
          refine eA ?_
          refine hK25 _ ?_
          refine eA ?_
          refine lf ?_
          exact nx H (wb [some 9016,some 9017,some 9018,some 9019,some 9020])
        refine Sm.exit ?_
        refine lf ?_
        refine lx H fun hyy=>?_
        subst hyy
        have H:=Ho21
        try dsimp only at H
        refine lf ?_
        exact ⟨(r7.1.Serial,r7.1.Cyls,r7.1.Heads,r7.1.Size,r7.1.Sets,r6.2,total_1),H,wb [some 9016,some 9017,some 9018,some 9019]⟩
      rintro ⟨w_10,w_11,w_12,w_13,w_14,ok,total⟩ H
      try dsimp only at H
      unfold law21_VtocUndo_k4 at H
      refine Sm.st (law21_VtocUndo_s4.eq_1 ..) ?_
      obtain ⟨r9,hr9,H⟩:=bind_some H
      have q:=And.intro @xlaw21_play.eq_1 (And.intro @xlaw21_works.eq_1 (And.intro @xlaw21_plain.eq_1 (And.intro @xvtoc_Create.eq_1 (And.intro @xvtoc_Scratch.eq_1 (And.intro @xlaw21_equal.eq_1 (And.intro @xvtoc_Rename.eq_1 (And.intro @xvtoc_Find.eq_1 (And.intro @xvtoc_Extend.eq_1 (And.intro @xvtoc_Release.eq_1 hr9)))))))))
      refine rAq ?_
      obtain ⟨hg19,H⟩:=gd_some H
      have q:=And.intro @xlaw21_play.eq_1 (And.intro @xlaw21_works.eq_1 (And.intro @xlaw21_plain.eq_1 (And.intro @xvtoc_Create.eq_1 (And.intro @xvtoc_Scratch.eq_1 @xlaw21_equal.eq_1))))
      refine rAq ?_
      refine cnd H (fun h17 H=>?_) (fun h17 H=>?_)
      · refine rA ?_
        refine Sm.ret ?_
        refine lf ?_
        obtain rfl:=Option.some.inj H
        exact rt []
      refine Sm.skip ?_
      refine lf ?_
      exact ⟨(),H,wb []⟩
    refine Sm.skip ?_
    refine lf ?_
    exact ⟨(),H,wb []⟩
  rintro ⟨⟩ H
  try dsimp only at H
  unfold law21_VtocUndo_k3 at H
  refine Sm.st (law21_VtocUndo_s3.eq_1 ..) ?_
  obtain ⟨r8,hr8,H⟩:=bind_some H
  have q:=And.intro @xlaw21_play.eq_1 (And.intro @xlaw21_works.eq_1 hr8)
  refine rAq ?_
  refine Sm.ret ?_
  refine lf ?_
  obtain rfl:=Option.some.inj H
  exact rt []
end Go.Proofs.YtijnkhcfondehaaGreatDoor
