/- Text. -/
import Derived.Test.YtijnkhcfondehaaGreatDoorM
set_option maxHeartbeats 8000000
set_option linter.unusedVariables false
set_option linter.unusedSimpArgs false
set_option maxRecDepth 100000
open Go.IntKind renaming wrap→jc
open _root_.Option renaming getD→jJ
open Go.AE.Sm renaming seqK→jA,block→jR,ret→jF,skip→jD,cut→Jz,loopB→Jq,exit→JE
open Go.Proofs.Tryz renaming prog→jd
namespace Go.Proofs.YtijnkhcfondehaaGreatDoor
open Go.AE
def law21_act (n:Nat) (v:TVtoc) (a:TAct):Option (TVtoc×Int) :=
  bif ((Int.tmod a.Kind 6) == 0) then
    (vtoc_Create n v (⟨a.Name,a.Dcb,[(⟨1,1⟩:TExtent)],7⟩:TDscb) a.N).bind fun r1 =>
    some (r1.1,r1.2)
  else
    bif ((Int.tmod a.Kind 6) == 1) then
      (vtoc_Extend n v a.Name a.N).bind fun r2 =>
      some (r2.1,r2.2)
    else
      bif ((Int.tmod a.Kind 6) == 2) then
        (vtoc_Release n v a.Name a.N).bind fun r3 =>
        some (r3.1,r3.2)
      else
        bif ((Int.tmod a.Kind 6) == 3) then
          (vtoc_Update n v a.Name a.Dcb a.N).bind fun r4 =>
          some (r4.1,r4.2)
        else
          bif ((Int.tmod a.Kind 6) == 4) then
            (vtoc_Scratch n v a.Name).bind fun r5 =>
            some (r5.1,r5.2)
          else
            (vtoc_Rename n v a.Name a.To).bind fun r6 =>
            some (r6.1,r6.2)
def xlaw21_act (n:Nat):Go.AE.Fn:=mkFn (A:=TVtoc×TAct) (R:=TVtoc×Int) 36 [(true,[.str,.int .i64,.int .i64,.int .i64,.slice 41]),(true,[.int .u8,.str,.str,.int .i64,.int .i64,.bool,.bool,.int .i64,.int .i64,.int .i64,.int .i64,.int .i64])] true (fun xs=>((⟨(cg (xs.getD 0 []) 0).toStr,(cg (xs.getD 0 []) 1).toInt,(cg (xs.getD 0 []) 2).toInt,(cg (xs.getD 0 []) 3).toInt,((cg (xs.getD 0 []) 4).toSl.map d_TDscb)⟩:TVtoc),(⟨(cg (xs.getD 1 []) 0).toInt,(cg (xs.getD 1 []) 1).toStr,(cg (xs.getD 1 []) 2).toStr,(⟨(cg (xs.getD 1 []) 3).toInt,(cg (xs.getD 1 []) 4).toInt,(cg (xs.getD 1 []) 5).toBool,(cg (xs.getD 1 []) 6).toBool,(cg (xs.getD 1 []) 7).toInt,(cg (xs.getD 1 []) 8).toInt,(cg (xs.getD 1 []) 9).toInt,(cg (xs.getD 1 []) 10).toInt⟩:TDcb),(cg (xs.getD 1 []) 11).toInt⟩:TAct))) (fun a=>[[.str a.1.Serial,.int a.1.Cyls,.int a.1.Heads,.int a.1.Size,.slice (List.map e_TDscb a.1.Sets)],[.int a.2.Kind,.str a.2.Name,.str a.2.To,.int a.2.Dcb.Org,.int a.2.Dcb.Format,.bool a.2.Dcb.Blocked,.bool a.2.Dcb.Asa,.int a.2.Dcb.Lrecl,.int a.2.Dcb.Blksize,.int a.2.Dcb.KeyLen,.int a.2.Dcb.KeyPos,.int a.2.N]]) (fun a=>law21_act n a.1 a.2) (fun r=>[.agg [.c .str (.str r.1.Serial),.c (.int .i64) (.int r.1.Cyls),.c (.int .i64) (.int r.1.Heads),.c (.int .i64) (.int r.1.Size),.c (.slice 41) (.slice (List.map e_TDscb r.1.Sets))],.c (.int .i64) (.int r.2)]) (fun r=>[])
theorem claw21_act (n:Nat):Contract jd (xlaw21_act n):=by
  have hΓ:=g1 (cvtoc_Create n) (g1 (cvtoc_Extend n) (g1 (cvtoc_Release n) (g1 (cvtoc_Update n) (g1 (cvtoc_Scratch n) (g1 (cvtoc_Rename n) (@g0 (Contract jd)))))))
  have qe:=aI @xvtoc_Create.eq_1 (aI @xvtoc_Extend.eq_1 (aI @xvtoc_Release.eq_1 (aI @xvtoc_Update.eq_1 (aI @xvtoc_Scratch.eq_1 @xvtoc_Rename.eq_1))))
  refine contract_f (Tryz.f36.body.getD .skip) h00 Tryz.func36 rfl Tryz.call36 (by decide) (by intro h;cases h) ?_
  rintro ⟨v,a⟩ r H
  try dsimp only at H
  unfold law21_act at H
  simp only [Tryz.f36,jJ]
  refine rA ?_
  refine jA fun K2 hK2=>?_
  refine rA ?_
  refine jR ?_
  refine rA ?_
  refine cnd H (fun h5 H=>?_) (fun h5 H=>?_)
  · obtain ⟨r1,hr1,H⟩:=bind_some H
    have q:=aI qe hr1
    refine rAq ?_
    refine jF ?_
    refine lf ?_
    obtain rfl:=Option.some.inj H
    exact rt []
  refine rA ?_
  refine cnd H (fun h8 H=>?_) (fun h8 H=>?_)
  · obtain ⟨r2,hr2,H⟩:=bind_some H
    have q:=aI qe hr2
    refine rAq ?_
    refine jF ?_
    refine lf ?_
    obtain rfl:=Option.some.inj H
    exact rt []
  refine rA ?_
  refine cnd H (fun h11 H=>?_) (fun h11 H=>?_)
  · obtain ⟨r3,hr3,H⟩:=bind_some H
    have q:=aI qe hr3
    refine rAq ?_
    refine jF ?_
    refine lf ?_
    obtain rfl:=Option.some.inj H
    exact rt []
  refine rA ?_
  refine cnd H (fun h14 H=>?_) (fun h14 H=>?_)
  · obtain ⟨r4,hr4,H⟩:=bind_some H
    have q:=aI qe hr4
    refine rAq ?_
    refine jF ?_
    refine lf ?_
    obtain rfl:=Option.some.inj H
    exact rt []
  refine rA ?_
  refine cnd H (fun h17 H=>?_) (fun h17 H=>?_)
  · obtain ⟨r5,hr5,H⟩:=bind_some H
    have q:=aI qe hr5
    refine rAq ?_
    refine jF ?_
    refine lf ?_
    obtain rfl:=Option.some.inj H
    exact rt []
  refine jD ?_
  refine hK2 _ ?_
  obtain ⟨r6,hr6,H⟩:=bind_some H
  have q:=aI qe hr6
  refine rAq ?_
  refine jF ?_
  refine lf ?_
  obtain rfl:=Option.some.inj H
  exact rt []
abbrev law21_play_s1 (v:List UInt8) (v_1:Int) (v_2:Int) (v_3:Int) (v_4:List TDscb):S:=stB [(4,.box 9000 0),(5,.box 9001 0)] [(9000,.box [.c .str (.str []),.c (.int .i64) (.int 0),.c (.int .i64) (.int 0),.c (.int .i64) (.int 0),.nilsl]),(9001,.box [.c .str (.str v),.c (.int .i64) (.int v_1),.c (.int .i64) (.int v_2),.c (.int .i64) (.int v_3),.c (.slice 41) (.slice (List.map e_TDscb v_4))])]
def law21_play_k1 (n:Nat) (v:List UInt8) (v_1:Int) (v_2:Int) (v_3:Int) (v_4:List TDscb):Option TVtoc :=
  some (⟨v,v_1,v_2,v_3,v_4⟩:TVtoc)
abbrev law21_play_s3 (l:List TAct) (v_10:List UInt8) (v_11:Int) (v_12:Int) (v_13:Int) (v_14:List TDscb) (k:Int):S:=stB [(1,.c (.slice 62) (.slice (List.map e_TAct l))),(4,.box 9006 0),(5,.box 9007 0),(7,.c (.int .i64) (.int k))] [(9006,.box [.c .str (.str []),.c (.int .i64) (.int 0),.c (.int .i64) (.int 0),.c (.int .i64) (.int 0),.nilsl]),(9007,.box [.c .str (.str v_10),.c (.int .i64) (.int v_11),.c (.int .i64) (.int v_12),.c (.int .i64) (.int v_13),.c (.slice 41) (.slice (List.map e_TDscb v_14))])]
def law21_play_k3 (n:Nat) (l:List TAct) (v_10:List UInt8) (v_11:Int) (v_12:Int) (v_13:Int) (v_14:List TDscb) (k:Int):Option (((List UInt8)×Int×Int×Int×(List TDscb)×Int) ⊕ (((TVtoc) ⊕ ((List UInt8)×Int×Int×Int×(List TDscb))))) :=
  some (.inl (v_10,v_11,v_12,v_13,v_14,(jc .i64 (k+1))))
abbrev law21_play_t2 (l:List TAct) (v_5:List UInt8) (v_6:Int) (v_7:Int) (v_8:Int) (v_9:List TDscb) (k:Int):S:=stB [(1,.c (.slice 62) (.slice (List.map e_TAct l))),(4,.box 9004 0),(5,.box 9005 0),(7,.c (.int .i64) (.int k))] [(9004,.box [.c .str (.str []),.c (.int .i64) (.int 0),.c (.int .i64) (.int 0),.c (.int .i64) (.int 0),.nilsl]),(9005,.box [.c .str (.str v_5),.c (.int .i64) (.int v_6),.c (.int .i64) (.int v_7),.c (.int .i64) (.int v_8),.c (.slice 41) (.slice (List.map e_TDscb v_9))])]
def law21_play_b2 (n:Nat) (l:List TAct) (v_5:List UInt8) (v_6:Int) (v_7:Int) (v_8:Int) (v_9:List TDscb) (k:Int):Option (((List UInt8)×Int×Int×Int×(List TDscb)×Int) ⊕ (((TVtoc) ⊕ ((List UInt8)×Int×Int×Int×(List TDscb))))) :=
  bif (if (decide (k < (l.length:Int)))=true then (decide (k < 40)) else false) then
    gd ((0≤k∧k < (l.length:Int))∧((!(decide ((((gt l (Int.toNat k)).Name).length:Int) > 100)))=true→(0≤k∧k < (l.length:Int)))) <|
    bif (if (decide ((((gt l (Int.toNat k)).Name).length:Int) > 100))=true then true else (decide ((((gt l (Int.toNat k)).To).length:Int) > 100))) then
      some (.inr (.inl (⟨v_5,v_6,v_7,v_8,v_9⟩:TVtoc)))
    else
      gd ((0≤k∧k < (l.length:Int))) <|
      (law21_act n (⟨v_5,v_6,v_7,v_8,v_9⟩:TVtoc) (gt l (Int.toNat k))).bind fun r2 =>
      bif (r2.2 == 0) then
        law21_play_k3 n l r2.1.Serial r2.1.Cyls r2.1.Heads r2.1.Size r2.1.Sets k
      else
        law21_play_k3 n l v_5 v_6 v_7 v_8 v_9 k
  else
    some (.inr (.inr (v_5,v_6,v_7,v_8,v_9)))
def law21_play (n:Nat) (s:TStart) (l:List TAct):Option TVtoc :=
  (law21_empty n s).bind fun r1 =>
  (loopF (fun (x:(List UInt8)×Int×Int×Int×(List TDscb)×Int)=>law21_play_b2 n l x.1 x.2.1 x.2.2.1 x.2.2.2.1 x.2.2.2.2.1 x.2.2.2.2.2) n (r1.1.Serial,r1.1.Cyls,r1.1.Heads,r1.1.Size,[],0)).bind fun y5 =>
  match y5 with
  | .inl vv =>
    some vv
  | .inr vv =>
    law21_play_k1 n vv.1 vv.2.1 vv.2.2.1 vv.2.2.2.1 vv.2.2.2.2
def xlaw21_play (n:Nat):Go.AE.Fn:=mkFn (A:=TStart×(List TAct)) (R:=TVtoc) 39 [(true,[.int .u8,.int .u8,.int .u8]),(false,[.slice 62])] true (fun xs=>((⟨(cg (xs.getD 0 []) 0).toInt,(cg (xs.getD 0 []) 1).toInt,(cg (xs.getD 0 []) 2).toInt⟩:TStart),((cg (xs.getD 1 []) 0).toSl.map d_TAct))) (fun a=>[[.int a.1.Cyls,.int a.1.Heads,.int a.1.Size],[.slice (List.map e_TAct a.2)]]) (fun a=>law21_play n a.1 a.2) (fun r=>[.agg [.c .str (.str r.Serial),.c (.int .i64) (.int r.Cyls),.c (.int .i64) (.int r.Heads),.c (.int .i64) (.int r.Size),.c (.slice 41) (.slice (List.map e_TDscb r.Sets))]]) (fun r=>[])
theorem claw21_play (n:Nat):Contract jd (xlaw21_play n):=by
  have hΓ:=g1 (claw21_empty n) (g1 (claw21_act n) (@g0 (Contract jd)))
  have qe:=aI @xlaw21_empty.eq_1 @xlaw21_act.eq_1
  refine contract_f (Tryz.f39.body.getD .skip) h00 Tryz.func39 rfl Tryz.call39 (by decide) (by intro h;cases h) ?_
  rintro ⟨s,l⟩ r H
  try dsimp only at H
  unfold law21_play at H
  simp only [Tryz.f39,jJ]
  refine rA ?_
  obtain ⟨r1,hr1,H⟩:=bind_some H
  have q:=aI qe hr1
  refine rAq ?_
  refine Jz (fun (x:(List UInt8)×Int×Int×Int×(List TDscb))=>law21_play_s1 x.1 x.2.1 x.2.2.1 x.2.2.2.1 x.2.2.2.2) (fun x=>law21_play_k1 n x.1 x.2.1 x.2.2.1 x.2.2.2.1 x.2.2.2.2=some r) ?_ ?_
  · refine rA ?_
    refine jR ?_
    obtain ⟨y5,hy5,Ho5⟩:=bind_some H
    refine Jq _ (fun x=>law21_play_t2 l x.1 x.2.1 x.2.2.1 x.2.2.2.1 x.2.2.2.2.1 x.2.2.2.2.2) hy5 (wb [some 64,some 80]) ?_
    rintro ⟨v_5,v_6,v_7,v_8,v_9,k⟩ z5 H
    try dsimp only at H
    unfold law21_play_b2 at H
    refine Sm.st (law21_play_t2.eq_1 ..) ?_
    refine jA fun K6 hK6=>?_
    refine rA ?_
    refine cnd H (fun h8 H=>?_) (fun h8 H=>?_)
    · refine jD ?_
      refine hK6 _ ?_
      refine Jz (fun (x:(List UInt8)×Int×Int×Int×(List TDscb))=>law21_play_s3 l x.1 x.2.1 x.2.2.1 x.2.2.2.1 x.2.2.2.2 k) (fun x=>law21_play_k3 n l x.1 x.2.1 x.2.2.1 x.2.2.2.1 x.2.2.2.2 k=some z5) ?_ ?_
      · refine jR ?_
        refine jA fun K9 hK9=>?_
        obtain ⟨⟨hg17,hg18⟩,H⟩:=gd_some H
        refine rA ?_
        refine cnd H (fun h11 H=>?_) (fun h11 H=>?_)
        · refine rA ?_
          refine jF ?_
          refine lf ?_
          refine lx H fun hyy=>?_
          subst hyy
          have H:=Ho5
          try dsimp only at H
          refine lf ?_
          obtain rfl:=Option.some.inj H
          exact rt []
        refine jD ?_
        refine hK9 _ ?_
        obtain ⟨hg14,H⟩:=gd_some H
        obtain ⟨r2,hr2,H⟩:=bind_some H
        refine sQ [0,1,2,3,4,5,6,7,8,9,10,11] [(none,[9005],[]),(none,[],[]),(none,[],[]),(none,[],[]),(none,[],[]),(none,[],[783,782,781,780,779,778,777,776,775,774,773,772,771,770,769,768]),(none,[],[]),(none,[],[]),(none,[],[]),(none,[],[128]),(none,[128],[128]),(none,[],[])] fun K13 hK13=>?_
        have q:=aI qe hr2
        iterate 12 refine oQq ?_
        refine opsQ0 ?_
        refine hK13 _ ?_
        refine rA ?_
        refine cnd H (fun h16 H=>?_) (fun h16 H=>?_)
        · refine eA ?_
          refine lf ?_
          exact ⟨(r2.1.Serial,r2.1.Cyls,r2.1.Heads,r2.1.Size,r2.1.Sets),H,wb [some 9004,some 9005]⟩
        refine jD ?_
        refine lf ?_
        exact ⟨(v_5,v_6,v_7,v_8,v_9),H,wb [some 9004,some 9005]⟩
      rintro ⟨v_10,v_11,v_12,v_13,v_14⟩ H
      try dsimp only at H
      unfold law21_play_k3 at H
      refine Sm.st (law21_play_s3.eq_1 ..) ?_
      refine eA ?_
      refine lf ?_
      exact nx H (wb [some 9006,some 9007])
    refine JE ?_
    refine lf ?_
    refine lx H fun hyy=>?_
    subst hyy
    have H:=Ho5
    try dsimp only at H
    refine lf ?_
    exact ⟨(v_5,v_6,v_7,v_8,v_9),H,wb [some 9004,some 9005]⟩
  rintro ⟨v,v_1,v_2,v_3,v_4⟩ H
  try dsimp only at H
  unfold law21_play_k1 at H
  refine Sm.st (law21_play_s1.eq_1 ..) ?_
  refine rA ?_
  refine jF ?_
  refine lf ?_
  obtain rfl:=Option.some.inj H
  exact rt []
abbrev vtoc_Owner_s1:S:=stB [] []
def vtoc_Owner_k1 (n:Nat):Option ((List UInt8)×Int×Bool) :=
  some ([],0,false)
abbrev vtoc_Owner_t2 (track:Int) (v:TVtoc) (v16:Int) (v17:Int):S:=stB [(1,.c (.int .i64) (.int track)),(15,.c (.slice 41) (.slice (List.map e_TDscb v.Sets))),(16,.c (.int .i64) (.int v16)),(17,.c (.int .i64) (.int v17))] []
def vtoc_Owner_b2 (n:Nat) (track:Int) (v:TVtoc) (v16:Int) (v17:Int):Option ((Int) ⊕ ((((List UInt8)×Int×Bool) ⊕ (Unit)))) :=
  bif (decide (v17 < v16)) then
    gd ((0≤v17∧v17 < (v.Sets.length:Int))) <|
    (extent_Index n ((gt v.Sets (Int.toNat v17)).Extents) track).bind fun r2 =>
    bif r2.2 then
      some (.inr (.inl ((gt v.Sets (Int.toNat v17)).Name,r2.1,true)))
    else
      some (.inl (jc .i64 (v17+1)))
  else
    some (.inr (.inr ()))
def vtoc_Owner (n:Nat) (v:TVtoc) (track:Int):Option ((List UInt8)×Int×Bool) :=
  (vtoc_Check n v).bind fun r1 =>
  bif (r1 != 0) then
    some ([],0,false)
  else
    (loopF (fun (x:Int)=>vtoc_Owner_b2 n track v (v.Sets.length:Int) x) n 0).bind fun y8 =>
    match y8 with
    | .inl vv =>
      some (vv.1,vv.2.1,vv.2.2)
    | .inr vv =>
      vtoc_Owner_k1 n
def xvtoc_Owner (n:Nat):Go.AE.Fn:=mkFn (A:=TVtoc×Int) (R:=(List UInt8)×Int×Bool) 24 [(true,[.str,.int .i64,.int .i64,.int .i64,.slice 41]),(false,[.int .i64])] false (fun xs=>((⟨(cg (xs.getD 0 []) 0).toStr,(cg (xs.getD 0 []) 1).toInt,(cg (xs.getD 0 []) 2).toInt,(cg (xs.getD 0 []) 3).toInt,((cg (xs.getD 0 []) 4).toSl.map d_TDscb)⟩:TVtoc),(cg (xs.getD 1 []) 0).toInt)) (fun a=>[[.str a.1.Serial,.int a.1.Cyls,.int a.1.Heads,.int a.1.Size,.slice (List.map e_TDscb a.1.Sets)],[.int a.2]]) (fun a=>vtoc_Owner n a.1 a.2) (fun r=>[.c .str (.str r.1),.c (.int .i64) (.int r.2.1),.c .bool (.bool r.2.2)]) (fun r=>[])
theorem cvtoc_Owner (n:Nat):Contract jd (xvtoc_Owner n):=by
  have hΓ:=g1 (cvtoc_Check n) (g1 (cextent_Index n) (@g0 (Contract jd)))
  have qe:=aI @xvtoc_Check.eq_1 @xextent_Index.eq_1
  refine contract_f (Tryz.f24.body.getD .skip) h00 Tryz.func24 rfl Tryz.call24 (by decide) (by intro _ r;exact ⟨rfl,by simp⟩) ?_
  rintro ⟨v,track⟩ r H
  try dsimp only at H
  unfold vtoc_Owner at H
  simp only [Tryz.f24,jJ]
  refine rA ?_
  refine jA fun K2 hK2=>?_
  obtain ⟨r1,hr1,H⟩:=bind_some H
  have q:=aI qe hr1
  refine rAq ?_
  refine cnd H (fun h4 H=>?_) (fun h4 H=>?_)
  · refine rA ?_
    refine jF ?_
    refine lf ?_
    obtain rfl:=Option.some.inj H
    exact rt []
  refine jD ?_
  refine hK2 _ ?_
  refine Jz (fun (x:Unit)=>vtoc_Owner_s1) (fun x=>vtoc_Owner_k1 n=some r) ?_ ?_
  · refine rA ?_
    refine jR ?_
    obtain ⟨y8,hy8,Ho8⟩:=bind_some H
    refine Jq _ (fun x=>vtoc_Owner_t2 track v (v.Sets.length:Int) x) hy8 (wb []) ?_
    rintro v17 z8 H
    try dsimp only at H
    unfold vtoc_Owner_b2 at H
    refine Sm.st (vtoc_Owner_t2.eq_1 ..) ?_
    refine rA ?_
    refine jA fun K10 hK10=>?_
    refine cnd H (fun h11 H=>?_) (fun h11 H=>?_)
    · refine jD ?_
      refine hK10 _ ?_
      refine jA fun K12 hK12=>?_
      refine jR ?_
      obtain ⟨hg18,H⟩:=gd_some H
      refine rA ?_
      obtain ⟨r2,hr2,H⟩:=bind_some H
      have q:=aI qe hr2
      refine rAq ?_
      refine rA ?_
      refine cnd H (fun h16 H=>?_) (fun h16 H=>?_)
      · refine rA ?_
        refine jF ?_
        refine lf ?_
        refine lx H fun hyy=>?_
        subst hyy
        have H:=Ho8
        try dsimp only at H
        refine lf ?_
        obtain rfl:=Option.some.inj H
        exact rt []
      refine jD ?_
      refine hK12 _ ?_
      refine eA ?_
      refine lf ?_
      exact nx H (wb [])
    refine JE ?_
    refine lf ?_
    refine lx H fun hyy=>?_
    subst hyy
    have H:=Ho8
    try dsimp only at H
    refine lf ?_
    exact ⟨(),H,wb []⟩
  rintro ⟨⟩ H
  try dsimp only at H
  unfold vtoc_Owner_k1 at H
  refine Sm.st (vtoc_Owner_s1.eq_1 ..) ?_
  refine rA ?_
  refine jF ?_
  refine lf ?_
  obtain rfl:=Option.some.inj H
  exact rt []
abbrev law21_VtocApart_s3:S:=stB [] []
def law21_VtocApart_k3 (n:Nat):Option Bool :=
  some true
abbrev law21_VtocApart_t4 (v:List UInt8) (v_1:Int) (v_2:Int) (v_3:Int) (v_4:List TDscb) (n_:Int) (owners_1:List Int) (names:List (List UInt8)) (t:Int):S:=stB [(5,.box 9010 0),(6,.c (.int .i64) (.int n_)),(7,.own 9011 [.int .i64] 0 owners_1.length),(8,.own 9012 [.str] 0 names.length),(16,.c (.int .i64) (.int t))] [(9010,.box [.c .str (.str v),.c (.int .i64) (.int v_1),.c (.int .i64) (.int v_2),.c (.int .i64) (.int v_3),.c (.slice 41) (.slice (List.map e_TDscb v_4))]),(9011,.row 3 (List.map e_Int owners_1)),(9012,.row 9 (List.map e_Str names))]
def law21_VtocApart_b4 (n:Nat) (v:List UInt8) (v_1:Int) (v_2:Int) (v_3:Int) (v_4:List TDscb) (n_:Int) (owners_1:List Int) (names:List (List UInt8)) (t:Int):Option ((Int) ⊕ (((Bool) ⊕ (Unit)))) :=
  bif (decide (t < n_)) then
    (vtoc_Owner n (⟨v,v_1,v_2,v_3,v_4⟩:TVtoc) t).bind fun r4 =>
    gd ((0≤t∧t < (owners_1.length:Int))∧(Int.toNat t) < owners_1.length∧((!(((gt owners_1 (Int.toNat t)) == 1) != (decide (t > v_3))))=true→(0≤t∧t < (owners_1.length:Int)))∧((!(((gt owners_1 (Int.toNat t)) == 1) != (decide (t > v_3))))=true→(Int.toNat t) < owners_1.length)∧((!(if (((gt owners_1 (Int.toNat t)) == 1) != (decide (t > v_3)))=true then true else (decide ((gt owners_1 (Int.toNat t)) > 1))))=true→(0≤t∧t < (names.length:Int)))∧((!(if (((gt owners_1 (Int.toNat t)) == 1) != (decide (t > v_3)))=true then true else (decide ((gt owners_1 (Int.toNat t)) > 1))))=true→(Int.toNat t) < names.length)∧((!(if (if (((gt owners_1 (Int.toNat t)) == 1) != (decide (t > v_3)))=true then true else (decide ((gt owners_1 (Int.toNat t)) > 1)))=true then true else (r4.2.2 != ((gt names (Int.toNat t)) != []))))=true→(0≤t∧t < (names.length:Int)))∧((!(if (if (((gt owners_1 (Int.toNat t)) == 1) != (decide (t > v_3)))=true then true else (decide ((gt owners_1 (Int.toNat t)) > 1)))=true then true else (r4.2.2 != ((gt names (Int.toNat t)) != []))))=true→(Int.toNat t) < names.length)) <|
    bif (if (if (if (if (if (((gt owners_1 (Int.toNat t)) == 1) != (decide (t > v_3)))=true then true else (decide ((gt owners_1 (Int.toNat t)) > 1)))=true then true else (r4.2.2 != ((gt names (Int.toNat t)) != [])))=true then true else (r4.1 != (gt names (Int.toNat t))))=true then true else (decide (r4.2.1 < 0)))=true then true else (decide (r4.2.1 ≥ n_))) then
      some (.inr (.inl false))
    else
      some (.inl (jc .i64 (t+1)))
  else
    some (.inr (.inr ()))
abbrev law21_VtocApart_s2 (v:List UInt8) (v_1:Int) (v_2:Int) (v_3:Int) (v_4:List TDscb) (n_:Int) (owners_1:List Int) (names:List (List UInt8)):S:=stB [(5,.box 9004 0),(6,.c (.int .i64) (.int n_)),(7,.own 9005 [.int .i64] 0 owners_1.length),(8,.own 9006 [.str] 0 names.length)] [(9004,.box [.c .str (.str v),.c (.int .i64) (.int v_1),.c (.int .i64) (.int v_2),.c (.int .i64) (.int v_3),.c (.slice 41) (.slice (List.map e_TDscb v_4))]),(9005,.row 3 (List.map e_Int owners_1)),(9006,.row 9 (List.map e_Str names))]
def law21_VtocApart_k2 (n:Nat) (v:List UInt8) (v_1:Int) (v_2:Int) (v_3:Int) (v_4:List TDscb) (n_:Int) (owners_1:List Int) (names:List (List UInt8)):Option Bool :=
  (loopF (fun (x:Int)=>law21_VtocApart_b4 n v v_1 v_2 v_3 v_4 n_ owners_1 names x) n 0).bind fun y15 =>
  match y15 with
  | .inl vv =>
    some vv
  | .inr vv =>
    law21_VtocApart_k3 n
abbrev law21_VtocApart_s6 (v:List UInt8) (v_1:Int) (v_2:Int) (v_3:Int) (v_4:List TDscb) (n_:Int) (owners_3:List Int) (names:List (List UInt8)) (free:List TExtent) (i:Int):S:=stB [(5,.box 9021 0),(6,.c (.int .i64) (.int n_)),(7,.own 9022 [.int .i64] 0 owners_3.length),(8,.own 9023 [.str] 0 names.length),(9,.own 9024 [.int .i64,.int .i64] 0 free.length),(14,.c (.int .i64) (.int i))] [(9021,.box [.c .str (.str v),.c (.int .i64) (.int v_1),.c (.int .i64) (.int v_2),.c (.int .i64) (.int v_3),.c (.slice 41) (.slice (List.map e_TDscb v_4))]),(9022,.row 3 (List.map e_Int owners_3)),(9023,.row 9 (List.map e_Str names)),(9024,.row 80 (List.map e_TExtent free))]
def law21_VtocApart_k6 (n:Nat) (v:List UInt8) (v_1:Int) (v_2:Int) (v_3:Int) (v_4:List TDscb) (n_:Int) (owners_3:List Int) (names:List (List UInt8)) (free:List TExtent) (i:Int):Option (((List Int)×Int) ⊕ (((List Int)))) :=
  some (.inl (owners_3,(jc .i64 (i+1))))
abbrev law21_VtocApart_t7 (v:List UInt8) (v_1:Int) (v_2:Int) (v_3:Int) (v_4:List TDscb) (n_:Int) (names:List (List UInt8)) (free:List TExtent) (i:Int) (owners_4:List Int) (t_1:Int):S:=stB [(5,.box 9029 0),(6,.c (.int .i64) (.int n_)),(7,.own 9030 [.int .i64] 0 owners_4.length),(8,.own 9031 [.str] 0 names.length),(9,.own 9032 [.int .i64,.int .i64] 0 free.length),(14,.c (.int .i64) (.int i)),(15,.c (.int .i64) (.int t_1))] [(9029,.box [.c .str (.str v),.c (.int .i64) (.int v_1),.c (.int .i64) (.int v_2),.c (.int .i64) (.int v_3),.c (.slice 41) (.slice (List.map e_TDscb v_4))]),(9030,.row 3 (List.map e_Int owners_4)),(9031,.row 9 (List.map e_Str names)),(9032,.row 80 (List.map e_TExtent free))]
def law21_VtocApart_b7 (n:Nat) (v:List UInt8) (v_1:Int) (v_2:Int) (v_3:Int) (v_4:List TDscb) (n_:Int) (names:List (List UInt8)) (free:List TExtent) (i:Int) (owners_4:List Int) (t_1:Int):Option (((List Int)×Int) ⊕ (((List Int)))) :=
  gd ((0≤i∧i < (free.length:Int))∧(Int.toNat i) < free.length∧(0≤i∧i < (free.length:Int))∧(Int.toNat i) < free.length) <|
  bif (decide (t_1 < (jc .i64 (((gt free (Int.toNat i)).At)+((gt free (Int.toNat i)).Len))))) then
    gd ((0≤t_1∧t_1 < (owners_4.length:Int))∧(Int.toNat t_1) < owners_4.length∧(0≤t_1∧t_1 < (owners_4.length:Int))∧(Int.toNat t_1) < owners_4.length) <|
    some (.inl ((List.set owners_4 (Int.toNat t_1) (jc .i64 ((gt owners_4 (Int.toNat t_1))+1))),(jc .i64 (t_1+1))))
  else
    some (.inr owners_4)
abbrev law21_VtocApart_t5 (v:List UInt8) (v_1:Int) (v_2:Int) (v_3:Int) (v_4:List TDscb) (n_:Int) (names:List (List UInt8)) (free:List TExtent) (owners_2:List Int) (i:Int):S:=stB [(5,.box 9017 0),(6,.c (.int .i64) (.int n_)),(7,.own 9018 [.int .i64] 0 owners_2.length),(8,.own 9019 [.str] 0 names.length),(9,.own 9020 [.int .i64,.int .i64] 0 free.length),(14,.c (.int .i64) (.int i))] [(9017,.box [.c .str (.str v),.c (.int .i64) (.int v_1),.c (.int .i64) (.int v_2),.c (.int .i64) (.int v_3),.c (.slice 41) (.slice (List.map e_TDscb v_4))]),(9018,.row 3 (List.map e_Int owners_2)),(9019,.row 9 (List.map e_Str names)),(9020,.row 80 (List.map e_TExtent free))]
def law21_VtocApart_b5 (n:Nat) (v:List UInt8) (v_1:Int) (v_2:Int) (v_3:Int) (v_4:List TDscb) (n_:Int) (names:List (List UInt8)) (free:List TExtent) (owners_2:List Int) (i:Int):Option (((List Int)×Int) ⊕ (((List Int)))) :=
  bif (decide (i < ((free.length:Nat):Int))) then
    gd ((0≤i∧i < (free.length:Int))∧(Int.toNat i) < free.length) <|
    (loopF (fun (x:(List Int)×Int)=>law21_VtocApart_b7 n v v_1 v_2 v_3 v_4 n_ names free i x.1 x.2) n (owners_2,(gt free (Int.toNat i)).At)).bind fun y38 =>
    law21_VtocApart_k6 n v v_1 v_2 v_3 v_4 n_ y38 names free i
  else
    some (.inr owners_2)
abbrev law21_VtocApart_s1 (v:List UInt8) (v_1:Int) (v_2:Int) (v_3:Int) (v_4:List TDscb) (n_:Int) (owners:List Int) (names:List (List UInt8)) (free:List TExtent):S:=stB [(5,.box 9000 0),(6,.c (.int .i64) (.int n_)),(7,.own 9001 [.int .i64] 0 owners.length),(8,.own 9002 [.str] 0 names.length),(9,.own 9003 [.int .i64,.int .i64] 0 free.length)] [(9000,.box [.c .str (.str v),.c (.int .i64) (.int v_1),.c (.int .i64) (.int v_2),.c (.int .i64) (.int v_3),.c (.slice 41) (.slice (List.map e_TDscb v_4))]),(9001,.row 3 (List.map e_Int owners)),(9002,.row 9 (List.map e_Str names)),(9003,.row 80 (List.map e_TExtent free))]
def law21_VtocApart_k1 (n:Nat) (v:List UInt8) (v_1:Int) (v_2:Int) (v_3:Int) (v_4:List TDscb) (n_:Int) (owners:List Int) (names:List (List UInt8)) (free:List TExtent):Option Bool :=
  (loopF (fun (x:(List Int)×Int)=>law21_VtocApart_b5 n v v_1 v_2 v_3 v_4 n_ names free x.1 x.2) n (owners,0)).bind fun y33 =>
  law21_VtocApart_k2 n v v_1 v_2 v_3 v_4 n_ y33 names
abbrev law21_VtocApart_s9 (v_5:List UInt8) (v_6:Int) (v_7:Int) (v_8:Int) (v_9:List TDscb) (n__1:Int) (owners_6:List Int) (names_2:List (List UInt8)) (free_1:List TExtent) (k:Int):S:=stB [(5,.box 9041 0),(6,.c (.int .i64) (.int n__1)),(7,.own 9042 [.int .i64] 0 owners_6.length),(8,.own 9043 [.str] 0 names_2.length),(9,.own 9044 [.int .i64,.int .i64] 0 free_1.length),(10,.c (.int .i64) (.int k))] [(9041,.box [.c .str (.str v_5),.c (.int .i64) (.int v_6),.c (.int .i64) (.int v_7),.c (.int .i64) (.int v_8),.c (.slice 41) (.slice (List.map e_TDscb v_9))]),(9042,.row 3 (List.map e_Int owners_6)),(9043,.row 9 (List.map e_Str names_2)),(9044,.row 80 (List.map e_TExtent free_1))]
def law21_VtocApart_k9 (n:Nat) (v_5:List UInt8) (v_6:Int) (v_7:Int) (v_8:Int) (v_9:List TDscb) (n__1:Int) (owners_6:List Int) (names_2:List (List UInt8)) (free_1:List TExtent) (k:Int):Option (((List Int)×(List (List UInt8))×Int) ⊕ (((List Int)×(List (List UInt8))))) :=
  some (.inl (owners_6,names_2,(jc .i64 (k+1))))
abbrev law21_VtocApart_s11 (v_5:List UInt8) (v_6:Int) (v_7:Int) (v_8:Int) (v_9:List TDscb) (n__1:Int) (owners_8:List Int) (names_4:List (List UInt8)) (free_1:List TExtent) (k:Int) (i_1:Int):S:=stB [(5,.box 9053 0),(6,.c (.int .i64) (.int n__1)),(7,.own 9054 [.int .i64] 0 owners_8.length),(8,.own 9055 [.str] 0 names_4.length),(9,.own 9056 [.int .i64,.int .i64] 0 free_1.length),(10,.c (.int .i64) (.int k)),(11,.c (.int .i64) (.int i_1))] [(9053,.box [.c .str (.str v_5),.c (.int .i64) (.int v_6),.c (.int .i64) (.int v_7),.c (.int .i64) (.int v_8),.c (.slice 41) (.slice (List.map e_TDscb v_9))]),(9054,.row 3 (List.map e_Int owners_8)),(9055,.row 9 (List.map e_Str names_4)),(9056,.row 80 (List.map e_TExtent free_1))]
def law21_VtocApart_k11 (n:Nat) (v_5:List UInt8) (v_6:Int) (v_7:Int) (v_8:Int) (v_9:List TDscb) (n__1:Int) (owners_8:List Int) (names_4:List (List UInt8)) (free_1:List TExtent) (k:Int) (i_1:Int):Option (((List Int)×(List (List UInt8))×Int) ⊕ (((List Int)×(List (List UInt8))))) :=
  some (.inl (owners_8,names_4,(jc .i64 (i_1+1))))
abbrev law21_VtocApart_t12 (v_5:List UInt8) (v_6:Int) (v_7:Int) (v_8:Int) (v_9:List TDscb) (n__1:Int) (free_1:List TExtent) (k:Int) (i_1:Int) (x_:Int) (x__1:Int) (owners_9:List Int) (names_5:List (List UInt8)) (t_2:Int):S:=stB [(5,.box 9062 0),(6,.c (.int .i64) (.int n__1)),(7,.own 9063 [.int .i64] 0 owners_9.length),(8,.own 9064 [.str] 0 names_5.length),(9,.own 9065 [.int .i64,.int .i64] 0 free_1.length),(10,.c (.int .i64) (.int k)),(11,.c (.int .i64) (.int i_1)),(12,.box 9066 0),(13,.c (.int .i64) (.int t_2))] [(9062,.box [.c .str (.str v_5),.c (.int .i64) (.int v_6),.c (.int .i64) (.int v_7),.c (.int .i64) (.int v_8),.c (.slice 41) (.slice (List.map e_TDscb v_9))]),(9063,.row 3 (List.map e_Int owners_9)),(9064,.row 9 (List.map e_Str names_5)),(9065,.row 80 (List.map e_TExtent free_1)),(9066,.box [.c (.int .i64) (.int x_),.c (.int .i64) (.int x__1)])]
def law21_VtocApart_b12 (n:Nat) (v_5:List UInt8) (v_6:Int) (v_7:Int) (v_8:Int) (v_9:List TDscb) (n__1:Int) (free_1:List TExtent) (k:Int) (i_1:Int) (x_:Int) (x__1:Int) (owners_9:List Int) (names_5:List (List UInt8)) (t_2:Int):Option (((List Int)×(List (List UInt8))×Int) ⊕ (((List Int)×(List (List UInt8))))) :=
  bif (decide (t_2 < (jc .i64 (x_+x__1)))) then
    gd ((0≤t_2∧t_2 < (owners_9.length:Int))∧(Int.toNat t_2) < owners_9.length∧(0≤t_2∧t_2 < (owners_9.length:Int))∧(Int.toNat t_2) < owners_9.length) <|
    gd ((0≤k∧k < (v_9.length:Int))∧(0≤t_2∧t_2 < (names_5.length:Int))∧(Int.toNat t_2) < names_5.length) <|
    some (.inl ((List.set owners_9 (Int.toNat t_2) (jc .i64 ((gt owners_9 (Int.toNat t_2))+1))),(List.set names_5 (Int.toNat t_2) ((gt v_9 (Int.toNat k)).Name)),(jc .i64 (t_2+1))))
  else
    some (.inr (owners_9,names_5))
abbrev law21_VtocApart_t10 (v_5:List UInt8) (v_6:Int) (v_7:Int) (v_8:Int) (v_9:List TDscb) (n__1:Int) (free_1:List TExtent) (k:Int) (owners_7:List Int) (names_3:List (List UInt8)) (i_1:Int):S:=stB [(5,.box 9049 0),(6,.c (.int .i64) (.int n__1)),(7,.own 9050 [.int .i64] 0 owners_7.length),(8,.own 9051 [.str] 0 names_3.length),(9,.own 9052 [.int .i64,.int .i64] 0 free_1.length),(10,.c (.int .i64) (.int k)),(11,.c (.int .i64) (.int i_1))] [(9049,.box [.c .str (.str v_5),.c (.int .i64) (.int v_6),.c (.int .i64) (.int v_7),.c (.int .i64) (.int v_8),.c (.slice 41) (.slice (List.map e_TDscb v_9))]),(9050,.row 3 (List.map e_Int owners_7)),(9051,.row 9 (List.map e_Str names_3)),(9052,.row 80 (List.map e_TExtent free_1))]
def law21_VtocApart_b10 (n:Nat) (v_5:List UInt8) (v_6:Int) (v_7:Int) (v_8:Int) (v_9:List TDscb) (n__1:Int) (free_1:List TExtent) (k:Int) (owners_7:List Int) (names_3:List (List UInt8)) (i_1:Int):Option (((List Int)×(List (List UInt8))×Int) ⊕ (((List Int)×(List (List UInt8))))) :=
  gd ((0≤k∧k < (v_9.length:Int))) <|
  bif (decide (i_1 < (((gt v_9 (Int.toNat k)).Extents).length:Int))) then
    gd ((0≤k∧k < (v_9.length:Int))∧(0≤i_1∧i_1 < (((gt v_9 (Int.toNat k)).Extents).length:Int))) <|
    (loopF (fun (x:(List Int)×(List (List UInt8))×Int)=>law21_VtocApart_b12 n v_5 v_6 v_7 v_8 v_9 n__1 free_1 k i_1 ((gt ((gt v_9 (Int.toNat k)).Extents) (Int.toNat i_1)).At) ((gt ((gt v_9 (Int.toNat k)).Extents) (Int.toNat i_1)).Len) x.1 x.2.1 x.2.2) n (owners_7,names_3,(gt ((gt v_9 (Int.toNat k)).Extents) (Int.toNat i_1)).At)).bind fun y65 =>
    law21_VtocApart_k11 n v_5 v_6 v_7 v_8 v_9 n__1 y65.1 y65.2 free_1 k i_1
  else
    some (.inr (owners_7,names_3))
abbrev law21_VtocApart_t8 (v_5:List UInt8) (v_6:Int) (v_7:Int) (v_8:Int) (v_9:List TDscb) (n__1:Int) (free_1:List TExtent) (owners_5:List Int) (names_1:List (List UInt8)) (k:Int):S:=stB [(5,.box 9037 0),(6,.c (.int .i64) (.int n__1)),(7,.own 9038 [.int .i64] 0 owners_5.length),(8,.own 9039 [.str] 0 names_1.length),(9,.own 9040 [.int .i64,.int .i64] 0 free_1.length),(10,.c (.int .i64) (.int k))] [(9037,.box [.c .str (.str v_5),.c (.int .i64) (.int v_6),.c (.int .i64) (.int v_7),.c (.int .i64) (.int v_8),.c (.slice 41) (.slice (List.map e_TDscb v_9))]),(9038,.row 3 (List.map e_Int owners_5)),(9039,.row 9 (List.map e_Str names_1)),(9040,.row 80 (List.map e_TExtent free_1))]
def law21_VtocApart_b8 (n:Nat) (v_5:List UInt8) (v_6:Int) (v_7:Int) (v_8:Int) (v_9:List TDscb) (n__1:Int) (free_1:List TExtent) (owners_5:List Int) (names_1:List (List UInt8)) (k:Int):Option (((List Int)×(List (List UInt8))×Int) ⊕ (((List Int)×(List (List UInt8))))) :=
  bif (decide (k < (v_9.length:Int))) then
    (loopF (fun (x:(List Int)×(List (List UInt8))×Int)=>law21_VtocApart_b10 n v_5 v_6 v_7 v_8 v_9 n__1 free_1 k x.1 x.2.1 x.2.2) n (owners_5,names_1,0)).bind fun y59 =>
    law21_VtocApart_k9 n v_5 v_6 v_7 v_8 v_9 n__1 y59.1 y59.2 free_1 k
  else
    some (.inr (owners_5,names_1))
def law21_VtocApart (n:Nat) (s:TStart) (l:List TAct):Option Bool :=
  (law21_play n s l).bind fun r1 =>
  (vtoc_Check n r1).bind fun r2 =>
  gd (((!(r2 != 0))=true→(law21_works n).isSome=true)) <|
  bif (if (r2 != 0)=true then true else (!((law21_works n).getD default))) then
    some false
  else
    gd ((0≤(jc .i64 (r1.Cyls * r1.Heads))∧(jc .i64 (r1.Cyls * r1.Heads))≤(jc .i64 (r1.Cyls * r1.Heads))∧(jc .i64 (r1.Cyls * r1.Heads))≤2147483648)) <|
    gd ((0≤(jc .i64 (r1.Cyls * r1.Heads))∧(jc .i64 (r1.Cyls * r1.Heads))≤(jc .i64 (r1.Cyls * r1.Heads))∧(jc .i64 (r1.Cyls * r1.Heads))≤2147483648)) <|
    (vtoc_Free n r1).bind fun r3 =>
    (loopF (fun (x:(List Int)×(List (List UInt8))×Int)=>law21_VtocApart_b8 n r1.Serial r1.Cyls r1.Heads r1.Size r1.Sets (jc .i64 (r1.Cyls * r1.Heads)) r3 x.1 x.2.1 x.2.2) n ((zreps (Int.toNat (jc .i64 (r1.Cyls * r1.Heads))) 0),(zreps (Int.toNat (jc .i64 (r1.Cyls * r1.Heads))) []),0)).bind fun y54 =>
    law21_VtocApart_k1 n r1.Serial r1.Cyls r1.Heads r1.Size r1.Sets (jc .i64 (r1.Cyls * r1.Heads)) y54.1 y54.2 r3
def xlaw21_VtocApart (n:Nat):Go.AE.Fn:=mkFn (A:=TStart×(List TAct)) (R:=Bool) 10 [(true,[.int .u8,.int .u8,.int .u8]),(false,[.slice 62])] false (fun xs=>((⟨(cg (xs.getD 0 []) 0).toInt,(cg (xs.getD 0 []) 1).toInt,(cg (xs.getD 0 []) 2).toInt⟩:TStart),((cg (xs.getD 1 []) 0).toSl.map d_TAct))) (fun a=>[[.int a.1.Cyls,.int a.1.Heads,.int a.1.Size],[.slice (List.map e_TAct a.2)]]) (fun a=>law21_VtocApart n a.1 a.2) (fun r=>[.c .bool (.bool r)]) (fun r=>[])
theorem claw21_VtocApart (n:Nat):Contract jd (xlaw21_VtocApart n):=by
  have hΓ:=g1 (claw21_play n) (g1 (cvtoc_Check n) (g1 (claw21_works n) (g1 (cvtoc_Free n) (g1 (cvtoc_Owner n) (@g0 (Contract jd))))))
  have qe:=aI @xlaw21_play.eq_1 (aI @xvtoc_Check.eq_1 (aI @xlaw21_works.eq_1 (aI @xvtoc_Free.eq_1 @xvtoc_Owner.eq_1)))
  refine contract_f (Tryz.f10.body.getD .skip) h00 Tryz.func10 rfl Tryz.call10 (by decide) (by intro _ r;exact ⟨rfl,by simp⟩) ?_
  rintro ⟨s,l⟩ r H
  try dsimp only at H
  unfold law21_VtocApart at H
  simp only [Tryz.f10,jJ]
  refine rA ?_
  obtain ⟨r1,hr1,H⟩:=bind_some H
  have q:=aI qe hr1
  refine rAq ?_
  refine jA fun K3 hK3=>?_
  obtain ⟨r2,hr2,H⟩:=bind_some H
  obtain ⟨hg81,H⟩:=gd_some H
  have q:=aI qe hr2
  refine rAq ?_
  refine cnd H (fun h5 H=>?_) (fun h5 H=>?_)
  · refine rA ?_
    refine jF ?_
    refine lf ?_
    obtain rfl:=Option.some.inj H
    exact rt []
  refine jD ?_
  refine hK3 _ ?_
  refine rA ?_
  refine sX fun K8 hK8=>?_
  obtain ⟨hg9,H⟩:=gd_some H
  refine oX ?_
  refine oY ?_
  refine oX ?_
  refine hK8 _ ?_
  refine sX fun K10 hK10=>?_
  obtain ⟨hg11,H⟩:=gd_some H
  refine oX ?_
  refine oY ?_
  refine oX ?_
  refine hK10 _ ?_
  obtain ⟨r3,hr3,H⟩:=bind_some H
  have q:=aI qe hr3
  refine rAq ?_
  refine Jz (fun (x:(List UInt8)×Int×Int×Int×(List TDscb)×Int×(List Int)×(List (List UInt8))×(List TExtent))=>law21_VtocApart_s1 x.1 x.2.1 x.2.2.1 x.2.2.2.1 x.2.2.2.2.1 x.2.2.2.2.2.1 x.2.2.2.2.2.2.1 x.2.2.2.2.2.2.2.1 x.2.2.2.2.2.2.2.2) (fun x=>law21_VtocApart_k1 n x.1 x.2.1 x.2.2.1 x.2.2.2.1 x.2.2.2.2.1 x.2.2.2.2.2.1 x.2.2.2.2.2.2.1 x.2.2.2.2.2.2.2.1 x.2.2.2.2.2.2.2.2=some r) ?_ ?_
  · refine rA ?_
    refine jR ?_
    obtain ⟨y54,hy54,Ho54⟩:=bind_some H
    refine Jq _ (fun x=>law21_VtocApart_t8 r1.Serial r1.Cyls r1.Heads r1.Size r1.Sets (jc .i64 (r1.Cyls * r1.Heads)) r3 x.1 x.2.1 x.2.2) hy54 (wb [some 80,some 576,some 608,some 640]) ?_
    rintro ⟨owners_5,names_1,k⟩ z54 H
    try dsimp only at H
    unfold law21_VtocApart_b8 at H
    refine Sm.st (law21_VtocApart_t8.eq_1 ..) ?_
    refine jA fun K55 hK55=>?_
    refine rA ?_
    refine cnd H (fun h57 H=>?_) (fun h57 H=>?_)
    · refine jD ?_
      refine hK55 _ ?_
      refine Jz (fun (x:(List Int)×(List (List UInt8)))=>law21_VtocApart_s9 r1.Serial r1.Cyls r1.Heads r1.Size r1.Sets (jc .i64 (r1.Cyls * r1.Heads)) x.1 x.2 r3 k) (fun x=>law21_VtocApart_k9 n r1.Serial r1.Cyls r1.Heads r1.Size r1.Sets (jc .i64 (r1.Cyls * r1.Heads)) x.1 x.2 r3 k=some z54) ?_ ?_
      · refine jR ?_
        refine rA ?_
        refine jR ?_
        obtain ⟨y59,hy59,Ho59⟩:=bind_some H
        refine Jq _ (fun x=>law21_VtocApart_t10 r1.Serial r1.Cyls r1.Heads r1.Size r1.Sets (jc .i64 (r1.Cyls * r1.Heads)) r3 k x.1 x.2.1 x.2.2) hy59 (wb [some 9037,some 9038,some 9039,some 9040]) ?_
        rintro ⟨owners_7,names_3,i_1⟩ z59 H
        try dsimp only at H
        unfold law21_VtocApart_b10 at H
        refine Sm.st (law21_VtocApart_t10.eq_1 ..) ?_
        refine jA fun K60 hK60=>?_
        obtain ⟨hg80,H⟩:=gd_some H
        refine rA ?_
        refine cnd H (fun h62 H=>?_) (fun h62 H=>?_)
        · refine jD ?_
          refine hK60 _ ?_
          refine Jz (fun (x:(List Int)×(List (List UInt8)))=>law21_VtocApart_s11 r1.Serial r1.Cyls r1.Heads r1.Size r1.Sets (jc .i64 (r1.Cyls * r1.Heads)) x.1 x.2 r3 k i_1) (fun x=>law21_VtocApart_k11 n r1.Serial r1.Cyls r1.Heads r1.Size r1.Sets (jc .i64 (r1.Cyls * r1.Heads)) x.1 x.2 r3 k i_1=some z59) ?_ ?_
          · refine jR ?_
            obtain ⟨⟨hg78,hg79⟩,H⟩:=gd_some H
            refine rA ?_
            refine rA ?_
            refine jR ?_
            obtain ⟨y65,hy65,Ho65⟩:=bind_some H
            refine Jq _ (fun x=>law21_VtocApart_t12 r1.Serial r1.Cyls r1.Heads r1.Size r1.Sets (jc .i64 (r1.Cyls * r1.Heads)) r3 k i_1 ((gt ((gt r1.Sets (Int.toNat k)).Extents) (Int.toNat i_1)).At) ((gt ((gt r1.Sets (Int.toNat k)).Extents) (Int.toNat i_1)).Len) x.1 x.2.1 x.2.2) hy65 (wb [some 9049,some 9050,some 9051,some 9052,some 192]) ?_
            rintro ⟨owners_9,names_5,t_2⟩ z65 H
            try dsimp only at H
            unfold law21_VtocApart_b12 at H
            refine Sm.st (law21_VtocApart_t12.eq_1 ..) ?_
            refine jA fun K66 hK66=>?_
            refine rA ?_
            refine cnd H (fun h68 H=>?_) (fun h68 H=>?_)
            · refine jD ?_
              refine hK66 _ ?_
              refine jA fun K69 hK69=>?_
              refine jR ?_
              obtain ⟨⟨hg74,hg75,hg76,hg77⟩,H⟩:=gd_some H
              refine rA ?_
              obtain ⟨⟨hg71,hg72,hg73⟩,H⟩:=gd_some H
              refine eA ?_
              refine hK69 _ ?_
              refine eA ?_
              refine lf ?_
              exact nx H (wb [some 9062,some 9063,some 9064,some 9065,some 9066])
            refine JE ?_
            refine lf ?_
            refine lx H fun hyy=>?_
            subst hyy
            have H:=Ho65
            try dsimp only at H
            refine lf ?_
            exact ⟨(owners_9,names_5),H,wb [some 9062,some 9063,some 9064,some 9065]⟩
          rintro ⟨owners_8,names_4⟩ H
          try dsimp only at H
          unfold law21_VtocApart_k11 at H
          refine Sm.st (law21_VtocApart_s11.eq_1 ..) ?_
          refine eA ?_
          refine lf ?_
          exact nx H (wb [some 9053,some 9054,some 9055,some 9056])
        refine JE ?_
        refine lf ?_
        refine lx H fun hyy=>?_
        subst hyy
        have H:=Ho59
        try dsimp only at H
        refine lf ?_
        exact ⟨(owners_7,names_3),H,wb [some 9049,some 9050,some 9051,some 9052]⟩
      rintro ⟨owners_6,names_2⟩ H
      try dsimp only at H
      unfold law21_VtocApart_k9 at H
      refine Sm.st (law21_VtocApart_s9.eq_1 ..) ?_
      refine eA ?_
      refine lf ?_
      exact nx H (wb [some 9041,some 9042,some 9043,some 9044])
    refine JE ?_
    refine lf ?_
    refine lx H fun hyy=>?_
    subst hyy
    have H:=Ho54
    try dsimp only at H
    refine lf ?_
    exact ⟨(r1.Serial,r1.Cyls,r1.Heads,r1.Size,r1.Sets,(jc .i64 (r1.Cyls * r1.Heads)),owners_5,names_1,r3),H,wb [some 9037,some 9038,some 9039,some 9040]⟩
  rintro ⟨v,v_1,v_2,v_3,v_4,n_,owners,names,free⟩ H
  try dsimp only at H
  unfold law21_VtocApart_k1 at H
  refine Sm.st (law21_VtocApart_s1.eq_1 ..) ?_
  refine Jz (fun (x:(List Int))=>law21_VtocApart_s2 v v_1 v_2 v_3 v_4 n_ x names) (fun x=>law21_VtocApart_k2 n v v_1 v_2 v_3 v_4 n_ x names=some r) ?_ ?_
  · refine rA ?_
    refine jR ?_
    obtain ⟨y33,hy33,Ho33⟩:=bind_some H
    refine Jq _ (fun x=>law21_VtocApart_t5 v v_1 v_2 v_3 v_4 n_ names free x.1 x.2) hy33 (wb [some 9000,some 9001,some 9002,some 9003]) ?_
    rintro ⟨owners_2,i⟩ z33 H
    try dsimp only at H
    unfold law21_VtocApart_b5 at H
    refine Sm.st (law21_VtocApart_t5.eq_1 ..) ?_
    refine jA fun K34 hK34=>?_
    refine rA ?_
    refine cnd H (fun h36 H=>?_) (fun h36 H=>?_)
    · refine jD ?_
      refine hK34 _ ?_
      refine Jz (fun (x:(List Int))=>law21_VtocApart_s6 v v_1 v_2 v_3 v_4 n_ x names free i) (fun x=>law21_VtocApart_k6 n v v_1 v_2 v_3 v_4 n_ x names free i=some z33) ?_ ?_
      · refine jR ?_
        obtain ⟨⟨hg51,hg52⟩,H⟩:=gd_some H
        refine rA ?_
        refine jR ?_
        obtain ⟨y38,hy38,Ho38⟩:=bind_some H
        refine Jq _ (fun x=>law21_VtocApart_t7 v v_1 v_2 v_3 v_4 n_ names free i x.1 x.2) hy38 (wb [some 9017,some 9018,some 9019,some 9020]) ?_
        rintro ⟨owners_4,t_1⟩ z38 H
        try dsimp only at H
        unfold law21_VtocApart_b7 at H
        refine Sm.st (law21_VtocApart_t7.eq_1 ..) ?_
        refine jA fun K39 hK39=>?_
        obtain ⟨⟨hg47,hg48,hg49,hg50⟩,H⟩:=gd_some H
        refine rD ?_
        refine cnd H (fun h41 H=>?_) (fun h41 H=>?_)
        · refine jD ?_
          refine hK39 _ ?_
          refine jA fun K42 hK42=>?_
          refine jR ?_
          obtain ⟨⟨hg43,hg44,hg45,hg46⟩,H⟩:=gd_some H
          refine eA ?_
          refine hK42 _ ?_
          refine eA ?_
          refine lf ?_
          exact nx H (wb [some 9029,some 9030,some 9031,some 9032])
        refine JE ?_
        refine lf ?_
        refine lx H fun hyy=>?_
        subst hyy
        have H:=Ho38
        try dsimp only at H
        refine lf ?_
        exact ⟨_,H,wb [some 9029,some 9030,some 9031,some 9032]⟩
      rintro owners_3 H
      try dsimp only at H
      unfold law21_VtocApart_k6 at H
      refine Sm.st (law21_VtocApart_s6.eq_1 ..) ?_
      refine eA ?_
      refine lf ?_
      exact nx H (wb [some 9021,some 9022,some 9023,some 9024])
    refine JE ?_
    refine lf ?_
    refine lx H fun hyy=>?_
    subst hyy
    have H:=Ho33
    try dsimp only at H
    refine lf ?_
    exact ⟨_,H,wb [some 9017,some 9018,some 9019]⟩
  rintro owners_1 H
  try dsimp only at H
  unfold law21_VtocApart_k2 at H
  refine Sm.st (law21_VtocApart_s2.eq_1 ..) ?_
  refine Jz (fun (x:Unit)=>law21_VtocApart_s3) (fun x=>law21_VtocApart_k3 n=some r) ?_ ?_
  · refine rA ?_
    refine jR ?_
    obtain ⟨y15,hy15,Ho15⟩:=bind_some H
    refine Jq _ (fun x=>law21_VtocApart_t4 v v_1 v_2 v_3 v_4 n_ owners_1 names x) hy15 (wb [some 9004,some 9005,some 9006]) ?_
    rintro t z15 H
    try dsimp only at H
    unfold law21_VtocApart_b4 at H
    refine Sm.st (law21_VtocApart_t4.eq_1 ..) ?_
    refine jA fun K16 hK16=>?_
    refine rA ?_
    refine cnd H (fun h18 H=>?_) (fun h18 H=>?_)
    · refine jD ?_
      refine hK16 _ ?_
      refine jA fun K19 hK19=>?_
      refine jR ?_
      obtain ⟨r4,hr4,H⟩:=bind_some H
      have q:=aI qe hr4
      refine rAq ?_
      obtain ⟨⟨hg24,hg25,hg26,hg27,hg28,hg29,hg30,hg31⟩,H⟩:=gd_some H
      refine rD ?_
      refine cnd H (fun h22 H=>?_) (fun h22 H=>?_)
      · refine rA ?_
        refine jF ?_
        refine lf ?_
        refine lx H fun hyy=>?_
        subst hyy
        have H:=Ho15
        try dsimp only at H
        refine lf ?_
        obtain rfl:=Option.some.inj H
        exact rt []
      refine jD ?_
      refine hK19 _ ?_
      refine eA ?_
      refine lf ?_
      exact nx H (wb [some 9010,some 9011,some 9012])
    refine JE ?_
    refine lf ?_
    refine lx H fun hyy=>?_
    subst hyy
    have H:=Ho15
    try dsimp only at H
    refine lf ?_
    exact ⟨(),H,wb []⟩
  rintro ⟨⟩ H
  try dsimp only at H
  unfold law21_VtocApart_k3 at H
  refine Sm.st (law21_VtocApart_s3.eq_1 ..) ?_
  refine rA ?_
  refine jF ?_
  refine lf ?_
  obtain rfl:=Option.some.inj H
  exact rt []
end Go.Proofs.YtijnkhcfondehaaGreatDoor
