/- Text. -/
import Derived.Test.YtijnkhcfondehaaGreatDoorM
set_option maxHeartbeats 8000000
set_option linter.unusedVariables false
set_option linter.unusedSimpArgs false
set_option maxRecDepth 100000
namespace Go.Proofs.YtijnkhcfondehaaGreatDoor
open Go.AE
abbrev vtoc_Owner_s1:S:=stB [] []
def vtoc_Owner_k1 (n:Nat):Option ((List UInt8)×Int×Bool) :=
  some ([],0,false)
abbrev vtoc_Owner_t2 (track:Int) (v:TVtoc) (v16:Int) (v17:Int):S:=stB [(1,.c (.int .i64) (.int track)),(15,.c (.slice 41) (.slice (List.map e_TDscb v.Sets))),(16,.c (.int .i64) (.int v16)),(17,.c (.int .i64) (.int v17))] []
def vtoc_Owner_b2 (n:Nat) (track:Int) (v:TVtoc) (v16:Int) (v17:Int):Option ((Int) ⊕ ((((List UInt8)×Int×Bool) ⊕ (Unit)))) :=
  bif (decide (v17 < v16)) then
    gd ((0≤v17∧v17 < (v.Sets.length:Int))) <|
    (extent_Index n ((gt v.Sets (Int.toNat v17)).Extents) track).bind fun r2 =>
    bif r2.2 then
      some (.inr (.inl ((gt v.Sets (Int.toNat v17)).Name,r2.1,true)))
    else
      some (.inl (IntKind.wrap .i64 (v17+1)))
  else
    some (.inr (.inr ()))
def vtoc_Owner (n:Nat) (v:TVtoc) (track:Int):Option ((List UInt8)×Int×Bool) :=
  (vtoc_Check n v).bind fun r1 =>
  bif (r1 != 0) then
    some ([],0,false)
  else
    (loopF (fun (x:Int)=>vtoc_Owner_b2 n track v (v.Sets.length:Int) x) n 0).bind fun y8 =>
    match y8 with
    | .inl vv =>
      some (vv.1,vv.2.1,vv.2.2)
    | .inr vv =>
      vtoc_Owner_k1 n
def xvtoc_Owner (n:Nat):Go.AE.Fn:=mkFn (A:=TVtoc×Int) (R:=(List UInt8)×Int×Bool) 24 [(true,[.str,.int .i64,.int .i64,.int .i64,.slice 41]),(false,[.int .i64])] false (fun xs=>((⟨(cg (xs.getD 0 []) 0).toStr,(cg (xs.getD 0 []) 1).toInt,(cg (xs.getD 0 []) 2).toInt,(cg (xs.getD 0 []) 3).toInt,((cg (xs.getD 0 []) 4).toSl.map d_TDscb)⟩:TVtoc),(cg (xs.getD 1 []) 0).toInt)) (fun a=>[[.str a.1.Serial,.int a.1.Cyls,.int a.1.Heads,.int a.1.Size,.slice (List.map e_TDscb a.1.Sets)],[.int a.2]]) (fun a=>vtoc_Owner n a.1 a.2) (fun r=>[.c .str (.str r.1),.c (.int .i64) (.int r.2.1),.c .bool (.bool r.2.2)]) (fun r=>[])
theorem cvtoc_Owner (n:Nat):Contract Tryz.prog (xvtoc_Owner n):=by
  have hΓ:=g1 (cvtoc_Check n) (g1 (cextent_Index n) (@g0 (Contract Tryz.prog)))
  refine contract_f (Tryz.f24.body.getD .skip) h00 Tryz.func24 rfl Tryz.call24 (by decide) (by intro _ r;exact ⟨rfl,by simp⟩) ?_
  rintro ⟨v,track⟩ r H
  try dsimp only at H
  unfold vtoc_Owner at H
  simp only [Tryz.f24,Option.getD]
  refine rA ?_
  refine Sm.seqK fun K2 hK2=>?_
  obtain ⟨r1,hr1,H⟩:=bind_some H
  have q:=And.intro @xvtoc_Check.eq_1 hr1
  refine rAq ?_
  refine cnd H (fun h4 H=>?_) (fun h4 H=>?_)
  · refine rA ?_
    refine Sm.ret ?_
    refine lf ?_
    obtain rfl:=Option.some.inj H
    exact rt []
  refine Sm.skip ?_
  refine hK2 _ ?_
  refine Sm.cut (fun (x:Unit)=>vtoc_Owner_s1) (fun x=>vtoc_Owner_k1 n=some r) ?_ ?_
  · refine rA ?_
    refine Sm.block ?_
    obtain ⟨y8,hy8,Ho8⟩:=bind_some H
    refine Sm.loopB _ (fun x=>vtoc_Owner_t2 track v (v.Sets.length:Int) x) hy8 (wb []) ?_
    rintro v17 z8 H
    try dsimp only at H
    unfold vtoc_Owner_b2 at H
    refine Sm.st (vtoc_Owner_t2.eq_1 ..) ?_
    refine rA ?_
    refine Sm.seqK fun K10 hK10=>?_
    refine cnd H (fun h11 H=>?_) (fun h11 H=>?_)
    · refine Sm.skip ?_
      refine hK10 _ ?_
      refine Sm.seqK fun K12 hK12=>?_
      refine Sm.block ?_
      obtain ⟨hg18,H⟩:=gd_some H
      refine rA ?_
      obtain ⟨r2,hr2,H⟩:=bind_some H
      have q:=And.intro @xvtoc_Check.eq_1 (And.intro @xextent_Index.eq_1 hr2)
      refine rAq ?_
      refine rA ?_
      refine cnd H (fun h16 H=>?_) (fun h16 H=>?_)
      · refine rA ?_
        refine Sm.ret ?_
        refine lf ?_
        refine lx H fun hyy=>?_
        subst hyy
        have H:=Ho8
        try dsimp only at H
        refine lf ?_
        obtain rfl:=Option.some.inj H
        exact rt []
      refine Sm.skip ?_
      refine hK12 _ ?_
      refine eA ?_
      refine lf ?_
      exact nx H (wb [])
    refine Sm.exit ?_
    refine lf ?_
    refine lx H fun hyy=>?_
    subst hyy
    have H:=Ho8
    try dsimp only at H
    refine lf ?_
    exact ⟨(),H,wb []⟩
  rintro ⟨⟩ H
  try dsimp only at H
  unfold vtoc_Owner_k1 at H
  refine Sm.st (vtoc_Owner_s1.eq_1 ..) ?_
  refine rA ?_
  refine Sm.ret ?_
  refine lf ?_
  obtain rfl:=Option.some.inj H
  exact rt []
def law21_VtocFinds (n:Nat) (v:TVtoc) (name:List UInt8) (track:Int):Option Bool :=
  (law21_works n).bind fun r1 =>
  bif (!r1) then
    some false
  else
    (law21_light n v).bind fun r2 =>
    bif (if (!r2)=true then true else (decide ((name.length:Int) > 100))) then
      some true
    else
      (law21_ref n v).bind fun r3 =>
      (vtoc_Find n v name).bind fun r4 =>
      (ref21_Find n r3 name).bind fun r5 =>
      (vtoc_Owner n v track).bind fun r6 =>
      (ref21_Owner n r3 track).bind fun r7 =>
      gd (((!(r4.2 != r5.2))=true→(ref21_SameSet n r4.1 r5.1).isSome=true)) <|
      bif (if (if (if (if (r4.2 != r5.2)=true then true else (!((ref21_SameSet n r4.1 r5.1).getD default)))=true then true else (r6.1 != r7.1))=true then true else (r6.2.1 != r7.2.1))=true then true else (r6.2.2 != r7.2.2)) then
        some false
      else
        (law21_spoil_R n (⟨[],0,0,0,[r4.1]⟩:TVtoc)).bind fun r8 =>
        (law21_ref n v).bind fun r9 =>
        (ref21_Same n r9 r3).bind fun r10 =>
        some r10
def xlaw21_VtocFinds (n:Nat):Go.AE.Fn:=mkFn (A:=TVtoc×(List UInt8)×Int) (R:=Bool) 4 [(true,[.str,.int .i64,.int .i64,.int .i64,.slice 41]),(false,[.str]),(false,[.int .i64])] false (fun xs=>((⟨(cg (xs.getD 0 []) 0).toStr,(cg (xs.getD 0 []) 1).toInt,(cg (xs.getD 0 []) 2).toInt,(cg (xs.getD 0 []) 3).toInt,((cg (xs.getD 0 []) 4).toSl.map d_TDscb)⟩:TVtoc),(cg (xs.getD 1 []) 0).toStr,(cg (xs.getD 2 []) 0).toInt)) (fun a=>[[.str a.1.Serial,.int a.1.Cyls,.int a.1.Heads,.int a.1.Size,.slice (List.map e_TDscb a.1.Sets)],[.str a.2.1],[.int a.2.2]]) (fun a=>law21_VtocFinds n a.1 a.2.1 a.2.2) (fun r=>[.c .bool (.bool r)]) (fun r=>[])
theorem claw21_VtocFinds (n:Nat):Contract Tryz.prog (xlaw21_VtocFinds n):=by
  have hΓ:=g1 (claw21_works n) (g1 (claw21_light n) (g1 (claw21_ref n) (g1 (cref21_Find n) (g1 (cvtoc_Owner n) (g1 (cref21_Owner n) (g1 (cref21_SameSet n) (g1 (cref21_Same n) (@g0 (Contract Tryz.prog)))))))))
  refine contract_f (Tryz.f4.body.getD .skip) h00 Tryz.func4 rfl Tryz.call4 (by decide) (by intro _ r;exact ⟨rfl,by simp⟩) ?_
  rintro ⟨v,name,track⟩ r H
  try dsimp only at H
  unfold law21_VtocFinds at H
  simp only [Tryz.f4,Option.getD]
  refine rA ?_
  refine Sm.seqK fun K2 hK2=>?_
  obtain ⟨r1,hr1,H⟩:=bind_some H
  have q:=And.intro @xlaw21_works.eq_1 hr1
  refine rAq ?_
  refine cnd H (fun h4 H=>?_) (fun h4 H=>?_)
  · refine rA ?_
    refine Sm.ret ?_
    refine lf ?_
    obtain rfl:=Option.some.inj H
    exact rt []
  refine Sm.skip ?_
  refine hK2 _ ?_
  refine Sm.seqK fun K6 hK6=>?_
  obtain ⟨r2,hr2,H⟩:=bind_some H
  have q:=And.intro @xlaw21_works.eq_1 (And.intro @xlaw21_light.eq_1 hr2)
  refine rAq ?_
  refine cnd H (fun h8 H=>?_) (fun h8 H=>?_)
  · refine rA ?_
    refine Sm.ret ?_
    refine lf ?_
    obtain rfl:=Option.some.inj H
    exact rt []
  refine Sm.skip ?_
  refine hK6 _ ?_
  obtain ⟨r3,hr3,H⟩:=bind_some H
  have q:=And.intro @xlaw21_works.eq_1 (And.intro @xlaw21_light.eq_1 (And.intro @xlaw21_ref.eq_1 hr3))
  refine rAq ?_
  refine sX fun K11 hK11=>?_
  obtain ⟨r4,hr4,H⟩:=bind_some H
  have q:=hr4
  iterate 2 refine oX ?_
  refine oFCq (cvtoc_Find_R n _ _ r4 hr4) 528 [(true,[.str,.int .i64,.int .i64,.int .i64,.slice 41]),(false,[.str])] ?_
  iterate 6 refine oXq ?_
  refine hK11 _ ?_
  obtain ⟨r5,hr5,H⟩:=bind_some H
  have q:=And.intro @xlaw21_works.eq_1 (And.intro @xlaw21_light.eq_1 (And.intro @xlaw21_ref.eq_1 (And.intro @xref21_Find.eq_1 hr5)))
  refine rAq ?_
  obtain ⟨r6,hr6,H⟩:=bind_some H
  have q:=And.intro @xlaw21_works.eq_1 (And.intro @xlaw21_light.eq_1 (And.intro @xlaw21_ref.eq_1 (And.intro @xref21_Find.eq_1 (And.intro @xvtoc_Owner.eq_1 hr6))))
  refine rAq ?_
  obtain ⟨r7,hr7,H⟩:=bind_some H
  have q:=And.intro @xlaw21_works.eq_1 (And.intro @xlaw21_light.eq_1 (And.intro @xlaw21_ref.eq_1 (And.intro @xref21_Find.eq_1 (And.intro @xvtoc_Owner.eq_1 (And.intro @xref21_Owner.eq_1 hr7)))))
  refine rAq ?_
  refine Sm.seqK fun K15 hK15=>?_
  obtain ⟨hg21,H⟩:=gd_some H
  have q:=And.intro @xlaw21_works.eq_1 (And.intro @xlaw21_light.eq_1 (And.intro @xlaw21_ref.eq_1 (And.intro @xref21_Find.eq_1 (And.intro @xvtoc_Owner.eq_1 (And.intro @xref21_Owner.eq_1 @xref21_SameSet.eq_1)))))
  refine rAq ?_
  refine cnd H (fun h17 H=>?_) (fun h17 H=>?_)
  · refine rA ?_
    refine Sm.ret ?_
    refine lf ?_
    obtain rfl:=Option.some.inj H
    exact rt []
  refine Sm.skip ?_
  refine hK15 _ ?_
  refine sX fun K19 hK19=>?_
  obtain ⟨r8,hr8,H⟩:=bind_some H
  have q:=hr8
  refine oX ?_
  refine oE (stepBR_ok h00 528) ?_ (by intro K hK;simp only [z,seval,stepBR,bsR,meltD,meltDs,deadHp];(repeat first | refine gcI ?_ | intro (_:_≤_));exact hK)
  refine oX ?_
  refine oMq (claw21_spoil_R n _ r8 hr8) [1296] [] ?_
  refine hK19 _ ?_
  obtain ⟨r9,hr9,H⟩:=bind_some H
  obtain ⟨r10,hr10,H⟩:=bind_some H
  refine sQ [0,1,2,3,4] [(none,[48],[]),(none,[],[1375,1374,1373,1372,1371,1370,1369,1368,1367,1366,1365,1364,1363,1362,1361,1360]),(none,[112],[]),(none,[464,1360],[1407,1406,1405,1404,1403,1402,1401,1400,1399,1398,1397,1396,1395,1394,1393,1392,464,1360]),(none,[],[])] fun K20 hK20=>?_
  have q:=And.intro @xlaw21_works.eq_1 (And.intro @xlaw21_light.eq_1 (And.intro @xlaw21_ref.eq_1 (And.intro @xref21_Find.eq_1 (And.intro @xvtoc_Owner.eq_1 (And.intro @xref21_Owner.eq_1 (And.intro @xref21_SameSet.eq_1 (And.intro @xref21_Same.eq_1 (And.intro hr9 hr10))))))))
  iterate 5 refine oQq ?_
  refine opsQ0 ?_
  refine hK20 _ ?_
  refine Sm.ret ?_
  refine lf ?_
  obtain rfl:=Option.some.inj H
  exact rt []
end Go.Proofs.YtijnkhcfondehaaGreatDoor
