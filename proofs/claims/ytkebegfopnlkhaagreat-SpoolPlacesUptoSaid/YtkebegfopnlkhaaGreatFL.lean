/- Text. -/
import Derived.Test.YtkebegfopnlkhaaGreatM
set_option maxHeartbeats 8000000
set_option linter.unusedVariables false
set_option linter.unusedSimpArgs false
set_option maxRecDepth 100000
namespace Go.Proofs.YtkebegfopnlkhaaGreat
open Go.AE
abbrev ref39_Tracks_s2 (l:List TLine):S:=stB [(0,.c (.slice 55) (.slice (List.map e_TLine l)))] []
def ref39_Tracks_k2 (n:Nat) (l:List TLine):Option ((List (List TRec))×Int) :=
  (ref39_Layout n l).bind fun r1 =>
  some (r1,0)
abbrev ref39_Tracks_t3 (l:List TLine) (i:Int):S:=stB [(0,.c (.slice 55) (.slice (List.map e_TLine l))),(5,.c (.int .i64) (.int i))] []
def ref39_Tracks_b3 (n:Nat) (l:List TLine) (i:Int):Option ((Int) ⊕ ((((List (List TRec))×Int) ⊕ (Unit)))) :=
  bif (decide (i < (l.length:Int))) then
    gd ((0≤i∧i < (l.length:Int))∧((!(decide (((gt l (Int.toNat i)).Ctl) < 0)))=true→(0≤i∧i < (l.length:Int)))) <|
    bif (if (decide (((gt l (Int.toNat i)).Ctl) < 0))=true then true else (decide (((gt l (Int.toNat i)).Ctl) > 255))) then
      some (.inr (.inl ([],1)))
    else
      some (.inl (IntKind.wrap .i64 (i+1)))
  else
    some (.inr (.inr ()))
abbrev ref39_Tracks_s1 (l:List TLine):S:=stB [(0,.c (.slice 55) (.slice (List.map e_TLine l)))] []
def ref39_Tracks_k1 (n:Nat) (l:List TLine):Option ((List (List TRec))×Int) :=
  (loopF (fun (x:Int)=>ref39_Tracks_b3 n l x) n 0).bind fun y8 =>
  match y8 with
  | .inl v =>
    some (v.1,v.2)
  | .inr v =>
    ref39_Tracks_k2 n l
abbrev ref39_Tracks_t4 (l:List TLine) (i_1:Int):S:=stB [(0,.c (.slice 55) (.slice (List.map e_TLine l))),(4,.c (.int .i64) (.int i_1))] []
def ref39_Tracks_b4 (n:Nat) (l:List TLine) (i_1:Int):Option ((Int) ⊕ ((((List (List TRec))×Int) ⊕ (Unit)))) :=
  bif (decide (i_1 < (l.length:Int))) then
    gd ((0≤i_1∧i_1 < (l.length:Int))) <|
    bif (decide ((((gt l (Int.toNat i_1)).Text).length:Int) > 132)) then
      some (.inr (.inl ([],2)))
    else
      some (.inl (IntKind.wrap .i64 (i_1+1)))
  else
    some (.inr (.inr ()))
def ref39_Tracks (n:Nat) (l:List TLine):Option ((List (List TRec))×Int) :=
  bif (decide ((l.length:Int) > 4096)) then
    some ([],2)
  else
    (loopF (fun (x:Int)=>ref39_Tracks_b4 n l x) n 0).bind fun y19 =>
    match y19 with
    | .inl v =>
      some (v.1,v.2)
    | .inr v =>
      ref39_Tracks_k1 n l
def xref39_Tracks (n:Nat):Go.AE.Fn:=mkFn (A:=(List TLine)) (R:=(List (List TRec))×Int) 40 [(false,[.slice 55])] true (fun xs=>((cg (xs.getD 0 []) 0).toSl.map d_TLine)) (fun a=>[[.slice (List.map e_TLine a)]]) (fun a=>ref39_Tracks n a) (fun r=>[.own 0 [.slice 74] 0 r.1.length,.c (.int .i64) (.int r.2)]) (fun r=>[.row 71 (List.map e_LTRec r.1)])
theorem cref39_Tracks (n:Nat):Contract Tryz.prog (xref39_Tracks n):=by
  have hΓ:=g1 (cref39_Layout n) (@g0 (Contract Tryz.prog))
  refine contract_f (Tryz.f40.body.getD .skip) h00 Tryz.func40 rfl Tryz.call40 (by decide) (by intro h;cases h) ?_
  rintro l r H
  try dsimp only at H
  unfold ref39_Tracks at H
  simp only [Tryz.f40,Option.getD]
  refine rA ?_
  refine Sm.seqK fun K2 hK2=>?_
  refine rA ?_
  refine cnd H (fun h4 H=>?_) (fun h4 H=>?_)
  · refine rA ?_
    refine Sm.ret ?_
    refine lf ?_
    obtain rfl:=Option.some.inj H
    exact rto [none]
  refine Sm.skip ?_
  refine hK2 _ ?_
  refine Sm.cut (fun (x:Unit)=>ref39_Tracks_s1 l) (fun x=>ref39_Tracks_k1 n l=some r) ?_ ?_
  · refine rA ?_
    refine Sm.block ?_
    obtain ⟨y19,hy19,Ho19⟩:=bind_some H
    refine Sm.loopB _ (fun x=>ref39_Tracks_t4 l x) hy19 (wb []) ?_
    rintro i_1 z19 H
    try dsimp only at H
    unfold ref39_Tracks_b4 at H
    refine Sm.st (ref39_Tracks_t4.eq_1 ..) ?_
    refine Sm.seqK fun K20 hK20=>?_
    refine rA ?_
    refine cnd H (fun h22 H=>?_) (fun h22 H=>?_)
    · refine Sm.skip ?_
      refine hK20 _ ?_
      refine Sm.seqK fun K23 hK23=>?_
      refine Sm.block ?_
      obtain ⟨hg27,H⟩:=gd_some H
      refine rA ?_
      refine cnd H (fun h25 H=>?_) (fun h25 H=>?_)
      · refine rA ?_
        refine Sm.ret ?_
        refine lf ?_
        refine lx H fun hyy=>?_
        subst hyy
        have H:=Ho19
        try dsimp only at H
        refine lf ?_
        obtain rfl:=Option.some.inj H
        exact rto [none]
      refine Sm.skip ?_
      refine hK23 _ ?_
      refine eA ?_
      refine lf ?_
      exact nx H (wb [])
    refine Sm.exit ?_
    refine lf ?_
    refine lx H fun hyy=>?_
    subst hyy
    have H:=Ho19
    try dsimp only at H
    refine lf ?_
    exact ⟨(),H,wb []⟩
  rintro ⟨⟩ H
  try dsimp only at H
  unfold ref39_Tracks_k1 at H
  refine Sm.st (ref39_Tracks_s1.eq_1 ..) ?_
  refine Sm.cut (fun (x:Unit)=>ref39_Tracks_s2 l) (fun x=>ref39_Tracks_k2 n l=some r) ?_ ?_
  · refine rA ?_
    refine Sm.block ?_
    obtain ⟨y8,hy8,Ho8⟩:=bind_some H
    refine Sm.loopB _ (fun x=>ref39_Tracks_t3 l x) hy8 (wb []) ?_
    rintro i z8 H
    try dsimp only at H
    unfold ref39_Tracks_b3 at H
    refine Sm.st (ref39_Tracks_t3.eq_1 ..) ?_
    refine Sm.seqK fun K9 hK9=>?_
    refine rA ?_
    refine cnd H (fun h11 H=>?_) (fun h11 H=>?_)
    · refine Sm.skip ?_
      refine hK9 _ ?_
      refine Sm.seqK fun K12 hK12=>?_
      refine Sm.block ?_
      obtain ⟨⟨hg16,hg17⟩,H⟩:=gd_some H
      refine rA ?_
      refine cnd H (fun h14 H=>?_) (fun h14 H=>?_)
      · refine rA ?_
        refine Sm.ret ?_
        refine lf ?_
        refine lx H fun hyy=>?_
        subst hyy
        have H:=Ho8
        try dsimp only at H
        refine lf ?_
        obtain rfl:=Option.some.inj H
        exact rto [none]
      refine Sm.skip ?_
      refine hK12 _ ?_
      refine eA ?_
      refine lf ?_
      exact nx H (wb [])
    refine Sm.exit ?_
    refine lf ?_
    refine lx H fun hyy=>?_
    subst hyy
    have H:=Ho8
    try dsimp only at H
    refine lf ?_
    exact ⟨(),H,wb []⟩
  rintro ⟨⟩ H
  try dsimp only at H
  unfold ref39_Tracks_k2 at H
  refine Sm.st (ref39_Tracks_s2.eq_1 ..) ?_
  obtain ⟨r1,hr1,H⟩:=bind_some H
  have q:=And.intro @xref39_Layout.eq_1 hr1
  refine rAq ?_
  refine Sm.ret ?_
  refine lf ?_
  obtain rfl:=Option.some.inj H
  exact rto [some 688]
def ref39_Put (n:Nat) (s:TSpace) (l:List TLine):Option (TSpace×TFile×(List (List TRec))×Int) :=
  (ref39_Valid n s).bind fun r1 =>
  bif (!r1) then
    some ((⟨0,[]⟩:TSpace),(⟨[],0⟩:TFile),[],1)
  else
    (ref39_Tracks n l).bind fun r2 =>
    bif (r2.2 != 0) then
      some ((⟨0,[]⟩:TSpace),(⟨[],0⟩:TFile),[],r2.2)
    else
      bif (((r2.1.length:Nat):Int) == 0) then
        some (s,(⟨[],0⟩:TFile),[],0)
      else
        (ref20_Take n s.Free ((r2.1.length:Nat):Int) 8).bind fun r3 =>
        bif (r3.2.2 != 0) then
          some ((⟨0,[]⟩:TSpace),(⟨[],0⟩:TFile),[],7)
        else
          some ((⟨s.Tracks,r3.2.1⟩:TSpace),(⟨r3.1,(l.length:Int)⟩:TFile),r2.1,0)
def xref39_Put (n:Nat):Go.AE.Fn:=mkFn (A:=TSpace×(List TLine)) (R:=TSpace×TFile×(List (List TRec))×Int) 25 [(true,[.int .i64,.slice 49]),(false,[.slice 55])] true (fun xs=>((⟨(cg (xs.getD 0 []) 0).toInt,((cg (xs.getD 0 []) 1).toSl.map d_TExtent)⟩:TSpace),((cg (xs.getD 1 []) 0).toSl.map d_TLine))) (fun a=>[[.int a.1.Tracks,.slice (List.map e_TExtent a.1.Free)],[.slice (List.map e_TLine a.2)]]) (fun a=>ref39_Put n a.1 a.2) (fun r=>[.agg [.c (.int .i64) (.int r.1.Tracks),.c (.slice 49) (.slice (List.map e_TExtent r.1.Free))],.agg [.own 0 [.int .i64,.int .i64] 0 r.2.1.Extents.length,.c (.int .i64) (.int r.2.1.Lines)],.own 1 [.slice 74] 0 r.2.2.1.length,.c (.int .i64) (.int r.2.2.2)]) (fun r=>[.row 49 (List.map e_TExtent r.2.1.Extents),.row 71 (List.map e_LTRec r.2.2.1)])
theorem cref39_Put (n:Nat):Contract Tryz.prog (xref39_Put n):=by
  have hΓ:=g1 (cref39_Valid n) (g1 (cref39_Tracks n) (g1 (cref20_Take n) (@g0 (Contract Tryz.prog))))
  refine contract_f (Tryz.f25.body.getD .skip) h00 Tryz.func25 rfl Tryz.call25 (by decide) (by intro h;cases h) ?_
  rintro ⟨s,l⟩ r H
  try dsimp only at H
  unfold ref39_Put at H
  simp only [Tryz.f25,Option.getD]
  refine rA ?_
  refine Sm.seqK fun K2 hK2=>?_
  obtain ⟨r1,hr1,H⟩:=bind_some H
  have q:=And.intro @xref39_Valid.eq_1 hr1
  refine rAq ?_
  refine cnd H (fun h4 H=>?_) (fun h4 H=>?_)
  · refine rA ?_
    refine Sm.ret ?_
    refine lf ?_
    obtain rfl:=Option.some.inj H
    exact rto [none,none]
  refine Sm.skip ?_
  refine hK2 _ ?_
  obtain ⟨r2,hr2,H⟩:=bind_some H
  have q:=And.intro @xref39_Valid.eq_1 (And.intro @xref39_Tracks.eq_1 hr2)
  refine rAq ?_
  refine Sm.seqK fun K7 hK7=>?_
  refine rA ?_
  refine cnd H (fun h9 H=>?_) (fun h9 H=>?_)
  · refine rA ?_
    refine Sm.ret ?_
    refine lf ?_
    obtain rfl:=Option.some.inj H
    exact rto [none,none]
  refine Sm.skip ?_
  refine hK7 _ ?_
  refine Sm.seqK fun K11 hK11=>?_
  refine rA ?_
  refine cnd H (fun h13 H=>?_) (fun h13 H=>?_)
  · refine rA ?_
    refine Sm.ret ?_
    refine lf ?_
    obtain rfl:=Option.some.inj H
    exact rto [none,none]
  refine Sm.skip ?_
  refine hK11 _ ?_
  obtain ⟨r3,hr3,H⟩:=bind_some H
  have q:=And.intro @xref39_Valid.eq_1 (And.intro @xref39_Tracks.eq_1 (And.intro @xref20_Take.eq_1 hr3))
  refine rAq ?_
  refine Sm.seqK fun K16 hK16=>?_
  refine rA ?_
  refine cnd H (fun h18 H=>?_) (fun h18 H=>?_)
  · refine rA ?_
    refine Sm.ret ?_
    refine lf ?_
    obtain rfl:=Option.some.inj H
    exact rto [none,none]
  refine Sm.skip ?_
  refine hK16 _ ?_
  refine rA ?_
  refine Sm.ret ?_
  refine lf ?_
  obtain rfl:=Option.some.inj H
  exact rto [some 608,some 320]
def law39_puts (n:Nat) (s:TSpace) (r_:TSpace) (l:List TLine):Option Bool :=
  (spool_Put n s l).bind fun r1 =>
  (ref39_Put n r_ l).bind fun r2 =>
  (ref39_SameSpace n r1.1 r2.1).bind fun r3 =>
  gd (((!(!r3))=true→(ref20_Same n r1.2.1.Extents r2.2.1.Extents).isSome=true)∧((!(if (if (!r3)=true then true else (!((ref20_Same n r1.2.1.Extents r2.2.1.Extents).getD default)))=true then true else (r1.2.1.Lines != r2.2.1.Lines)))=true→(ref15_SameTracks n r1.2.2.1 r2.2.2.1).isSome=true)) <|
  bif (if (if (if (if (!r3)=true then true else (!((ref20_Same n r1.2.1.Extents r2.2.1.Extents).getD default)))=true then true else (r1.2.1.Lines != r2.2.1.Lines))=true then true else (!((ref15_SameTracks n r1.2.2.1 r2.2.2.1).getD default)))=true then true else (r1.2.2.2 != r2.2.2.2)) then
    some false
  else
    gd (((!(r1.2.2.2 != 0))=true→(law39_drops n r1.1 r2.1 r2.2.1.Extents).isSome=true)) <|
    some (if (r1.2.2.2 != 0)=true then true else ((law39_drops n r1.1 r2.1 r2.2.1.Extents).getD default))
def xlaw39_puts (n:Nat):Go.AE.Fn:=mkFn (A:=TSpace×TSpace×(List TLine)) (R:=Bool) 14 [(true,[.int .i64,.slice 49]),(true,[.int .i64,.slice 49]),(false,[.slice 55])] false (fun xs=>((⟨(cg (xs.getD 0 []) 0).toInt,((cg (xs.getD 0 []) 1).toSl.map d_TExtent)⟩:TSpace),(⟨(cg (xs.getD 1 []) 0).toInt,((cg (xs.getD 1 []) 1).toSl.map d_TExtent)⟩:TSpace),((cg (xs.getD 2 []) 0).toSl.map d_TLine))) (fun a=>[[.int a.1.Tracks,.slice (List.map e_TExtent a.1.Free)],[.int a.2.1.Tracks,.slice (List.map e_TExtent a.2.1.Free)],[.slice (List.map e_TLine a.2.2)]]) (fun a=>law39_puts n a.1 a.2.1 a.2.2) (fun r=>[.c .bool (.bool r)]) (fun r=>[])
theorem claw39_puts (n:Nat):Contract Tryz.prog (xlaw39_puts n):=by
  have hΓ:=g1 (cspool_Put n) (g1 (cref39_Put n) (g1 (cref39_SameSpace n) (g1 (cref20_Same n) (g1 (cref15_SameTracks n) (g1 (claw39_drops n) (@g0 (Contract Tryz.prog)))))))
  refine contract_f (Tryz.f14.body.getD .skip) h00 Tryz.func14 rfl Tryz.call14 (by decide) (by intro _ r;exact ⟨rfl,by simp⟩) ?_
  rintro ⟨s,r_,l⟩ r H
  try dsimp only at H
  unfold law39_puts at H
  simp only [Tryz.f14,Option.getD]
  refine rA ?_
  obtain ⟨r1,hr1,H⟩:=bind_some H
  have q:=And.intro @xspool_Put.eq_1 hr1
  refine rAq ?_
  obtain ⟨r2,hr2,H⟩:=bind_some H
  have q:=And.intro @xspool_Put.eq_1 (And.intro @xref39_Put.eq_1 hr2)
  refine rAq ?_
  refine Sm.seqK fun K4 hK4=>?_
  obtain ⟨r3,hr3,H⟩:=bind_some H
  obtain ⟨⟨hg10,hg11⟩,H⟩:=gd_some H
  have q:=And.intro @xspool_Put.eq_1 (And.intro @xref39_Put.eq_1 (And.intro @xref39_SameSpace.eq_1 (And.intro @xref20_Same.eq_1 (And.intro @xref15_SameTracks.eq_1 hr3))))
  refine rAq ?_
  refine cnd H (fun h6 H=>?_) (fun h6 H=>?_)
  · refine rA ?_
    refine Sm.ret ?_
    refine lf ?_
    obtain rfl:=Option.some.inj H
    exact rt []
  refine Sm.skip ?_
  refine hK4 _ ?_
  obtain ⟨hg9,H⟩:=gd_some H
  have q:=And.intro @xspool_Put.eq_1 (And.intro @xref39_Put.eq_1 (And.intro @xref39_SameSpace.eq_1 (And.intro @xref20_Same.eq_1 (And.intro @xref15_SameTracks.eq_1 @xlaw39_drops.eq_1))))
  refine rAq ?_
  refine Sm.ret ?_
  refine lf ?_
  obtain rfl:=Option.some.inj H
  exact rt []
abbrev law39_SpoolPlaces_s2:S:=stB [] []
def law39_SpoolPlaces_k2 (n:Nat):Option Bool :=
  (law39_works n).bind fun r3 =>
  some r3
abbrev law39_SpoolPlaces_s4 (used_1:List TExtent) (l:List TLine) (m:Int) (free_1:List TExtent) (v90:List TExtent) (v90_1:List TExtent) (v91:Int):S:=stB [(2,.c (.slice 49) (.slice (List.map e_TExtent used_1))),(3,.c (.slice 55) (.slice (List.map e_TLine l))),(9,.c (.int .i64) (.int m)),(90,.agg [.c (.slice 49) (.slice (List.map e_TExtent free_1)),.c (.slice 49) (.slice (List.map e_TExtent v90)),.c (.slice 49) (.slice (List.map e_TExtent v90_1))]),(91,.c (.int .i64) (.int v91))] []
def law39_SpoolPlaces_k4 (n:Nat) (used_1:List TExtent) (l:List TLine) (m:Int) (free_1:List TExtent) (v90:List TExtent) (v90_1:List TExtent) (v91:Int):Option ((Int) ⊕ (((Bool) ⊕ (Unit)))) :=
  some (.inl (IntKind.wrap .i64 (v91+1)))
abbrev law39_SpoolPlaces_t5 (used_1:List TExtent) (l:List TLine) (m:Int) (f:List TExtent) (free_1:List TExtent) (v90:List TExtent) (v90_1:List TExtent) (v91:Int) (v98:List TLine) (v98_1:List TLine) (v99:Int):S:=stB [(2,.c (.slice 49) (.slice (List.map e_TExtent used_1))),(3,.c (.slice 55) (.slice (List.map e_TLine l))),(9,.c (.int .i64) (.int m)),(16,.c (.slice 49) (.slice (List.map e_TExtent f))),(90,.agg [.c (.slice 49) (.slice (List.map e_TExtent free_1)),.c (.slice 49) (.slice (List.map e_TExtent v90)),.c (.slice 49) (.slice (List.map e_TExtent v90_1))]),(91,.c (.int .i64) (.int v91)),(98,.agg [.c (.slice 55) (.slice (List.map e_TLine v98)),.c (.slice 55) (.slice (List.map e_TLine v98_1))]),(99,.c (.int .i64) (.int v99))] []
def law39_SpoolPlaces_b5 (n:Nat) (used_1:List TExtent) (l:List TLine) (m:Int) (f:List TExtent) (free_1:List TExtent) (v90:List TExtent) (v90_1:List TExtent) (v91:Int) (v98:List TLine) (v98_1:List TLine) (v99:Int):Option ((Int) ⊕ (((Bool) ⊕ (Unit)))) :=
  bif (decide (v99 < 2)) then
    gd ((0≤v99∧v99 < (2:Int))) <|
    (law39_space n m f).bind fun r8 =>
    (spool_Check n r8.1).bind fun r9 =>
    (ref39_Valid n r8.2).bind fun r10 =>
    gd (((!((r9 == 0) != r10))=true→(law39_puts n r8.1 r8.2 (gt [v98,v98_1] (Int.toNat v99))).isSome=true)∧((!(if ((r9 == 0) != r10)=true then true else (!((law39_puts n r8.1 r8.2 (gt [v98,v98_1] (Int.toNat v99))).getD default))))=true→(law39_drops n r8.1 r8.2 used_1).isSome=true)) <|
    bif (if (if ((r9 == 0) != r10)=true then true else (!((law39_puts n r8.1 r8.2 (gt [v98,v98_1] (Int.toNat v99))).getD default)))=true then true else (!((law39_drops n r8.1 r8.2 used_1).getD default))) then
      some (.inr (.inl false))
    else
      some (.inl (IntKind.wrap .i64 (v99+1)))
  else
    some (.inr (.inr ()))
abbrev law39_SpoolPlaces_t3 (used_1:List TExtent) (l:List TLine) (m:Int) (free_1:List TExtent) (v90:List TExtent) (v90_1:List TExtent) (v91:Int):S:=stB [(2,.c (.slice 49) (.slice (List.map e_TExtent used_1))),(3,.c (.slice 55) (.slice (List.map e_TLine l))),(9,.c (.int .i64) (.int m)),(90,.agg [.c (.slice 49) (.slice (List.map e_TExtent free_1)),.c (.slice 49) (.slice (List.map e_TExtent v90)),.c (.slice 49) (.slice (List.map e_TExtent v90_1))]),(91,.c (.int .i64) (.int v91))] []
def law39_SpoolPlaces_b3 (n:Nat) (used_1:List TExtent) (l:List TLine) (m:Int) (free_1:List TExtent) (v90:List TExtent) (v90_1:List TExtent) (v91:Int):Option ((Int) ⊕ (((Bool) ⊕ (Unit)))) :=
  bif (decide (v91 < 3)) then
    gd ((0≤v91∧v91 < (3:Int))) <|
    (law39_Few n l).bind fun r6 =>
    (law39_Valid n l).bind fun r7 =>
    (loopF (fun (x:Int)=>law39_SpoolPlaces_b5 n used_1 l m (gt [free_1,v90,v90_1] (Int.toNat v91)) free_1 v90 v90_1 v91 r6 r7 x) n 0).bind fun y13 =>
    match y13 with
    | .inl v =>
      some (.inr (.inl v))
    | .inr v =>
      law39_SpoolPlaces_k4 n used_1 l m free_1 v90 v90_1 v91
  else
    some (.inr (.inr ()))
abbrev law39_SpoolPlaces_s1 (free_1:List TExtent) (used_1:List TExtent) (l:List TLine) (m:Int):S:=stB [(1,.c (.slice 49) (.slice (List.map e_TExtent free_1))),(2,.c (.slice 49) (.slice (List.map e_TExtent used_1))),(3,.c (.slice 55) (.slice (List.map e_TLine l))),(9,.c (.int .i64) (.int m))] []
def law39_SpoolPlaces_k1 (n:Nat) (free_1:List TExtent) (used_1:List TExtent) (l:List TLine) (m:Int):Option Bool :=
  (ref20_Free n used_1 m).bind fun r4 =>
  (ref20_Free n [] m).bind fun r5 =>
  (loopF (fun (x:Int)=>law39_SpoolPlaces_b3 n used_1 l m free_1 r4 r5 x) n 0).bind fun y6 =>
  match y6 with
  | .inl v =>
    some v
  | .inr v =>
    law39_SpoolPlaces_k2 n
abbrev law39_SpoolPlaces_t6 (free_2:List TExtent) (used_2:List TExtent) (l:List TLine) (m_1:Int) (n_:Int) (v32:Int):S:=stB [(1,.c (.slice 49) (.slice (List.map e_TExtent free_2))),(2,.c (.slice 49) (.slice (List.map e_TExtent used_2))),(3,.c (.slice 55) (.slice (List.map e_TLine l))),(9,.c (.int .i64) (.int m_1)),(31,.agg [.c (.int .i64) (.int n_),.c (.int .i64) (.int m_1)]),(32,.c (.int .i64) (.int v32))] []
def law39_SpoolPlaces_b6 (n:Nat) (free_2:List TExtent) (used_2:List TExtent) (l:List TLine) (m_1:Int) (n_:Int) (v32:Int):Option ((Int) ⊕ (((Bool) ⊕ (Unit)))) :=
  bif (decide (v32 < 2)) then
    gd ((0≤v32∧v32 < (2:Int))) <|
    (spool_New n (gt [n_,m_1] (Int.toNat v32))).bind fun r11 =>
    gd (((((!((if (decide ((gt [n_,m_1] (Int.toNat v32)) ≥ 0))=true then (decide ((gt [n_,m_1] (Int.toNat v32))≤512)) else false) != (r11.2 == 0))) && (!(if (decide ((gt [n_,m_1] (Int.toNat v32)) ≥ 0))=true then (decide ((gt [n_,m_1] (Int.toNat v32))≤512)) else false))) && !(r11.2 != 6))=true→(((!((if (decide ((gt [n_,m_1] (Int.toNat v32)) ≥ 0))=true then (decide ((gt [n_,m_1] (Int.toNat v32))≤512)) else false) != (r11.2 == 0))) && (!(if (decide ((gt [n_,m_1] (Int.toNat v32)) ≥ 0))=true then (decide ((gt [n_,m_1] (Int.toNat v32))≤512)) else false))) && (!(r11.2 != 6)))=true)∧((((!((if (decide ((gt [n_,m_1] (Int.toNat v32)) ≥ 0))=true then (decide ((gt [n_,m_1] (Int.toNat v32))≤512)) else false) != (r11.2 == 0))) && (!(if (decide ((gt [n_,m_1] (Int.toNat v32)) ≥ 0))=true then (decide ((gt [n_,m_1] (Int.toNat v32))≤512)) else false))) && !(if (r11.2 != 6)=true then true else (r11.1.Tracks != 0)))=true→(((!((if (decide ((gt [n_,m_1] (Int.toNat v32)) ≥ 0))=true then (decide ((gt [n_,m_1] (Int.toNat v32))≤512)) else false) != (r11.2 == 0))) && (!(if (decide ((gt [n_,m_1] (Int.toNat v32)) ≥ 0))=true then (decide ((gt [n_,m_1] (Int.toNat v32))≤512)) else false))) && (!(if (r11.2 != 6)=true then true else (r11.1.Tracks != 0))))=true)) <|
    bif (if (decide ((gt [n_,m_1] (Int.toNat v32)) ≥ 0))=true then (decide ((gt [n_,m_1] (Int.toNat v32))≤512)) else false) then
      gd (((!(if ((if (decide ((gt [n_,m_1] (Int.toNat v32)) ≥ 0))=true then (decide ((gt [n_,m_1] (Int.toNat v32))≤512)) else false) != (r11.2 == 0))=true then true else (if (!(if (decide ((gt [n_,m_1] (Int.toNat v32)) ≥ 0))=true then (decide ((gt [n_,m_1] (Int.toNat v32))≤512)) else false))=true then (if (if (r11.2 != 6)=true then true else (r11.1.Tracks != 0))=true then true else (((r11.1.Free.length:Nat):Int) != 0)) else false))) && (if (decide ((gt [n_,m_1] (Int.toNat v32)) ≥ 0))=true then (decide ((gt [n_,m_1] (Int.toNat v32))≤512)) else false))=true) <|
      (ref39_New n (gt [n_,m_1] (Int.toNat v32))).bind fun r12 =>
      gd (((!(if ((if (decide ((gt [n_,m_1] (Int.toNat v32)) ≥ 0))=true then (decide ((gt [n_,m_1] (Int.toNat v32))≤512)) else false) != (r11.2 == 0))=true then true else (if (!(if (decide ((gt [n_,m_1] (Int.toNat v32)) ≥ 0))=true then (decide ((gt [n_,m_1] (Int.toNat v32))≤512)) else false))=true then (if (if (r11.2 != 6)=true then true else (r11.1.Tracks != 0))=true then true else (((r11.1.Free.length:Nat):Int) != 0)) else false))) && (if (decide ((gt [n_,m_1] (Int.toNat v32)) ≥ 0))=true then (decide ((gt [n_,m_1] (Int.toNat v32))≤512)) else false))=true) <|
      (ref39_SameSpace n r11.1 r12).bind fun r13 =>
      bif (if (if ((if (decide ((gt [n_,m_1] (Int.toNat v32)) ≥ 0))=true then (decide ((gt [n_,m_1] (Int.toNat v32))≤512)) else false) != (r11.2 == 0))=true then true else (if (!(if (decide ((gt [n_,m_1] (Int.toNat v32)) ≥ 0))=true then (decide ((gt [n_,m_1] (Int.toNat v32))≤512)) else false))=true then (if (if (r11.2 != 6)=true then true else (r11.1.Tracks != 0))=true then true else (((r11.1.Free.length:Nat):Int) != 0)) else false))=true then true else (if (if (decide ((gt [n_,m_1] (Int.toNat v32)) ≥ 0))=true then (decide ((gt [n_,m_1] (Int.toNat v32))≤512)) else false)=true then (!r13) else false)) then
        some (.inr (.inl false))
      else
        some (.inl (IntKind.wrap .i64 (v32+1)))
    else
      bif (if ((if (decide ((gt [n_,m_1] (Int.toNat v32)) ≥ 0))=true then (decide ((gt [n_,m_1] (Int.toNat v32))≤512)) else false) != (r11.2 == 0))=true then true else (if (!(if (decide ((gt [n_,m_1] (Int.toNat v32)) ≥ 0))=true then (decide ((gt [n_,m_1] (Int.toNat v32))≤512)) else false))=true then (if (if (r11.2 != 6)=true then true else (r11.1.Tracks != 0))=true then true else (((r11.1.Free.length:Nat):Int) != 0)) else false)) then
        some (.inr (.inl false))
      else
        some (.inl (IntKind.wrap .i64 (v32+1)))
  else
    some (.inr (.inr ()))
def law39_SpoolPlaces (n:Nat) (n_:Int) (free:List TExtent) (used:List TExtent) (l:List TLine):Option Bool :=
  (law39_Free n free).bind fun r1 =>
  (law39_Free n used).bind fun r2 =>
  (loopF (fun (x:Int)=>law39_SpoolPlaces_b6 n r1 r2 l (IntKind.wrap .i64 ((Int.tmod (IntKind.wrap .u64 (n_)) 513))) n_ x) n 0).bind fun y27 =>
  match y27 with
  | .inl v =>
    some v
  | .inr v =>
    law39_SpoolPlaces_k1 n r1 r2 l (IntKind.wrap .i64 ((Int.tmod (IntKind.wrap .u64 (n_)) 513)))
def xlaw39_SpoolPlaces (n:Nat):Go.AE.Fn:=mkFn (A:=Int×(List TExtent)×(List TExtent)×(List TLine)) (R:=Bool) 3 [(false,[.int .i64]),(false,[.slice 49]),(false,[.slice 49]),(false,[.slice 55])] false (fun xs=>((cg (xs.getD 0 []) 0).toInt,((cg (xs.getD 1 []) 0).toSl.map d_TExtent),((cg (xs.getD 2 []) 0).toSl.map d_TExtent),((cg (xs.getD 3 []) 0).toSl.map d_TLine))) (fun a=>[[.int a.1],[.slice (List.map e_TExtent a.2.1)],[.slice (List.map e_TExtent a.2.2.1)],[.slice (List.map e_TLine a.2.2.2)]]) (fun a=>law39_SpoolPlaces n a.1 a.2.1 a.2.2.1 a.2.2.2) (fun r=>[.c .bool (.bool r)]) (fun r=>[])
theorem claw39_SpoolPlaces (n:Nat):Contract Tryz.prog (xlaw39_SpoolPlaces n):=by
  have hΓ:=g1 (claw39_Free n) (g1 (cspool_New n) (g1 (cref39_New n) (g1 (cref39_SameSpace n) (g1 (cref20_Free n) (g1 (claw39_Few n) (g1 (claw39_Valid n) (g1 (claw39_space n) (g1 (cspool_Check n) (g1 (cref39_Valid n) (g1 (claw39_puts n) (g1 (claw39_drops n) (g1 (claw39_works n) (@g0 (Contract Tryz.prog))))))))))))))
  refine contract_f (Tryz.f3.body.getD .skip) h00 Tryz.func3 rfl Tryz.call3 (by decide) (by intro _ r;exact ⟨rfl,by simp⟩) ?_
  rintro ⟨n_,free,used,l⟩ r H
  try dsimp only at H
  unfold law39_SpoolPlaces at H
  simp only [Tryz.f3,Option.getD]
  refine rA ?_
  obtain ⟨r1,hr1,H⟩:=bind_some H
  obtain ⟨r2,hr2,H⟩:=bind_some H
  have q:=And.intro @xlaw39_Free.eq_1 (And.intro hr1 hr2)
  refine rAq ?_
  refine rA ?_
  refine Sm.cut (fun (x:(List TExtent)×(List TExtent)×Int)=>law39_SpoolPlaces_s1 x.1 x.2.1 l x.2.2) (fun x=>law39_SpoolPlaces_k1 n x.1 x.2.1 l x.2.2=some r) ?_ ?_
  · refine sX fun K26 hK26=>?_
    iterate 2 refine oX ?_
    refine opsE stepAr_ok fun K hK=>?_;simp only [z,seval,stepAr,opAr,buildArr,allC,elC_i2,elC_s2,elC_s3];(repeat (first | refine gcI ?_ | refine fun (_:_≤_)=>?_));refine hK _ ?_;clear hK K
    refine oX ?_
    refine hK26 _ ?_
    refine Sm.block ?_
    obtain ⟨y27,hy27,Ho27⟩:=bind_some H
    refine Sm.loopB _ (fun x=>law39_SpoolPlaces_t6 r1 r2 l (IntKind.wrap .i64 ((Int.tmod (IntKind.wrap .u64 (n_)) 513))) n_ x) hy27 (wb []) ?_
    rintro v32 z27 H
    try dsimp only at H
    unfold law39_SpoolPlaces_b6 at H
    refine Sm.st (law39_SpoolPlaces_t6.eq_1 ..) ?_
    refine rA ?_
    refine Sm.seqK fun K29 hK29=>?_
    refine cnd H (fun h30 H=>?_) (fun h30 H=>?_)
    · refine Sm.skip ?_
      refine hK29 _ ?_
      refine Sm.seqK fun K31 hK31=>?_
      refine Sm.block ?_
      refine sX fun K32 hK32=>?_
      obtain ⟨hg33,H⟩:=gd_some H
      refine opsE stepAr_ok fun K hK=>?_;simp only [z,seval,stepAr,opAr,buildArr,allC,elC_i2,elC_s2,elC_s3];(repeat (first | refine gcI ?_ | refine fun (_:_≤_)=>?_));refine hK _ ?_;clear hK K
      refine oX ?_
      refine hK32 _ ?_
      obtain ⟨r11,hr11,H⟩:=bind_some H
      have q:=And.intro @xlaw39_Free.eq_1 (And.intro @xspool_New.eq_1 hr11)
      refine rAq ?_
      refine rA ?_
      obtain ⟨⟨hg37,hg38⟩,H⟩:=gd_some H
      refine bif_cases H (fun hs39 H=>?_) (fun hs39 H=>?_)
      · try simp only [hs39,Bool.not_false,Bool.not_true,Bool.false_eq_true,true_implies,false_implies,forall_const] at hg37
        try simp only [hs39,Bool.not_false,Bool.not_true,Bool.false_eq_true,true_implies,false_implies,forall_const] at hg38
        obtain ⟨hg40,H⟩:=gd_some H
        obtain ⟨r12,hr12,H⟩:=bind_some H
        obtain ⟨hg41,H⟩:=gd_some H
        obtain ⟨r13,hr13,H⟩:=bind_some H
        refine sQ [0,1,2,3,4,5,6,7,8,9,10,11,12,13,14,15,16,17,18,19,20,21,22,23,24,25,26,27,28,29,30,31,32,33,34,35,36] [(none,[],[]),(none,[],[]),(none,[],[]),(none,[],[]),(none,[],[]),(none,[],[]),(none,[],[]),(none,[],[]),(none,[],[]),(none,[],[]),(none,[],[]),(none,[192],[]),(none,[192],[]),(none,[],[]),(none,[],[]),(none,[],[]),(none,[192],[]),(none,[192],[]),(none,[592],[]),(none,[],[]),(none,[],[]),(none,[],[]),(none,[],[]),(none,[],[]),(none,[],[]),(none,[],[]),(none,[192],[]),(none,[192],[]),(none,[192],[]),(none,[192],[]),(none,[592],[]),(none,[],[]),(some true,[],[1263,1262,1261,1260,1259,1258,1257,1256,1255,1254,1253,1252,1251,1250,1249,1248]),(some true,[592,1248],[1279,1278,1277,1276,1275,1274,1273,1272,1271,1270,1269,1268,1267,1266,1265,1264,592,1248]),(some true,[],[]),(none,[],[]),(none,[],[])] fun K36 hK36=>?_
        have q:=And.intro @xlaw39_Free.eq_1 (And.intro @xspool_New.eq_1 (And.intro @xref39_New.eq_1 (And.intro @xref39_SameSpace.eq_1 (And.intro hs39 (And.intro hr12 hr13)))))
        try simp only [z,seval,q] at hg40
        try simp only [z,seval,q] at hg41
        iterate 37 refine oQq ?_
        refine opsQ0 ?_
        refine hK36 _ ?_
        refine cnd H (fun h42 H=>?_) (fun h42 H=>?_)
        · refine rA ?_
          refine Sm.ret ?_
          refine lf ?_
          refine lx H fun hyy=>?_
          subst hyy
          have H:=Ho27
          try dsimp only at H
          refine lf ?_
          obtain rfl:=Option.some.inj H
          exact rt []
        refine Sm.skip ?_
        refine hK31 _ ?_
        refine eA ?_
        refine lf ?_
        exact nx H (wb [])
      try simp only [hs39,Bool.not_false,Bool.not_true,Bool.false_eq_true,true_implies,false_implies,forall_const] at hg37
      try simp only [hs39,Bool.not_false,Bool.not_true,Bool.false_eq_true,true_implies,false_implies,forall_const] at hg38
      refine bif_cases H (fun hs44 H=>?_) (fun hs44 H=>?_)
      · try simp only [z,seval,hs39] at hs44
        refine sQ [0,1,2,3,4,5,6,7,8,9,10,11,12,13,14,15,16,17,18,19,20,21,22,23,24,25,26,27,28,29,30,31,32,33,34,35,36] [(none,[],[]),(none,[],[]),(none,[],[]),(none,[],[]),(none,[],[]),(none,[],[]),(none,[],[]),(none,[],[]),(none,[],[]),(none,[],[]),(none,[],[]),(none,[192],[]),(none,[192],[]),(none,[],[]),(none,[],[]),(none,[],[]),(none,[192],[]),(none,[192],[]),(none,[592],[]),(none,[],[]),(none,[],[]),(none,[],[]),(none,[],[]),(none,[],[]),(none,[],[]),(none,[],[]),(none,[192],[]),(none,[192],[]),(none,[192],[]),(none,[192],[]),(none,[592],[]),(none,[],[]),(some false,[],[]),(some false,[],[]),(some false,[],[]),(some false,[],[]),(some true,[],[])] fun K36 hK36=>?_
        have q:=And.intro @xlaw39_Free.eq_1 (And.intro @xspool_New.eq_1 (And.intro @xref39_New.eq_1 (And.intro @xref39_SameSpace.eq_1 (And.intro hs39 hs44))))
        iterate 37 refine oQq ?_
        refine opsQ0 ?_
        refine hK36 _ ?_
        refine cndT ?_
        refine rA ?_
        refine Sm.ret ?_
        refine lf ?_
        refine lx H fun hyy=>?_
        subst hyy
        have H:=Ho27
        try dsimp only at H
        refine lf ?_
        obtain rfl:=Option.some.inj H
        exact rt []
      try simp only [z,seval,hs39] at hs44
      refine sQ [0,1,2,3,4,5,6,7,8,9,10,11,12,13,14,15,16,17,18,19,20,21,22,23,24,25,26,27,28,29,30,31,32,33,34,35,36] [(none,[],[]),(none,[],[]),(none,[],[]),(none,[],[]),(none,[],[]),(none,[],[]),(none,[],[]),(none,[],[]),(none,[],[]),(none,[],[]),(none,[],[]),(none,[192],[]),(none,[192],[]),(none,[],[]),(none,[],[]),(none,[],[]),(none,[192],[]),(none,[192],[]),(none,[592],[]),(none,[],[]),(none,[],[]),(none,[],[]),(none,[],[]),(none,[],[]),(none,[],[]),(none,[],[]),(none,[192],[]),(none,[192],[]),(none,[192],[]),(none,[192],[]),(none,[592],[]),(none,[],[]),(some false,[],[]),(some false,[],[]),(some false,[],[]),(some false,[],[]),(some false,[],[])] fun K36 hK36=>?_
      have q:=And.intro @xlaw39_Free.eq_1 (And.intro @xspool_New.eq_1 (And.intro @xref39_New.eq_1 (And.intro @xref39_SameSpace.eq_1 (And.intro hs39 hs44))))
      iterate 37 refine oQq ?_
      refine opsQ0 ?_
      refine hK36 _ ?_
      refine cndF ?_
      refine Sm.skip ?_
      refine hK31 _ ?_
      refine eA ?_
      refine lf ?_
      exact nx H (wb [])
    refine Sm.exit ?_
    refine lf ?_
    refine lx H fun hyy=>?_
    subst hyy
    have H:=Ho27
    try dsimp only at H
    refine lf ?_
    exact ⟨(r1,r2,(IntKind.wrap .i64 ((Int.tmod (IntKind.wrap .u64 (n_)) 513)))),H,wb []⟩
  rintro ⟨free_1,used_1,m⟩ H
  try dsimp only at H
  unfold law39_SpoolPlaces_k1 at H
  refine Sm.st (law39_SpoolPlaces_s1.eq_1 ..) ?_
  refine Sm.cut (fun (x:Unit)=>law39_SpoolPlaces_s2) (fun x=>law39_SpoolPlaces_k2 n=some r) ?_ ?_
  · refine sX fun K5 hK5=>?_
    obtain ⟨r4,hr4,H⟩:=bind_some H
    obtain ⟨r5,hr5,H⟩:=bind_some H
    have q:=And.intro @xlaw39_Free.eq_1 (And.intro @xspool_New.eq_1 (And.intro @xref39_New.eq_1 (And.intro @xref39_SameSpace.eq_1 (And.intro @xref20_Free.eq_1 (And.intro hr4 hr5)))))
    iterate 6 refine oXq ?_
    refine opsE stepAr_ok fun K hK=>?_;simp only [z,seval,xlaw39_Free,xspool_New,xref39_New,xref39_SameSpace,xref20_Free,hr4,hr5,stepAr,opAr,buildArr,allC,elC_i2,elC_s2,elC_s3];(repeat (first | refine gcI ?_ | refine fun (_:_≤_)=>?_));refine hK _ ?_;clear hK K
    refine oXq ?_
    refine hK5 _ ?_
    refine Sm.block ?_
    obtain ⟨y6,hy6,Ho6⟩:=bind_some H
    refine Sm.loopB _ (fun x=>law39_SpoolPlaces_t3 used_1 l m free_1 r4 r5 x) hy6 (wbf [1392,1424] []) ?_
    rintro v91 z6 H
    try dsimp only at H
    unfold law39_SpoolPlaces_b3 at H
    refine Sm.st (law39_SpoolPlaces_t3.eq_1 ..) ?_
    refine rA ?_
    refine Sm.seqK fun K8 hK8=>?_
    refine cnd H (fun h9 H=>?_) (fun h9 H=>?_)
    · refine Sm.skip ?_
      refine hK8 _ ?_
      refine Sm.cut (fun (x:Unit)=>law39_SpoolPlaces_s4 used_1 l m free_1 r4 r5 v91) (fun x=>law39_SpoolPlaces_k4 n used_1 l m free_1 r4 r5 v91=some z6) ?_ ?_
      · refine Sm.block ?_
        refine sX fun K10 hK10=>?_
        obtain ⟨hg11,H⟩:=gd_some H
        refine opsE stepAr_ok fun K hK=>?_;simp only [z,seval,stepAr,opAr,buildArr,allC,elC_i2,elC_s2,elC_s3];(repeat (first | refine gcI ?_ | refine fun (_:_≤_)=>?_));refine hK _ ?_;clear hK K
        refine oX ?_
        refine hK10 _ ?_
        refine sX fun K12 hK12=>?_
        obtain ⟨r6,hr6,H⟩:=bind_some H
        obtain ⟨r7,hr7,H⟩:=bind_some H
        have q:=And.intro @xlaw39_Free.eq_1 (And.intro @xspool_New.eq_1 (And.intro @xref39_New.eq_1 (And.intro @xref39_SameSpace.eq_1 (And.intro @xref20_Free.eq_1 (And.intro @xlaw39_Few.eq_1 (And.intro @xlaw39_Valid.eq_1 (And.intro hr6 hr7)))))))
        iterate 4 refine oXq ?_
        refine opsE stepAr_ok fun K hK=>?_;simp only [z,seval,xlaw39_Free,xspool_New,xref39_New,xref39_SameSpace,xref20_Free,xlaw39_Few,xlaw39_Valid,hr6,hr7,stepAr,opAr,buildArr,allC,elC_i2,elC_s2,elC_s3];(repeat (first | refine gcI ?_ | refine fun (_:_≤_)=>?_));refine hK _ ?_;clear hK K
        refine oXq ?_
        refine hK12 _ ?_
        refine Sm.block ?_
        obtain ⟨y13,hy13,Ho13⟩:=bind_some H
        refine Sm.loopB _ (fun x=>law39_SpoolPlaces_t5 used_1 l m (gt [free_1,r4,r5] (Int.toNat v91)) free_1 r4 r5 v91 r6 r7 x) hy13 (wbf [1520,1552] []) ?_
        rintro v99 z13 H
        try dsimp only at H
        unfold law39_SpoolPlaces_b5 at H
        refine Sm.st (law39_SpoolPlaces_t5.eq_1 ..) ?_
        refine rA ?_
        refine Sm.seqK fun K15 hK15=>?_
        refine cnd H (fun h16 H=>?_) (fun h16 H=>?_)
        · refine Sm.skip ?_
          refine hK15 _ ?_
          refine Sm.seqK fun K17 hK17=>?_
          refine Sm.block ?_
          refine sX fun K18 hK18=>?_
          obtain ⟨hg19,H⟩:=gd_some H
          refine opsE stepAr_ok fun K hK=>?_;simp only [z,seval,stepAr,opAr,buildArr,allC,elC_i2,elC_s2,elC_s3];(repeat (first | refine gcI ?_ | refine fun (_:_≤_)=>?_));refine hK _ ?_;clear hK K
          refine oX ?_
          refine hK18 _ ?_
          obtain ⟨r8,hr8,H⟩:=bind_some H
          have q:=And.intro @xlaw39_Free.eq_1 (And.intro @xspool_New.eq_1 (And.intro @xref39_New.eq_1 (And.intro @xref39_SameSpace.eq_1 (And.intro @xref20_Free.eq_1 (And.intro @xlaw39_Few.eq_1 (And.intro @xlaw39_Valid.eq_1 (And.intro @xlaw39_space.eq_1 hr8)))))))
          refine rAq ?_
          obtain ⟨r9,hr9,H⟩:=bind_some H
          obtain ⟨r10,hr10,H⟩:=bind_some H
          obtain ⟨⟨hg24,hg25⟩,H⟩:=gd_some H
          have q:=And.intro @xlaw39_Free.eq_1 (And.intro @xspool_New.eq_1 (And.intro @xref39_New.eq_1 (And.intro @xref39_SameSpace.eq_1 (And.intro @xref20_Free.eq_1 (And.intro @xlaw39_Few.eq_1 (And.intro @xlaw39_Valid.eq_1 (And.intro @xlaw39_space.eq_1 (And.intro @xspool_Check.eq_1 (And.intro @xref39_Valid.eq_1 (And.intro @xlaw39_puts.eq_1 (And.intro @xlaw39_drops.eq_1 (And.intro hr9 hr10))))))))))))
          refine rDq ?_
          refine cnd H (fun h22 H=>?_) (fun h22 H=>?_)
          · refine rA ?_
            refine Sm.ret ?_
            refine lf ?_
            refine lx H fun hyy=>?_
            subst hyy
            have H:=Ho13
            try dsimp only at H
            refine lf ?_
            refine lx H fun hyy=>?_
            subst hyy
            have H:=Ho6
            try dsimp only at H
            refine lf ?_
            obtain rfl:=Option.some.inj H
            exact rt []
          refine Sm.skip ?_
          refine hK17 _ ?_
          refine eA ?_
          refine lf ?_
          exact nx H (wb [])
        refine Sm.exit ?_
        refine lf ?_
        refine lx H fun hyy=>?_
        subst hyy
        have H:=Ho13
        try dsimp only at H
        refine lf ?_
        exact ⟨(),H,wb []⟩
      rintro ⟨⟩ H
      try dsimp only at H
      unfold law39_SpoolPlaces_k4 at H
      refine Sm.st (law39_SpoolPlaces_s4.eq_1 ..) ?_
      refine eA ?_
      refine lf ?_
      exact nx H (wb [])
    refine Sm.exit ?_
    refine lf ?_
    refine lx H fun hyy=>?_
    subst hyy
    have H:=Ho6
    try dsimp only at H
    refine lf ?_
    exact ⟨(),H,wb []⟩
  rintro ⟨⟩ H
  try dsimp only at H
  unfold law39_SpoolPlaces_k2 at H
  refine Sm.st (law39_SpoolPlaces_s2.eq_1 ..) ?_
  obtain ⟨r3,hr3,H⟩:=bind_some H
  have q:=And.intro @xlaw39_Free.eq_1 (And.intro @xspool_New.eq_1 (And.intro @xref39_New.eq_1 (And.intro @xref39_SameSpace.eq_1 (And.intro @xref20_Free.eq_1 (And.intro @xlaw39_Few.eq_1 (And.intro @xlaw39_Valid.eq_1 (And.intro @xlaw39_space.eq_1 (And.intro @xspool_Check.eq_1 (And.intro @xref39_Valid.eq_1 (And.intro @xlaw39_puts.eq_1 (And.intro @xlaw39_drops.eq_1 (And.intro @xlaw39_works.eq_1 hr3))))))))))))
  refine rAq ?_
  refine Sm.ret ?_
  refine lf ?_
  obtain rfl:=Option.some.inj H
  exact rt []
end Go.Proofs.YtkebegfopnlkhaaGreat
