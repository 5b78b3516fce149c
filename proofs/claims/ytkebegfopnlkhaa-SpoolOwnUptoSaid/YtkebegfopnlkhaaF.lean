/- Text. -/
import Derived.Test.YtkebegfopnlkhaaF1
import Derived.Test.YtkebegfopnlkhaaAE57
set_option maxHeartbeats 8000000
set_option linter.unusedVariables false
set_option linter.unusedSimpArgs false
set_option maxRecDepth 100000
namespace Go.Proofs.Ytkebegfopnlkhaa
open Go.AE
abbrev law39_SpoolOwn_s2 (l:List TLine) (v:List TLine) (u:List (List TRec)):S:=stB [(0,.c (.slice 48) (.slice (List.map e_TLine l))),(5,.own 9007 [.int .i64,.str] 0 v.length),(12,.own 9008 [.slice 59] 0 u.length)] [(9007,.frz 48 (List.map e_TLine v)),(9008,.row 57 (List.map e_LTRec u))]
def law39_SpoolOwn_k2 (n:Nat) (l:List TLine) (v:List TLine) (u:List (List TRec)):Option Bool :=
  (spool_Lines n u ((v.length:Nat):Int)).bind fun r8 =>
  bif (r8.2 == 0) then
    gd ((r8.2 == 0)=true) <|
    (law39_Valid n l).bind fun r9 =>
    gd ((r8.2 == 0)=true) <|
    (law39_equal n r8.1 r9).bind fun r10 =>
    bif r10 then
      gd (r10=true) <|
      (law39_Valid n l).bind fun r11 =>
      gd (r10=true) <|
      (law39_equal n v r11).bind fun r12 =>
      some r12
    else
      some false
  else
    some false
abbrev law39_SpoolOwn_s4 (l:List TLine) (v:List TLine) (t:List (List TRec)) (u:List (List TRec)) (v86:Int) (v87:Int):S:=stB [(0,.c (.slice 48) (.slice (List.map e_TLine l))),(5,.own 9015 [.int .i64,.str] 0 v.length),(10,.rg 9016 (.slice 57) (.slice (List.map e_LTRec t))),(12,.own 9017 [.slice 59] 0 u.length),(86,.c (.int .i64) (.int v86)),(87,.c (.int .i64) (.int v87))] [(9015,.frz 48 (List.map e_TLine v)),(9016,.wob),(9017,.row 57 (List.map e_LTRec u))]
def law39_SpoolOwn_k4 (n:Nat) (l:List TLine) (v:List TLine) (t:List (List TRec)) (u:List (List TRec)) (v86:Int) (v87:Int):Option ((Int) ⊕ ((Unit))) :=
  some (.inl (IntKind.wrap .i64 (v87+1)))
abbrev law39_SpoolOwn_s6 (l:List TLine) (v:List TLine) (t:List (List TRec)) (u:List (List TRec)) (v87:Int) (v86:Int) (v94:Int) (v95:Int):S:=stB [(0,.c (.slice 48) (.slice (List.map e_TLine l))),(5,.own 9024 [.int .i64,.str] 0 v.length),(10,.rg 9025 (.slice 57) (.slice (List.map e_LTRec t))),(12,.own 9026 [.slice 59] 0 u.length),(17,.c (.int .i64) (.int v87)),(86,.c (.int .i64) (.int v86)),(87,.c (.int .i64) (.int v87)),(94,.c (.int .i64) (.int v94)),(95,.c (.int .i64) (.int v95))] [(9024,.frz 48 (List.map e_TLine v)),(9025,.wob),(9026,.row 57 (List.map e_LTRec u))]
def law39_SpoolOwn_k6 (n:Nat) (l:List TLine) (v:List TLine) (t:List (List TRec)) (u:List (List TRec)) (v87:Int) (v86:Int) (v94:Int) (v95:Int):Option ((Int) ⊕ ((Unit))) :=
  some (.inl (IntKind.wrap .i64 (v95+1)))
abbrev law39_SpoolOwn_t7 (l:List TLine) (v:List TLine) (t:List (List TRec)) (u:List (List TRec)) (v87:Int) (v95:Int) (v86:Int) (v94:Int) (v106:Int) (v107:Int):S:=stB [(0,.c (.slice 48) (.slice (List.map e_TLine l))),(5,.own 9030 [.int .i64,.str] 0 v.length),(10,.rg 9031 (.slice 57) (.slice (List.map e_LTRec t))),(12,.own 9032 [.slice 59] 0 u.length),(17,.c (.int .i64) (.int v87)),(18,.c (.int .i64) (.int v95)),(86,.c (.int .i64) (.int v86)),(87,.c (.int .i64) (.int v87)),(94,.c (.int .i64) (.int v94)),(95,.c (.int .i64) (.int v95)),(106,.c (.int .i64) (.int v106)),(107,.c (.int .i64) (.int v107))] [(9030,.frz 48 (List.map e_TLine v)),(9031,.wob),(9032,.row 57 (List.map e_LTRec u))]
def law39_SpoolOwn_b7 (n:Nat) (l:List TLine) (v:List TLine) (t:List (List TRec)) (u:List (List TRec)) (v87:Int) (v95:Int) (v86:Int) (v94:Int) (v106:Int) (v107:Int):Option ((Int) ⊕ ((Unit))) :=
  bif (decide (v107 < v106)) then
    gd ((0≤v87∧v87 < (t.length:Int))∧(0≤v95∧v95 < ((gt t (Int.toNat v87)).length:Int))∧(0≤v107∧v107 < (((gt (gt t (Int.toNat v87)) (Int.toNat v95)).Data).length:Int))∧(0≤v107∧v107 < (((gt (gt t (Int.toNat v87)) (Int.toNat v95)).Data).length:Int))) <|
    some (.inl (IntKind.wrap .i64 (v107+1)))
  else
    some (.inr ())
abbrev law39_SpoolOwn_t5 (l:List TLine) (v:List TLine) (t:List (List TRec)) (u:List (List TRec)) (v87:Int) (v86:Int) (v94:Int) (v95:Int):S:=stB [(0,.c (.slice 48) (.slice (List.map e_TLine l))),(5,.own 9021 [.int .i64,.str] 0 v.length),(10,.rg 9022 (.slice 57) (.slice (List.map e_LTRec t))),(12,.own 9023 [.slice 59] 0 u.length),(17,.c (.int .i64) (.int v87)),(86,.c (.int .i64) (.int v86)),(87,.c (.int .i64) (.int v87)),(94,.c (.int .i64) (.int v94)),(95,.c (.int .i64) (.int v95))] [(9021,.frz 48 (List.map e_TLine v)),(9022,.wob),(9023,.row 57 (List.map e_LTRec u))]
def law39_SpoolOwn_b5 (n:Nat) (l:List TLine) (v:List TLine) (t:List (List TRec)) (u:List (List TRec)) (v87:Int) (v86:Int) (v94:Int) (v95:Int):Option ((Int) ⊕ ((Unit))) :=
  bif (decide (v95 < v94)) then
    gd ((0≤v87∧v87 < (t.length:Int))∧(0≤v95∧v95 < ((gt t (Int.toNat v87)).length:Int))) <|
    (loopF (fun (x:Int)=>law39_SpoolOwn_b7 n l v t u v87 v95 v86 v94 (((gt (gt t (Int.toNat v87)) (Int.toNat v95)).Data).length:Int) x) n 0).bind fun y50 =>
    law39_SpoolOwn_k6 n l v t u v87 v86 v94 v95
  else
    some (.inr ())
abbrev law39_SpoolOwn_t3 (l:List TLine) (v:List TLine) (t:List (List TRec)) (u:List (List TRec)) (v86:Int) (v87:Int):S:=stB [(0,.c (.slice 48) (.slice (List.map e_TLine l))),(5,.own 9012 [.int .i64,.str] 0 v.length),(10,.rg 9013 (.slice 57) (.slice (List.map e_LTRec t))),(12,.own 9014 [.slice 59] 0 u.length),(86,.c (.int .i64) (.int v86)),(87,.c (.int .i64) (.int v87))] [(9012,.frz 48 (List.map e_TLine v)),(9013,.wob),(9014,.row 57 (List.map e_LTRec u))]
def law39_SpoolOwn_b3 (n:Nat) (l:List TLine) (v:List TLine) (t:List (List TRec)) (u:List (List TRec)) (v86:Int) (v87:Int):Option ((Int) ⊕ ((Unit))) :=
  bif (decide (v87 < v86)) then
    gd ((0≤v87∧v87 < (t.length:Int))) <|
    (loopF (fun (x:Int)=>law39_SpoolOwn_b5 n l v t u v87 v86 ((gt t (Int.toNat v87)).length:Int) x) n 0).bind fun y42 =>
    law39_SpoolOwn_k4 n l v t u v86 v87
  else
    some (.inr ())
abbrev law39_SpoolOwn_s1 (l:List TLine) (v:List TLine) (s:Int) (s_1:List TExtent) (a:Int) (a_1:List TExtent) (file:List TExtent) (file_1:Int) (t:List (List TRec)) (u:List (List TRec)):S:=stB [(0,.c (.slice 48) (.slice (List.map e_TLine l))),(5,.own 9000 [.int .i64,.str] 0 v.length),(6,.box 9001 0),(8,.box 9003 0),(9,.box 9005 0),(10,.rg 9004 (.slice 57) (.slice (List.map e_LTRec t))),(12,.own 9006 [.slice 59] 0 u.length)] [(9000,.frz 48 (List.map e_TLine v)),(9001,.box [.c (.int .i64) (.int s),.own 9002 [.int .i64,.int .i64] 0 s_1.length]),(9002,.frz 52 (List.map e_TExtent s_1)),(9003,.box [.c (.int .i64) (.int a),.rg 9004 (.slice 52) (.slice (List.map e_TExtent a_1))]),(9004,.reg),(9005,.box [.rg 9004 (.slice 52) (.slice (List.map e_TExtent file)),.c (.int .i64) (.int file_1)]),(9006,.row 57 (List.map e_LTRec u))]
def law39_SpoolOwn_k1 (n:Nat) (l:List TLine) (v:List TLine) (s:Int) (s_1:List TExtent) (a:Int) (a_1:List TExtent) (file:List TExtent) (file_1:Int) (t:List (List TRec)) (u:List (List TRec)):Option Bool :=
  gd (((decide (((s_1.length:Nat):Int) > 0))=true→0 < (s_1.length:Int))∧((decide (((s_1.length:Nat):Int) > 0))=true→0 < s_1.length)) <|
  bif (if (decide (((s_1.length:Nat):Int) > 0))=true then (((gt s_1 0).At) != 0) else false) then
    some false
  else
    gd ((!(if (decide (((s_1.length:Nat):Int) > 0))=true then (((gt s_1 0).At) != 0) else false))=true∧(!(if (decide (((s_1.length:Nat):Int) > 0))=true then (((gt s_1 0).At) != 0) else false))=true) <|
    (law39_whole n (⟨a,a_1⟩:TSpace) [(⟨file,file_1⟩:TFile)]).bind fun r7 =>
    bif (!r7) then
      some false
    else
      (loopF (fun (x:Int)=>law39_SpoolOwn_b3 n l v t u (t.length:Int) x) n 0).bind fun y35 =>
      law39_SpoolOwn_k2 n l v u
abbrev law39_SpoolOwn_t8 (l:List TLine) (v_1:List TLine) (s_2:Int) (s_3:List TExtent) (a_2:Int) (a_3:List TExtent) (file_2:List TExtent) (file_3:Int) (t_1:List (List TRec)) (u_1:List (List TRec)) (back:Int) (v56:Int) (back_1:List TExtent) (v57:Int):S:=stB [(0,.c (.slice 48) (.slice (List.map e_TLine l))),(5,.own 9042 [.int .i64,.str] 0 v_1.length),(6,.box 9043 0),(8,.box 9045 0),(9,.box 9047 0),(10,.rg 9046 (.slice 57) (.slice (List.map e_LTRec t_1))),(12,.own 9048 [.slice 59] 0 u_1.length),(14,.box 9049 0),(56,.c (.int .i64) (.int v56)),(57,.c (.int .i64) (.int v57))] [(9042,.frz 48 (List.map e_TLine v_1)),(9043,.box [.c (.int .i64) (.int s_2),.own 9044 [.int .i64,.int .i64] 0 s_3.length]),(9044,.frz 52 (List.map e_TExtent s_3)),(9045,.box [.c (.int .i64) (.int a_2),.rg 9046 (.slice 52) (.slice (List.map e_TExtent a_3))]),(9046,.reg),(9047,.box [.rg 9046 (.slice 52) (.slice (List.map e_TExtent file_2)),.c (.int .i64) (.int file_3)]),(9048,.row 57 (List.map e_LTRec u_1)),(9049,.box [.c (.int .i64) (.int back),.own 9050 [.int .i64,.int .i64] 0 back_1.length]),(9050,.row 52 (List.map e_TExtent back_1))]
def law39_SpoolOwn_b8 (n:Nat) (l:List TLine) (v_1:List TLine) (s_2:Int) (s_3:List TExtent) (a_2:Int) (a_3:List TExtent) (file_2:List TExtent) (file_3:Int) (t_1:List (List TRec)) (u_1:List (List TRec)) (back:Int) (v56:Int) (back_1:List TExtent) (v57:Int):Option (((List TExtent)×Int) ⊕ ((Unit))) :=
  bif (decide (v57 < v56)) then
    gd ((0≤v57∧v57 < (back_1.length:Int))∧(Int.toNat v57) < back_1.length) <|
    some (.inl ((List.set back_1 (Int.toNat v57) (⟨99,(gt back_1 (Int.toNat v57)).Len⟩:TExtent)),(IntKind.wrap .i64 (v57+1))))
  else
    some (.inr ())
def law39_SpoolOwn (n:Nat) (l:List TLine) (n_:Int):Option Bool :=
  (law39_works n).bind fun r1 =>
  bif (!r1) then
    some false
  else
    (law39_Valid n l).bind fun r2 =>
    (spool_New n (Int.tmod (IntKind.wrap .i64 (n_)) 513)).bind fun r3 =>
    (spool_Put n r3.1 r2).bind fun r4 =>
    bif (r4.2.2.2 != 0) then
      some true
    else
      (spool_Tracks n r2).bind fun r5 =>
      (spool_Drop n r4.1 r4.2.1).bind fun r6 =>
      (loopF (fun (x:(List TExtent)×Int)=>law39_SpoolOwn_b8 n l r2 r3.1.Tracks r3.1.Free r4.1.Tracks r4.1.Free r4.2.1.Extents r4.2.1.Lines r4.2.2.1 r5.1 r6.1.Tracks ((r6.1.Free.length:Nat):Int) x.1 x.2) n (r6.1.Free,0)).bind fun y61 =>
      law39_SpoolOwn_k1 n l r2 r3.1.Tracks r3.1.Free r4.1.Tracks r4.1.Free r4.2.1.Extents r4.2.1.Lines r4.2.2.1 r5.1
def xlaw39_SpoolOwn (n:Nat):Go.AE.Fn:=mkFn (A:=(List TLine)×Int) (R:=Bool) 6 [(false,[.slice 48]),(false,[.int .u16])] false (fun xs=>(((cg (xs.getD 0 []) 0).toSl.map d_TLine),(cg (xs.getD 1 []) 0).toInt)) (fun a=>[[.slice (List.map e_TLine a.1)],[.int a.2]]) (fun a=>law39_SpoolOwn n a.1 a.2) (fun r=>[.c .bool (.bool r)]) (fun r=>[])
theorem claw39_SpoolOwn (n:Nat):Contract Try.prog (xlaw39_SpoolOwn n):=by
  have hΓ:=g1 (claw39_works n) (g1 (claw39_Valid n) (g1 (cspool_New n) (g1 (cspool_Tracks n) (g1 (cspool_Drop n) (g1 (claw39_whole n) (g1 (cspool_Lines n) (g1 (claw39_equal n) (@g0 (Contract Try.prog)))))))))
  refine contract_f (Try.f6.body.getD .skip) h00 Try.func6 rfl Try.call6 (by decide) (by intro _ r;exact ⟨rfl,by simp⟩) ?_
  rintro ⟨l,n_⟩ r H
  try dsimp only at H
  unfold law39_SpoolOwn at H
  simp only [Try.f6,Option.getD]
  refine rA ?_
  refine Sm.seqK fun K2 hK2=>?_
  obtain ⟨r1,hr1,H⟩:=bind_some H
  have q:=And.intro @xlaw39_works.eq_1 hr1
  refine rAq ?_
  refine cnd H (fun h4 H=>?_) (fun h4 H=>?_)
  · refine rA ?_
    refine Sm.ret ?_
    refine lf ?_
    obtain rfl:=Option.some.inj H
    exact rt []
  refine Sm.skip ?_
  refine hK2 _ ?_
  obtain ⟨r2,hr2,H⟩:=bind_some H
  have q:=And.intro @xlaw39_works.eq_1 (And.intro @xlaw39_Valid.eq_1 hr2)
  refine rAq ?_
  obtain ⟨r3,hr3,H⟩:=bind_some H
  have q:=And.intro @xlaw39_works.eq_1 (And.intro @xlaw39_Valid.eq_1 (And.intro @xspool_New.eq_1 hr3))
  refine rAq ?_
  refine sX fun K8 hK8=>?_
  obtain ⟨r4,hr4,H⟩:=bind_some H
  have q:=hr4
  iterate 2 refine oX ?_
  refine oFCq (cspool_Put_R n _ _ r4 hr4) 576 [(true,[.int .i64,.slice 52]),(false,[.slice 48])] ?_
  iterate 11 refine oXq ?_
  refine hK8 _ ?_
  refine Sm.seqK fun K9 hK9=>?_
  refine rA ?_
  refine cnd H (fun h11 H=>?_) (fun h11 H=>?_)
  · refine rA ?_
    refine Sm.ret ?_
    refine lf ?_
    obtain rfl:=Option.some.inj H
    exact rt []
  refine Sm.skip ?_
  refine hK9 _ ?_
  obtain ⟨r5,hr5,H⟩:=bind_some H
  have q:=And.intro @xlaw39_works.eq_1 (And.intro @xlaw39_Valid.eq_1 (And.intro @xspool_New.eq_1 (And.intro @xspool_Tracks.eq_1 hr5)))
  refine rAq ?_
  obtain ⟨r6,hr6,H⟩:=bind_some H
  have q:=And.intro @xlaw39_works.eq_1 (And.intro @xlaw39_Valid.eq_1 (And.intro @xspool_New.eq_1 (And.intro @xspool_Tracks.eq_1 (And.intro @xspool_Drop.eq_1 hr6))))
  refine rAq ?_
  refine Sm.cut (fun (x:(List TLine)×Int×(List TExtent)×Int×(List TExtent)×(List TExtent)×Int×(List (List TRec))×(List (List TRec)))=>law39_SpoolOwn_s1 l x.1 x.2.1 x.2.2.1 x.2.2.2.1 x.2.2.2.2.1 x.2.2.2.2.2.1 x.2.2.2.2.2.2.1 x.2.2.2.2.2.2.2.1 x.2.2.2.2.2.2.2.2) (fun x=>law39_SpoolOwn_k1 n l x.1 x.2.1 x.2.2.1 x.2.2.2.1 x.2.2.2.2.1 x.2.2.2.2.2.1 x.2.2.2.2.2.2.1 x.2.2.2.2.2.2.2.1 x.2.2.2.2.2.2.2.2=some r) ?_ ?_
  · refine rA ?_
    refine Sm.block ?_
    obtain ⟨y61,hy61,Ho61⟩:=bind_some H
    refine Sm.loopB _ (fun x=>law39_SpoolOwn_t8 l r2 r3.1.Tracks r3.1.Free r4.1.Tracks r4.1.Free r4.2.1.Extents r4.2.1.Lines r4.2.2.1 r5.1 r6.1.Tracks ((r6.1.Free.length:Nat):Int) x.1 x.2) hy61 (wb [some 400,some 96,some 480,some 128,some 576,some 144,some 720,some 224,some 816]) ?_
    rintro ⟨back_1,v57⟩ z61 H
    try dsimp only at H
    unfold law39_SpoolOwn_b8 at H
    refine Sm.st (law39_SpoolOwn_t8.eq_1 ..) ?_
    refine rA ?_
    refine Sm.seqK fun K63 hK63=>?_
    refine cnd H (fun h64 H=>?_) (fun h64 H=>?_)
    · refine Sm.skip ?_
      refine hK63 _ ?_
      refine Sm.seqK fun K65 hK65=>?_
      refine Sm.block ?_
      refine rA ?_
      obtain ⟨⟨hg67,hg68⟩,H⟩:=gd_some H
      refine eA ?_
      refine hK65 _ ?_
      refine eA ?_
      refine lf ?_
      exact nx H (wb [some 9042,some 9043,some 9044,some 9045,some 9046,some 9047,some 9048,some 9049,some 9050])
    refine Sm.exit ?_
    refine lf ?_
    refine lx H fun hyy=>?_
    subst hyy
    have H:=Ho61
    try dsimp only at H
    refine lf ?_
    exact ⟨(r2,r3.1.Tracks,r3.1.Free,r4.1.Tracks,r4.1.Free,r4.2.1.Extents,r4.2.1.Lines,r4.2.2.1,r5.1),H,wb [some 9042,some 9043,some 9044,some 9045,some 9046,some 9047,some 9048]⟩
  rintro ⟨v,s,s_1,a,a_1,file,file_1,t,u⟩ H
  try dsimp only at H
  unfold law39_SpoolOwn_k1 at H
  refine Sm.st (law39_SpoolOwn_s1.eq_1 ..) ?_
  refine Sm.seqK fun K15 hK15=>?_
  refine sX fun K16 hK16=>?_
  obtain ⟨⟨hg17,hg18⟩,H⟩:=gd_some H
  have q:=And.intro @xlaw39_works.eq_1 (And.intro @xlaw39_Valid.eq_1 (And.intro @xspool_New.eq_1 (And.intro @xspool_Tracks.eq_1 (And.intro @xspool_Drop.eq_1 @xlaw39_whole.eq_1))))
  iterate 15 refine oXq ?_
  refine bif_cases H (fun hs19 H=>?_) (fun hs19 H=>?_)
  · try simp only [hs19,Bool.not_false,Bool.not_true,Bool.false_eq_true,true_implies,false_implies,forall_const] at hg17
    try simp only [hs19,Bool.not_false,Bool.not_true,Bool.false_eq_true,true_implies,false_implies,forall_const] at hg18
    have q:=And.intro @xlaw39_works.eq_1 (And.intro @xlaw39_Valid.eq_1 (And.intro @xspool_New.eq_1 (And.intro @xspool_Tracks.eq_1 (And.intro @xspool_Drop.eq_1 (And.intro @xlaw39_whole.eq_1 hs19)))))
    refine oFq ?_
    refine oFq ?_
    refine oFq ?_
    refine oPl ?_
    refine hK16 _ ?_
    refine cndT ?_
    refine rA ?_
    refine Sm.ret ?_
    refine lf ?_
    obtain rfl:=Option.some.inj H
    exact rt []
  try simp only [hs19,Bool.not_false,Bool.not_true,Bool.false_eq_true,true_implies,false_implies,forall_const] at hg17
  try simp only [hs19,Bool.not_false,Bool.not_true,Bool.false_eq_true,true_implies,false_implies,forall_const] at hg18
  obtain ⟨⟨hg22,hg23⟩,H⟩:=gd_some H
  obtain ⟨r7,hr7,H⟩:=bind_some H
  have q:=And.intro @xlaw39_works.eq_1 (And.intro @xlaw39_Valid.eq_1 (And.intro @xspool_New.eq_1 (And.intro @xspool_Tracks.eq_1 (And.intro @xspool_Drop.eq_1 (And.intro @xlaw39_whole.eq_1 (And.intro hs19 hr7))))))
  refine opsTE (stepBTs_ok h00 9004 [10,79]) rfl (by simp only [z,seval,xlaw39_works,xlaw39_Valid,xspool_New,xspool_Tracks,xspool_Drop,xlaw39_whole,hs19])  fun K hK=>?_;simp only [z,seval,xlaw39_works,xlaw39_Valid,xspool_New,xspool_Tracks,xspool_Drop,xlaw39_whole,hs19,stepBTs,retTs,ret2,ret1,ret0,List.map_cons,List.map_nil,beq_self_eq_true,cond_true,cond_false,bsR,meltD,meltDs,deadHp,upd_apply];(repeat (first | refine gcI ?_ | refine fun (_:_≤_)=>?_));refine hK _ ?_;clear hK K
  refine oTG ?_
  refine oTG ?_
  refine oPr ?_
  refine hK16 _ ?_
  refine cnd H (fun h24 H=>?_) (fun h24 H=>?_)
  · refine rA ?_
    refine Sm.ret ?_
    refine lf ?_
    obtain rfl:=Option.some.inj H
    exact rt []
  refine Sm.skip ?_
  refine hK15 _ ?_
  refine Sm.cut (fun (x:Unit)=>law39_SpoolOwn_s2 l v u) (fun x=>law39_SpoolOwn_k2 n l v u=some r) ?_ ?_
  · refine sX fun K34 hK34=>?_
    refine oX ?_
    refine oE stepRg_ok ?_
    refine oX ?_
    refine hK34 _ ?_
    refine Sm.block ?_
    obtain ⟨y35,hy35,Ho35⟩:=bind_some H
    refine Sm.loopB _ (fun x=>law39_SpoolOwn_t3 l v t u (t.length:Int) x) hy35 (wb [some 9000,some 1296,some 9006]) ?_
    rintro v87 z35 H
    try dsimp only at H
    unfold law39_SpoolOwn_b3 at H
    refine Sm.st (law39_SpoolOwn_t3.eq_1 ..) ?_
    refine rA ?_
    refine Sm.seqK fun K37 hK37=>?_
    refine cnd H (fun h38 H=>?_) (fun h38 H=>?_)
    · refine Sm.skip ?_
      refine hK37 _ ?_
      refine Sm.cut (fun (x:Unit)=>law39_SpoolOwn_s4 l v t u (t.length:Int) v87) (fun x=>law39_SpoolOwn_k4 n l v t u (t.length:Int) v87=some z35) ?_ ?_
      · refine Sm.block ?_
        refine rA ?_
        refine sX fun K40 hK40=>?_
        obtain ⟨hg41,H⟩:=gd_some H
        iterate 2 refine oX ?_
        refine oE stepW_ok ?_
        refine oE stepW_ok ?_
        refine oE stepW_ok ?_
        refine oX ?_
        refine hK40 _ ?_
        refine Sm.block ?_
        obtain ⟨y42,hy42,Ho42⟩:=bind_some H
        refine Sm.loopB _ (fun x=>law39_SpoolOwn_t5 l v t u v87 (t.length:Int) ((gt t (Int.toNat v87)).length:Int) x) hy42 (wb [some 9012,some 9013,some 9014]) ?_
        rintro v95 z42 H
        try dsimp only at H
        unfold law39_SpoolOwn_b5 at H
        refine Sm.st (law39_SpoolOwn_t5.eq_1 ..) ?_
        refine rA ?_
        refine Sm.seqK fun K44 hK44=>?_
        refine cnd H (fun h45 H=>?_) (fun h45 H=>?_)
        · refine Sm.skip ?_
          refine hK44 _ ?_
          refine Sm.cut (fun (x:Unit)=>law39_SpoolOwn_s6 l v t u v87 (t.length:Int) ((gt t (Int.toNat v87)).length:Int) v95) (fun x=>law39_SpoolOwn_k6 n l v t u v87 (t.length:Int) ((gt t (Int.toNat v87)).length:Int) v95=some z42) ?_ ?_
          · refine Sm.block ?_
            refine rA ?_
            refine sX fun K47 hK47=>?_
            obtain ⟨⟨hg48,hg49⟩,H⟩:=gd_some H
            iterate 2 refine oX ?_
            refine oE stepW_ok ?_
            refine oE stepW_ok ?_
            refine oX ?_
            refine oE stepW_ok ?_
            refine oE stepW_ok ?_
            refine oE stepW_ok ?_
            refine oE stepW_ok ?_
            refine oX ?_
            refine hK47 _ ?_
            refine Sm.block ?_
            obtain ⟨y50,hy50,Ho50⟩:=bind_some H
            refine Sm.loopB _ (fun x=>law39_SpoolOwn_t7 l v t u v87 v95 (t.length:Int) ((gt t (Int.toNat v87)).length:Int) (((gt (gt t (Int.toNat v87)) (Int.toNat v95)).Data).length:Int) x) hy50 (wb [some 9021,some 9022,some 9023]) ?_
            rintro v107 z50 H
            try dsimp only at H
            unfold law39_SpoolOwn_b7 at H
            refine Sm.st (law39_SpoolOwn_t7.eq_1 ..) ?_
            refine rA ?_
            refine Sm.seqK fun K52 hK52=>?_
            refine cnd H (fun h53 H=>?_) (fun h53 H=>?_)
            · refine Sm.skip ?_
              refine hK52 _ ?_
              refine Sm.seqK fun K54 hK54=>?_
              refine Sm.block ?_
              refine rA ?_
              refine eX ?_
              obtain ⟨⟨hg56,hg57,hg58,hg59⟩,H⟩:=gd_some H
              iterate 2 refine oX ?_
              refine oE stepW_ok ?_
              refine oE stepW_ok ?_
              refine oX ?_
              refine oE stepW_ok ?_
              refine oE stepW_ok ?_
              refine oE stepW_ok ?_
              refine oX ?_
              refine oE stepW_ok ?_
              refine opsE stepLW_ok fun K hK=>?_;simp only [z,seval,stepLW,isW];intro lw266;refine hK _ ?_;clear hK K
              refine oX ?_
              refine oE stepW_ok ?_
              refine oE stepW_ok ?_
              refine opsX0 ?_
              refine hK54 _ ?_
              refine eA ?_
              refine lf ?_
              exact nx H (wb [some 9030,some 9031,some 9032])
            refine Sm.exit ?_
            refine lf ?_
            refine lx H fun hyy=>?_
            subst hyy
            have H:=Ho50
            try dsimp only at H
            refine lf ?_
            exact ⟨(),H,wb [some 9030,some 9031,some 9032]⟩
          rintro ⟨⟩ H
          try dsimp only at H
          unfold law39_SpoolOwn_k6 at H
          refine Sm.st (law39_SpoolOwn_s6.eq_1 ..) ?_
          refine eA ?_
          refine lf ?_
          exact nx H (wb [some 9024,some 9025,some 9026])
        refine Sm.exit ?_
        refine lf ?_
        refine lx H fun hyy=>?_
        subst hyy
        have H:=Ho42
        try dsimp only at H
        refine lf ?_
        exact ⟨(),H,wb [some 9021,some 9022,some 9023]⟩
      rintro ⟨⟩ H
      try dsimp only at H
      unfold law39_SpoolOwn_k4 at H
      refine Sm.st (law39_SpoolOwn_s4.eq_1 ..) ?_
      refine eA ?_
      refine lf ?_
      exact nx H (wb [some 9015,some 9016,some 9017])
    refine Sm.exit ?_
    refine lf ?_
    refine lx H fun hyy=>?_
    subst hyy
    have H:=Ho35
    try dsimp only at H
    refine lf ?_
    exact ⟨(),H,wb [some 9012,some 9014]⟩
  rintro ⟨⟩ H
  try dsimp only at H
  unfold law39_SpoolOwn_k2 at H
  refine Sm.st (law39_SpoolOwn_s2.eq_1 ..) ?_
  obtain ⟨r8,hr8,H⟩:=bind_some H
  have q:=And.intro @xlaw39_works.eq_1 (And.intro @xlaw39_Valid.eq_1 (And.intro @xspool_New.eq_1 (And.intro @xspool_Tracks.eq_1 (And.intro @xspool_Drop.eq_1 (And.intro @xlaw39_whole.eq_1 (And.intro @xspool_Lines.eq_1 hr8))))))
  refine rAq ?_
  refine sX fun K27 hK27=>?_
  have q:=And.intro @xlaw39_works.eq_1 (And.intro @xlaw39_Valid.eq_1 (And.intro @xspool_New.eq_1 (And.intro @xspool_Tracks.eq_1 (And.intro @xspool_Drop.eq_1 (And.intro @xlaw39_whole.eq_1 (And.intro @xspool_Lines.eq_1 @xlaw39_equal.eq_1))))))
  iterate 5 refine oXq ?_
  refine bif_cases H (fun hs28 H=>?_) (fun hs28 H=>?_)
  · obtain ⟨hg29,H⟩:=gd_some H
    obtain ⟨r9,hr9,H⟩:=bind_some H
    obtain ⟨hg30,H⟩:=gd_some H
    obtain ⟨r10,hr10,H⟩:=bind_some H
    have q:=And.intro @xlaw39_works.eq_1 (And.intro @xlaw39_Valid.eq_1 (And.intro @xspool_New.eq_1 (And.intro @xspool_Tracks.eq_1 (And.intro @xspool_Drop.eq_1 (And.intro @xlaw39_whole.eq_1 (And.intro @xspool_Lines.eq_1 (And.intro @xlaw39_equal.eq_1 (And.intro hs28 (And.intro hr9 hr10)))))))))
    refine oTG ?_
    refine oTG ?_
    refine oPl ?_
    iterate 3 refine oXq ?_
    refine bif_cases H (fun hs31 H=>?_) (fun hs31 H=>?_)
    · try simp only [z,seval,hs28,hr9,hr10] at hs31
      obtain ⟨hg32,H⟩:=gd_some H
      obtain ⟨r11,hr11,H⟩:=bind_some H
      obtain rfl:r9=r11:=Option.some.inj (hr9.symm.trans hr11)
      obtain ⟨hg33,H⟩:=gd_some H
      obtain ⟨r12,hr12,H⟩:=bind_some H
      have q:=And.intro @xlaw39_works.eq_1 (And.intro @xlaw39_Valid.eq_1 (And.intro @xspool_New.eq_1 (And.intro @xspool_Tracks.eq_1 (And.intro @xspool_Drop.eq_1 (And.intro @xlaw39_whole.eq_1 (And.intro @xspool_Lines.eq_1 (And.intro @xlaw39_equal.eq_1 (And.intro hs28 (And.intro hr9 (And.intro hr10 (And.intro hs31 (And.intro hr11 hr12))))))))))))
      refine oTG ?_
      refine oTG ?_
      refine oPl ?_
      refine oXq ?_
      refine hK27 _ ?_
      refine Sm.ret ?_
      refine lf ?_
      obtain rfl:=Option.some.inj H
      exact rt []
    try simp only [z,seval,hs28,hr9,hr10] at hs31
    have q:=And.intro @xlaw39_works.eq_1 (And.intro @xlaw39_Valid.eq_1 (And.intro @xspool_New.eq_1 (And.intro @xspool_Tracks.eq_1 (And.intro @xspool_Drop.eq_1 (And.intro @xlaw39_whole.eq_1 (And.intro @xspool_Lines.eq_1 (And.intro @xlaw39_equal.eq_1 (And.intro hs28 (And.intro hr9 (And.intro hr10 hs31))))))))))
    refine oFq ?_
    refine oFq ?_
    refine oPr ?_
    refine oXq ?_
    refine hK27 _ ?_
    refine Sm.ret ?_
    refine lf ?_
    obtain rfl:=Option.some.inj H
    exact rt []
  have q:=And.intro @xlaw39_works.eq_1 (And.intro @xlaw39_Valid.eq_1 (And.intro @xspool_New.eq_1 (And.intro @xspool_Tracks.eq_1 (And.intro @xspool_Drop.eq_1 (And.intro @xlaw39_whole.eq_1 (And.intro @xspool_Lines.eq_1 (And.intro @xlaw39_equal.eq_1 hs28)))))))
  refine oFq ?_
  refine oFq ?_
  refine oPr ?_
  refine oXq ?_
  refine oFq ?_
  refine oFq ?_
  refine oFq ?_
  refine oFq ?_
  refine oPr ?_
  refine oXq ?_
  refine hK27 _ ?_
  refine Sm.ret ?_
  refine lf ?_
  obtain rfl:=Option.some.inj H
  exact rt []
end Go.Proofs.Ytkebegfopnlkhaa
