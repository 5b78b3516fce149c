/- Text. -/
import Derived.Test.YtkebegfopnlkhaaM
set_option maxHeartbeats 8000000
set_option linter.unusedVariables false
set_option linter.unusedSimpArgs false
set_option maxRecDepth 100000
open Go.IntKind renaming wrap→jc
open Go.AE.Sm renaming seqK→jB,ret→jC,skip→jF,cut→Jf,block→jG,loopB→j9,exit→Jg
open Go.Proofs.Try renaming prog→jd
namespace Go.Proofs.Ytkebegfopnlkhaa
open Go.AE
abbrev ref39_Tracks_s2 (l:List TLine):S:=stB [(0,.c (.slice 48) (.slice (List.map e_TLine l)))] []
def ref39_Tracks_k2 (n:Nat) (l:List TLine):Option ((List (List TRec))×Int) :=
  (ref39_Layout n l).bind fun r1 =>
  some (r1,0)
abbrev ref39_Tracks_t3 (l:List TLine) (i:Int):S:=stB [(0,.c (.slice 48) (.slice (List.map e_TLine l))),(5,.c (.int .i64) (.int i))] []
def ref39_Tracks_b3 (n:Nat) (l:List TLine) (i:Int):Option ((Int) ⊕ ((((List (List TRec))×Int) ⊕ (Unit)))) :=
  bif (decide (i < (l.length:Int))) then
    gd ((0≤i∧i < (l.length:Int))∧((!(decide (((gt l (Int.toNat i)).Ctl) < 0)))=true→(0≤i∧i < (l.length:Int)))) <|
    bif (if (decide (((gt l (Int.toNat i)).Ctl) < 0))=true then true else (decide (((gt l (Int.toNat i)).Ctl) > 255))) then
      some (.inr (.inl ([],1)))
    else
      some (.inl (jc .i64 (i+1)))
  else
    some (.inr (.inr ()))
abbrev ref39_Tracks_s1 (l:List TLine):S:=stB [(0,.c (.slice 48) (.slice (List.map e_TLine l)))] []
def ref39_Tracks_k1 (n:Nat) (l:List TLine):Option ((List (List TRec))×Int) :=
  (loopF (fun (x:Int)=>ref39_Tracks_b3 n l x) n 0).bind fun y8 =>
  match y8 with
  | .inl vv =>
    some (vv.1,vv.2)
  | .inr vv =>
    ref39_Tracks_k2 n l
abbrev ref39_Tracks_t4 (l:List TLine) (i_1:Int):S:=stB [(0,.c (.slice 48) (.slice (List.map e_TLine l))),(4,.c (.int .i64) (.int i_1))] []
def ref39_Tracks_b4 (n:Nat) (l:List TLine) (i_1:Int):Option ((Int) ⊕ ((((List (List TRec))×Int) ⊕ (Unit)))) :=
  bif (decide (i_1 < (l.length:Int))) then
    gd ((0≤i_1∧i_1 < (l.length:Int))) <|
    bif (decide ((((gt l (Int.toNat i_1)).Text).length:Int) > 132)) then
      some (.inr (.inl ([],2)))
    else
      some (.inl (jc .i64 (i_1+1)))
  else
    some (.inr (.inr ()))
def ref39_Tracks (n:Nat) (l:List TLine):Option ((List (List TRec))×Int) :=
  bif (decide ((l.length:Int) > 4096)) then
    some ([],2)
  else
    (loopF (fun (x:Int)=>ref39_Tracks_b4 n l x) n 0).bind fun y19 =>
    match y19 with
    | .inl vv =>
      some (vv.1,vv.2)
    | .inr vv =>
      ref39_Tracks_k1 n l
def xref39_Tracks (n:Nat):Go.AE.Fn:=mkFn (A:=(List TLine)) (R:=(List (List TRec))×Int) 25 [(false,[.slice 48])] true (fun xs=>((cg (xs.getD 0 []) 0).toSl.map d_TLine)) (fun a=>[[.slice (List.map e_TLine a)]]) (fun a=>ref39_Tracks n a) (fun r=>[.own 0 [.slice 59] 0 r.1.length,.c (.int .i64) (.int r.2)]) (fun r=>[.row 57 (List.map e_LTRec r.1)])
theorem cref39_Tracks (n:Nat):Contract jd (xref39_Tracks n):=by
  have hΓ:=g1 (cref39_Layout n) (@g0 (Contract jd))
  refine contract_f (Try.f25.body.getD .skip) h00 Try.func25 rfl Try.call25 (by decide) (by intro h;cases h) ?_
  rintro l r H
  try dsimp only at H
  unfold ref39_Tracks at H
  simp only [Try.f25,Option.getD]
  refine rA ?_
  refine jB fun K2 hK2=>?_
  refine rA ?_
  refine cnd H (fun h4 H=>?_) (fun h4 H=>?_)
  · refine rA ?_
    refine jC ?_
    refine lf ?_
    obtain rfl:=Option.some.inj H
    exact rto [none]
  refine jF ?_
  refine hK2 _ ?_
  refine Jf (fun (x:Unit)=>ref39_Tracks_s1 l) (fun x=>ref39_Tracks_k1 n l=some r) ?_ ?_
  · refine rA ?_
    refine jG ?_
    obtain ⟨y19,hy19,Ho19⟩:=bind_some H
    refine j9 _ (fun x=>ref39_Tracks_t4 l x) hy19 (wb []) ?_
    rintro i_1 z19 H
    try dsimp only at H
    unfold ref39_Tracks_b4 at H
    refine Sm.st (ref39_Tracks_t4.eq_1 ..) ?_
    refine jB fun K20 hK20=>?_
    refine rA ?_
    refine cnd H (fun h22 H=>?_) (fun h22 H=>?_)
    · refine jF ?_
      refine hK20 _ ?_
      refine jB fun K23 hK23=>?_
      refine jG ?_
      obtain ⟨hg27,H⟩:=gd_some H
      refine rA ?_
      refine cnd H (fun h25 H=>?_) (fun h25 H=>?_)
      · refine rA ?_
        refine jC ?_
        refine lf ?_
        refine lx H fun hyy=>?_
        subst hyy
        have H:=Ho19
        try dsimp only at H
        refine lf ?_
        obtain rfl:=Option.some.inj H
        exact rto [none]
      refine jF ?_
      refine hK23 _ ?_
      refine eA ?_
      refine lf ?_
      exact nx H (wb [])
    refine Jg ?_
    refine lf ?_
    refine lx H fun hyy=>?_
    subst hyy
    have H:=Ho19
    try dsimp only at H
    refine lf ?_
    exact ⟨(),H,wb []⟩
  rintro ⟨⟩ H
  try dsimp only at H
  unfold ref39_Tracks_k1 at H
  refine Sm.st (ref39_Tracks_s1.eq_1 ..) ?_
  refine Jf (fun (x:Unit)=>ref39_Tracks_s2 l) (fun x=>ref39_Tracks_k2 n l=some r) ?_ ?_
  · refine rA ?_
    refine jG ?_
    obtain ⟨y8,hy8,Ho8⟩:=bind_some H
    refine j9 _ (fun x=>ref39_Tracks_t3 l x) hy8 (wb []) ?_
    rintro i z8 H
    try dsimp only at H
    unfold ref39_Tracks_b3 at H
    refine Sm.st (ref39_Tracks_t3.eq_1 ..) ?_
    refine jB fun K9 hK9=>?_
    refine rA ?_
    refine cnd H (fun h11 H=>?_) (fun h11 H=>?_)
    · refine jF ?_
      refine hK9 _ ?_
      refine jB fun K12 hK12=>?_
      refine jG ?_
      obtain ⟨⟨hg16,hg17⟩,H⟩:=gd_some H
      refine rA ?_
      refine cnd H (fun h14 H=>?_) (fun h14 H=>?_)
      · refine rA ?_
        refine jC ?_
        refine lf ?_
        refine lx H fun hyy=>?_
        subst hyy
        have H:=Ho8
        try dsimp only at H
        refine lf ?_
        obtain rfl:=Option.some.inj H
        exact rto [none]
      refine jF ?_
      refine hK12 _ ?_
      refine eA ?_
      refine lf ?_
      exact nx H (wb [])
    refine Jg ?_
    refine lf ?_
    refine lx H fun hyy=>?_
    subst hyy
    have H:=Ho8
    try dsimp only at H
    refine lf ?_
    exact ⟨(),H,wb []⟩
  rintro ⟨⟩ H
  try dsimp only at H
  unfold ref39_Tracks_k2 at H
  refine Sm.st (ref39_Tracks_s2.eq_1 ..) ?_
  obtain ⟨r1,hr1,H⟩:=bind_some H
  have q:=aI @xref39_Layout.eq_1 hr1
  refine rAq ?_
  refine jC ?_
  refine lf ?_
  obtain rfl:=Option.some.inj H
  exact rto [some 688]
abbrev ref39_Lines_s1 (t:List (List TRec)) (n_:Int) (l:List TLine):S:=stB [(0,.c (.slice 57) (.slice (List.map e_LTRec t))),(1,.c (.int .i64) (.int n_)),(6,.own 9000 [.int .i64,.str] 0 l.length)] [(9000,.row 48 (List.map e_TLine l))]
def ref39_Lines_k1 (n:Nat) (t:List (List TRec)) (n_:Int) (l:List TLine):Option ((List TLine)×Int) :=
  (ref39_Tracks n l).bind fun r1 =>
  gd (((!(if (((l.length:Nat):Int) != n_)=true then true else (r1.2 != 0)))=true→(ref15_SameTracks n r1.1 t).isSome=true)) <|
  bif (if (if (((l.length:Nat):Int) != n_)=true then true else (r1.2 != 0))=true then true else (!((ref15_SameTracks n r1.1 t).getD default))) then
    some ([],390)
  else
    some (l,0)
abbrev ref39_Lines_s3 (t:List (List TRec)) (n_:Int) (l_2:List TLine) (i:Int):S:=stB [(0,.c (.slice 57) (.slice (List.map e_LTRec t))),(1,.c (.int .i64) (.int n_)),(6,.own 9003 [.int .i64,.str] 0 l_2.length),(7,.c (.int .i64) (.int i))] [(9003,.row 48 (List.map e_TLine l_2))]
def ref39_Lines_k3 (n:Nat) (t:List (List TRec)) (n_:Int) (l_2:List TLine) (i:Int):Option (((List TLine)×Int) ⊕ (((List TLine)))) :=
  some (.inl (l_2,(jc .i64 (i+1))))
abbrev ref39_Lines_s5 (t:List (List TRec)) (n_:Int) (l_4:List TLine) (i:Int) (k:Int):S:=stB [(0,.c (.slice 57) (.slice (List.map e_LTRec t))),(1,.c (.int .i64) (.int n_)),(6,.own 9006 [.int .i64,.str] 0 l_4.length),(7,.c (.int .i64) (.int i)),(8,.c (.int .i64) (.int k))] [(9006,.row 48 (List.map e_TLine l_4))]
def ref39_Lines_k5 (n:Nat) (t:List (List TRec)) (n_:Int) (l_4:List TLine) (i:Int) (k:Int):Option (((List TLine)×Int) ⊕ (((List TLine)))) :=
  some (.inl (l_4,(jc .i64 (k+1))))
abbrev ref39_Lines_t6 (t:List (List TRec)) (n_:Int) (i:Int) (k:Int) (b:List Int) (l_5:List TLine) (at_:Int):S:=stB [(0,.c (.slice 57) (.slice (List.map e_LTRec t))),(1,.c (.int .i64) (.int n_)),(6,.own 9008 [.int .i64,.str] 0 l_5.length),(7,.c (.int .i64) (.int i)),(8,.c (.int .i64) (.int k)),(9,.c (.slice 5) (.slice (List.map e_Int b))),(10,.c (.int .i64) (.int at_))] [(9008,.row 48 (List.map e_TLine l_5))]
def ref39_Lines_b6 (n:Nat) (t:List (List TRec)) (n_:Int) (i:Int) (k:Int) (b:List Int) (l_5:List TLine) (at_:Int):Option (((List TLine)×Int) ⊕ (((List TLine)))) :=
  gd (((decide ((jc .i64 (at_+2))≤(b.length:Int)))=true→(0≤(jc .i64 (at_+1))∧(jc .i64 (at_+1)) < (b.length:Int)))) <|
  bif (if (decide ((jc .i64 (at_+2))≤(b.length:Int)))=true then (decide ((jc .i64 ((jc .i64 (at_+2))+(jc .i64 ((gt b (Int.toNat (jc .i64 (at_+1))))))))≤(b.length:Int))) else false) then
    gd ((0≤at_∧at_ < (b.length:Int))∧(0≤(jc .i64 (at_+1))∧(jc .i64 (at_+1)) < (b.length:Int))∧(0≤(jc .i64 (at_+2))∧(jc .i64 (at_+2))≤(jc .i64 ((jc .i64 (at_+2))+(jc .i64 ((gt b (Int.toNat (jc .i64 (at_+1))))))))∧(jc .i64 ((jc .i64 (at_+2))+(jc .i64 ((gt b (Int.toNat (jc .i64 (at_+1))))))))≤(b.length:Int))∧(l_5.length+1)≤2147483648) <|
    gd ((0≤(jc .i64 (at_+1))∧(jc .i64 (at_+1)) < (b.length:Int))) <|
    some (.inl ((l_5 ++ [(⟨(jc .i64 ((gt b (Int.toNat at_)))),(toStr8 (List.drop (Int.toNat (jc .i64 (at_+2))) (List.take (Int.toNat (jc .i64 ((jc .i64 (at_+2))+(jc .i64 ((gt b (Int.toNat (jc .i64 (at_+1))))))))) b)))⟩:TLine)]),(jc .i64 ((jc .i64 (at_+2))+(jc .i64 ((gt b (Int.toNat (jc .i64 (at_+1))))))))))
  else
    some (.inr l_5)
abbrev ref39_Lines_t4 (t:List (List TRec)) (n_:Int) (i:Int) (l_3:List TLine) (k:Int):S:=stB [(0,.c (.slice 57) (.slice (List.map e_LTRec t))),(1,.c (.int .i64) (.int n_)),(6,.own 9005 [.int .i64,.str] 0 l_3.length),(7,.c (.int .i64) (.int i)),(8,.c (.int .i64) (.int k))] [(9005,.row 48 (List.map e_TLine l_3))]
def ref39_Lines_b4 (n:Nat) (t:List (List TRec)) (n_:Int) (i:Int) (l_3:List TLine) (k:Int):Option (((List TLine)×Int) ⊕ (((List TLine)))) :=
  gd ((0≤i∧i < (t.length:Int))) <|
  bif (decide (k < ((gt t (Int.toNat i)).length:Int))) then
    gd ((0≤i∧i < (t.length:Int))∧(0≤k∧k < ((gt t (Int.toNat i)).length:Int))) <|
    (loopF (fun (x:(List TLine)×Int)=>ref39_Lines_b6 n t n_ i k ((gt (gt t (Int.toNat i)) (Int.toNat k)).Data) x.1 x.2) n (l_3,4)).bind fun y22 =>
    ref39_Lines_k5 n t n_ y22 i k
  else
    some (.inr l_3)
abbrev ref39_Lines_t2 (t:List (List TRec)) (n_:Int) (l_1:List TLine) (i:Int):S:=stB [(0,.c (.slice 57) (.slice (List.map e_LTRec t))),(1,.c (.int .i64) (.int n_)),(6,.own 9002 [.int .i64,.str] 0 l_1.length),(7,.c (.int .i64) (.int i))] [(9002,.row 48 (List.map e_TLine l_1))]
def ref39_Lines_b2 (n:Nat) (t:List (List TRec)) (n_:Int) (l_1:List TLine) (i:Int):Option (((List TLine)×Int) ⊕ (((List TLine)))) :=
  bif (decide (i < (t.length:Int))) then
    (loopF (fun (x:(List TLine)×Int)=>ref39_Lines_b4 n t n_ i x.1 x.2) n (l_1,0)).bind fun y16 =>
    ref39_Lines_k3 n t n_ y16 i
  else
    some (.inr l_1)
def ref39_Lines (n:Nat) (t:List (List TRec)) (n_:Int):Option ((List TLine)×Int) :=
  (loopF (fun (x:(List TLine)×Int)=>ref39_Lines_b2 n t n_ x.1 x.2) n ([],0)).bind fun y11 =>
  ref39_Lines_k1 n t n_ y11
def xref39_Lines (n:Nat):Go.AE.Fn:=mkFn (A:=(List (List TRec))×Int) (R:=(List TLine)×Int) 31 [(false,[.slice 57]),(false,[.int .i64])] true (fun xs=>(((cg (xs.getD 0 []) 0).toSl.map d_LTRec),(cg (xs.getD 1 []) 0).toInt)) (fun a=>[[.slice (List.map e_LTRec a.1)],[.int a.2]]) (fun a=>ref39_Lines n a.1 a.2) (fun r=>[.c (.slice 48) (.slice (List.map e_TLine r.1)),.c (.int .i64) (.int r.2)]) (fun r=>[])
theorem cref39_Lines (n:Nat):Contract jd (xref39_Lines n):=by
  have hΓ:=g1 (cref39_Tracks n) (g1 (cref15_SameTracks n) (@g0 (Contract jd)))
  have qe:=aI @xref39_Tracks.eq_1 @xref15_SameTracks.eq_1
  refine contract_f (Try.f31.body.getD .skip) h00 Try.func31 rfl Try.call31 (by decide) (by intro h;cases h) ?_
  rintro ⟨t,n_⟩ r H
  try dsimp only at H
  unfold ref39_Lines at H
  simp only [Try.f31,Option.getD]
  refine rA ?_
  refine rA ?_
  refine Jf (fun (x:(List TLine))=>ref39_Lines_s1 t n_ x) (fun x=>ref39_Lines_k1 n t n_ x=some r) ?_ ?_
  · refine rA ?_
    refine jG ?_
    obtain ⟨y11,hy11,Ho11⟩:=bind_some H
    refine j9 _ (fun x=>ref39_Lines_t2 t n_ x.1 x.2) hy11 (wb [none]) ?_
    rintro ⟨l_1,i⟩ z11 H
    try dsimp only at H
    unfold ref39_Lines_b2 at H
    refine Sm.st (ref39_Lines_t2.eq_1 ..) ?_
    refine jB fun K12 hK12=>?_
    refine rA ?_
    refine cnd H (fun h14 H=>?_) (fun h14 H=>?_)
    · refine jF ?_
      refine hK12 _ ?_
      refine Jf (fun (x:(List TLine))=>ref39_Lines_s3 t n_ x i) (fun x=>ref39_Lines_k3 n t n_ x i=some z11) ?_ ?_
      · refine jG ?_
        refine rA ?_
        refine jG ?_
        obtain ⟨y16,hy16,Ho16⟩:=bind_some H
        refine j9 _ (fun x=>ref39_Lines_t4 t n_ i x.1 x.2) hy16 (wb [some 9002]) ?_
        rintro ⟨l_3,k⟩ z16 H
        try dsimp only at H
        unfold ref39_Lines_b4 at H
        refine Sm.st (ref39_Lines_t4.eq_1 ..) ?_
        refine jB fun K17 hK17=>?_
        obtain ⟨hg35,H⟩:=gd_some H
        refine rA ?_
        refine cnd H (fun h19 H=>?_) (fun h19 H=>?_)
        · refine jF ?_
          refine hK17 _ ?_
          refine Jf (fun (x:(List TLine))=>ref39_Lines_s5 t n_ x i k) (fun x=>ref39_Lines_k5 n t n_ x i k=some z16) ?_ ?_
          · refine jG ?_
            obtain ⟨⟨hg33,hg34⟩,H⟩:=gd_some H
            refine rA ?_
            refine rA ?_
            refine jG ?_
            obtain ⟨y22,hy22,Ho22⟩:=bind_some H
            refine j9 _ (fun x=>ref39_Lines_t6 t n_ i k ((gt (gt t (Int.toNat i)) (Int.toNat k)).Data) x.1 x.2) hy22 (wb [some 9005]) ?_
            rintro ⟨l_5,at_⟩ z22 H
            try dsimp only at H
            unfold ref39_Lines_b6 at H
            refine Sm.st (ref39_Lines_t6.eq_1 ..) ?_
            refine jB fun K23 hK23=>?_
            obtain ⟨hg32,H⟩:=gd_some H
            refine rA ?_
            refine cnd H (fun h25 H=>?_) (fun h25 H=>?_)
            · refine jF ?_
              refine hK23 _ ?_
              refine jB fun K26 hK26=>?_
              refine jG ?_
              obtain ⟨⟨hg27,hg28,hg29,hg30⟩,H⟩:=gd_some H
              refine eQ [0,1,2,3,4,5,6,7,8,9,10,11,12,13,14,15,16,17,18,19,20,21,22,23] [(none,[],[]),(none,[],[]),(none,[],[]),(none,[],[]),(none,[],[]),(none,[],[]),(none,[],[]),(none,[],[]),(none,[],[]),(none,[],[]),(none,[],[]),(none,[],[]),(none,[],[]),(none,[],[]),(none,[],[]),(none,[],[]),(none,[],[]),(none,[],[]),(none,[],[]),(none,[1000001],[]),(none,[],[]),(none,[],[1360]),(none,[1360,9008],[1376,9008]),(none,[],[])] ?_
              iterate 19 refine oQ ?_
              refine oQV ?_
              iterate 4 refine oQ ?_
              refine opsQ0 ?_
              refine hK26 _ ?_
              obtain ⟨hg31,H⟩:=gd_some H
              refine eA ?_
              refine lf ?_
              exact nx H (wb [some 1376])
            refine Jg ?_
            refine lf ?_
            refine lx H fun hyy=>?_
            subst hyy
            have H:=Ho22
            try dsimp only at H
            refine lf ?_
            exact ⟨_,H,wb [some 9008]⟩
          rintro l_4 H
          try dsimp only at H
          unfold ref39_Lines_k5 at H
          refine Sm.st (ref39_Lines_s5.eq_1 ..) ?_
          refine eA ?_
          refine lf ?_
          exact nx H (wb [some 9006])
        refine Jg ?_
        refine lf ?_
        refine lx H fun hyy=>?_
        subst hyy
        have H:=Ho16
        try dsimp only at H
        refine lf ?_
        exact ⟨_,H,wb [some 9005]⟩
      rintro l_2 H
      try dsimp only at H
      unfold ref39_Lines_k3 at H
      refine Sm.st (ref39_Lines_s3.eq_1 ..) ?_
      refine eA ?_
      refine lf ?_
      exact nx H (wb [some 9003])
    refine Jg ?_
    refine lf ?_
    refine lx H fun hyy=>?_
    subst hyy
    have H:=Ho11
    try dsimp only at H
    refine lf ?_
    exact ⟨_,H,wb [some 9002]⟩
  rintro l H
  try dsimp only at H
  unfold ref39_Lines_k1 at H
  refine Sm.st (ref39_Lines_s1.eq_1 ..) ?_
  obtain ⟨r1,hr1,H⟩:=bind_some H
  have q:=aI qe hr1
  refine rAq ?_
  refine jB fun K4 hK4=>?_
  obtain ⟨hg9,H⟩:=gd_some H
  have q:=qe
  refine rAq ?_
  refine cnd H (fun h6 H=>?_) (fun h6 H=>?_)
  · refine rA ?_
    refine jC ?_
    refine lf ?_
    obtain rfl:=Option.some.inj H
    exact rt []
  refine jF ?_
  refine hK4 _ ?_
  refine rA ?_
  refine jC ?_
  refine lf ?_
  obtain rfl:=Option.some.inj H
  exact rt []
def law39_reads (n:Nat) (t:List (List TRec)) (n_:Int):Option Bool :=
  (spool_Lines n t n_).bind fun r1 =>
  (ref39_Lines n t n_).bind fun r2 =>
  (ref39_SameLines n r1.1 r2.1).bind fun r3 =>
  some (if r3=true then (r1.2 == r2.2) else false)
def xlaw39_reads (n:Nat):Go.AE.Fn:=mkFn (A:=(List (List TRec))×Int) (R:=Bool) 14 [(false,[.slice 57]),(false,[.int .i64])] false (fun xs=>(((cg (xs.getD 0 []) 0).toSl.map d_LTRec),(cg (xs.getD 1 []) 0).toInt)) (fun a=>[[.slice (List.map e_LTRec a.1)],[.int a.2]]) (fun a=>law39_reads n a.1 a.2) (fun r=>[.c .bool (.bool r)]) (fun r=>[])
theorem claw39_reads (n:Nat):Contract jd (xlaw39_reads n):=by
  have hΓ:=g1 (cspool_Lines n) (g1 (cref39_Lines n) (g1 (cref39_SameLines n) (@g0 (Contract jd))))
  have qe:=aI @xspool_Lines.eq_1 (aI @xref39_Lines.eq_1 @xref39_SameLines.eq_1)
  refine contract_f (Try.f14.body.getD .skip) h00 Try.func14 rfl Try.call14 (by decide) (by intro _ r;exact ⟨rfl,by simp⟩) ?_
  rintro ⟨t,n_⟩ r H
  try dsimp only at H
  unfold law39_reads at H
  simp only [Try.f14,Option.getD]
  refine rA ?_
  obtain ⟨r1,hr1,H⟩:=bind_some H
  have q:=aI qe hr1
  refine rAq ?_
  obtain ⟨r2,hr2,H⟩:=bind_some H
  have q:=aI qe hr2
  refine rAq ?_
  obtain ⟨r3,hr3,H⟩:=bind_some H
  have q:=aI qe hr3
  refine rAq ?_
  refine jC ?_
  refine lf ?_
  obtain rfl:=Option.some.inj H
  exact rt []
end Go.Proofs.Ytkebegfopnlkhaa
