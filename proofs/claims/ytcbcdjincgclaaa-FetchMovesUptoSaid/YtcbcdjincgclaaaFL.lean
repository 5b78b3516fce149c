/- Text. -/
import Derived.Test.YtcbcdjincgclaaaF
import Derived.Test.YtcbcdjincgclaaaDF
import Derived.Test.YtcbcdjincgclaaaAE62
set_option linter.unusedSimpArgs false
set_option linter.unusedVariables false
set_option maxHeartbeats 8000000
set_option linter.unusedVariables false
set_option linter.unusedSimpArgs false
set_option maxRecDepth 100000
namespace Go.Proofs.Ytcbcdjincgclaaa
open Go.AE
theorem un32:Try.prog.underlying 32=some (.slice 3):=by kernel_rfl
theorem ty95:tyI Try.prog 95=some ⟨[.other],false,[],0,8⟩:=by kernel_rfl
namespace wlk
theorem z:type_of% (And.intro Go.Proofs.Ytcbcdjincgclaaa.z (And.intro un32 ty95)):=And.intro Go.Proofs.Ytcbcdjincgclaaa.z (And.intro un32 ty95)
end wlk
end Go.Proofs.Ytcbcdjincgclaaa
/-
  The functions that call one whose contract is written by hand.
-/
set_option maxHeartbeats 8000000
set_option linter.unusedVariables false
set_option linter.unusedSimpArgs false
set_option maxRecDepth 100000
namespace Go.Proofs.Ytcbcdjincgclaaa
open Go.AE
abbrev law33_FetchMoves_s1:S:=stB [] []
def law33_FetchMoves_k1 (n:Nat):Option Bool :=
  (works n).bind fun r7 =>
  some r7
abbrev law33_FetchMoves_s3 (m:TLoad) (g:Int) (g_1:Int) (g_2:Int) (g_3:Int) (one:List Int) (two:List Int) (i:Int):S:=stB [(3,.box 9008 0),(11,.box 9009 0),(12,.own 9010 [.int .u8] 0 one.length),(15,.own 9011 [.int .u8] 0 two.length),(16,.c (.int .i64) (.int i))] [(9008,.box [.c (.slice 5) (.slice (List.map e_Int m.Text)),.c (.slice 58) (.slice (List.map e_TReloc m.Relocs)),.c (.slice 52) (.slice (List.map e_TSegment m.Segments)),.c (.int .i64) (.int m.Entry)]),(9009,.box [.c (.int .i64) (.int g),.c (.int .i64) (.int g_1),.c (.int .i64) (.int g_2),.c (.int .i64) (.int g_3)]),(9010,.row 5 (List.map e_Int one)),(9011,.row 5 (List.map e_Int two))]
def law33_FetchMoves_k3 (n:Nat) (m:TLoad) (g:Int) (g_1:Int) (g_2:Int) (g_3:Int) (one:List Int) (two:List Int) (i:Int):Option ((Int) ⊕ (((Bool) ⊕ (Unit)))) :=
  some (.inl (IntKind.wrap .i64 (i+1)))
abbrev law33_FetchMoves_s4 (m:TLoad) (g:Int) (g_1:Int) (g_2:Int) (g_3:Int) (one:List Int) (two:List Int) (i:Int) (constant:Bool):S:=stB [(3,.box 9012 0),(11,.box 9013 0),(12,.own 9014 [.int .u8] 0 one.length),(15,.own 9015 [.int .u8] 0 two.length),(16,.c (.int .i64) (.int i)),(17,.c .bool (.bool constant))] [(9012,.box [.c (.slice 5) (.slice (List.map e_Int m.Text)),.c (.slice 58) (.slice (List.map e_TReloc m.Relocs)),.c (.slice 52) (.slice (List.map e_TSegment m.Segments)),.c (.int .i64) (.int m.Entry)]),(9013,.box [.c (.int .i64) (.int g),.c (.int .i64) (.int g_1),.c (.int .i64) (.int g_2),.c (.int .i64) (.int g_3)]),(9014,.row 5 (List.map e_Int one)),(9015,.row 5 (List.map e_Int two))]
def law33_FetchMoves_k4 (n:Nat) (m:TLoad) (g:Int) (g_1:Int) (g_2:Int) (g_3:Int) (one:List Int) (two:List Int) (i:Int) (constant:Bool):Option ((Int) ⊕ (((Bool) ⊕ (Unit)))) :=
  gd (((!constant)=true→(0≤i∧i < (one.length:Int)))∧((!constant)=true→(Int.toNat i) < one.length)∧((!constant)=true→(0≤i∧i < (two.length:Int)))∧((!constant)=true→(Int.toNat i) < two.length)) <|
  bif (if (!constant)=true then ((gt one (Int.toNat i)) != (gt two (Int.toNat i))) else false) then
    some (.inr (.inl false))
  else
    law33_FetchMoves_k3 n m g g_1 g_2 g_3 one two i
abbrev law33_FetchMoves_t5 (m:TLoad) (g:Int) (g_1:Int) (g_2:Int) (g_3:Int) (one:List Int) (two:List Int) (i:Int) (constant_1:Bool) (j:Int):S:=stB [(3,.box 9020 0),(11,.box 9021 0),(12,.own 9022 [.int .u8] 0 one.length),(15,.own 9023 [.int .u8] 0 two.length),(16,.c (.int .i64) (.int i)),(17,.c .bool (.bool constant_1)),(18,.c (.int .i64) (.int j))] [(9020,.box [.c (.slice 5) (.slice (List.map e_Int m.Text)),.c (.slice 58) (.slice (List.map e_TReloc m.Relocs)),.c (.slice 52) (.slice (List.map e_TSegment m.Segments)),.c (.int .i64) (.int m.Entry)]),(9021,.box [.c (.int .i64) (.int g),.c (.int .i64) (.int g_1),.c (.int .i64) (.int g_2),.c (.int .i64) (.int g_3)]),(9022,.row 5 (List.map e_Int one)),(9023,.row 5 (List.map e_Int two))]
def law33_FetchMoves_b5 (n:Nat) (m:TLoad) (g:Int) (g_1:Int) (g_2:Int) (g_3:Int) (one:List Int) (two:List Int) (i:Int) (constant_1:Bool) (j:Int):Option ((Bool×Int) ⊕ ((Bool))) :=
  bif (decide (j < (m.Relocs.length:Int))) then
    gd (((!constant_1)=true→(0≤j∧j < (m.Relocs.length:Int)))∧(((!constant_1) && (decide (i ≥ ((gt m.Relocs (Int.toNat j)).At))))=true→(0≤j∧j < (m.Relocs.length:Int)))∧(((!constant_1) && (decide (i ≥ ((gt m.Relocs (Int.toNat j)).At))))=true→(0≤j∧j < (m.Relocs.length:Int)))) <|
    some (.inl ((if constant_1=true then true else (if (decide (i ≥ ((gt m.Relocs (Int.toNat j)).At)))=true then (decide (i < (IntKind.wrap .i64 (((gt m.Relocs (Int.toNat j)).At)+((gt m.Relocs (Int.toNat j)).Len))))) else false)),(IntKind.wrap .i64 (j+1))))
  else
    some (.inr constant_1)
abbrev law33_FetchMoves_t2 (m:TLoad) (g:Int) (g_1:Int) (g_2:Int) (g_3:Int) (one:List Int) (two:List Int) (i:Int):S:=stB [(3,.box 9004 0),(11,.box 9005 0),(12,.own 9006 [.int .u8] 0 one.length),(15,.own 9007 [.int .u8] 0 two.length),(16,.c (.int .i64) (.int i))] [(9004,.box [.c (.slice 5) (.slice (List.map e_Int m.Text)),.c (.slice 58) (.slice (List.map e_TReloc m.Relocs)),.c (.slice 52) (.slice (List.map e_TSegment m.Segments)),.c (.int .i64) (.int m.Entry)]),(9005,.box [.c (.int .i64) (.int g),.c (.int .i64) (.int g_1),.c (.int .i64) (.int g_2),.c (.int .i64) (.int g_3)]),(9006,.row 5 (List.map e_Int one)),(9007,.row 5 (List.map e_Int two))]
def law33_FetchMoves_b2 (n:Nat) (m:TLoad) (g:Int) (g_1:Int) (g_2:Int) (g_3:Int) (one:List Int) (two:List Int) (i:Int):Option ((Int) ⊕ (((Bool) ⊕ (Unit)))) :=
  bif (decide (i < g_3)) then
    (loopF (fun (x:Bool×Int)=>law33_FetchMoves_b5 n m g g_1 g_2 g_3 one two i x.1 x.2) n (false,0)).bind fun y39 =>
    law33_FetchMoves_k4 n m g g_1 g_2 g_3 one two i y39
  else
    some (.inr (.inr ()))
def law33_FetchMoves (n:Nat) (m:TLoad) (a:Int) (b:Int):Option Bool :=
  (store_New_M1 n 65536).bind fun r1 =>
  bif (r1.2.2 != 0) then
    some false
  else
    gd ((!(r1.2.2 != 0))=true) <|
    (fetch_Put_M1 n r1.1 r1.2.1 m (IntKind.wrap .i64 (2048 * (IntKind.wrap .i64 (((BitVec.ofInt (IntKind.bits .i64) a &&& BitVec.ofInt (IntKind.bits .i64) 15).toNat:Int))))) 32768 1).bind fun r2 =>
    bif (r2.2.1 != 0) then
      (works n).bind fun r3 =>
      some r3
    else
      gd (0 < (m.Segments.length:Int)) <|
      (store_Store__Bytes_M1 n r2.2.2.1 r2.2.2.2 (IntKind.wrap .i64 (2048 * (IntKind.wrap .i64 (((BitVec.ofInt (IntKind.bits .i64) a &&& BitVec.ofInt (IntKind.bits .i64) 15).toNat:Int))))) ((gt m.Segments 0).Len)).bind fun r4 =>
      (fetch_Put_M1 n r2.2.2.1 r2.2.2.2 m (IntKind.wrap .i64 (2048 * (IntKind.wrap .i64 (((BitVec.ofInt (IntKind.bits .i64) b &&& BitVec.ofInt (IntKind.bits .i64) 15).toNat:Int))))) 32768 2).bind fun r5 =>
      (store_Store__Bytes_M1 n r5.2.2.1 r5.2.2.2 (IntKind.wrap .i64 (2048 * (IntKind.wrap .i64 (((BitVec.ofInt (IntKind.bits .i64) b &&& BitVec.ofInt (IntKind.bits .i64) 15).toNat:Int))))) ((gt m.Segments 0).Len)).bind fun r6 =>
      bif (if (if (if (r5.2.1 != 0)=true then true else ((IntKind.wrap .i64 (r5.1 - (IntKind.wrap .i64 (2048 * (IntKind.wrap .i64 (((BitVec.ofInt (IntKind.bits .i64) b &&& BitVec.ofInt (IntKind.bits .i64) 15).toNat:Int))))))) != (IntKind.wrap .i64 (r2.1 - (IntKind.wrap .i64 (2048 * (IntKind.wrap .i64 (((BitVec.ofInt (IntKind.bits .i64) a &&& BitVec.ofInt (IntKind.bits .i64) 15).toNat:Int)))))))))=true then true else (((r4.length:Nat):Int) != ((gt m.Segments 0).Len)))=true then true else (((r6.length:Nat):Int) != ((gt m.Segments 0).Len))) then
        some false
      else
        (loopF (fun (x:Int)=>law33_FetchMoves_b2 n m ((gt m.Segments 0).Parent) ((gt m.Segments 0).Origin) ((gt m.Segments 0).From) ((gt m.Segments 0).Len) r4 r6 x) n 0).bind fun y26 =>
        match y26 with
        | .inl vv =>
          some vv
        | .inr vv =>
          law33_FetchMoves_k1 n
def xlaw33_FetchMoves (n:Nat):Go.AE.Fn:=mkFn (A:=TLoad×Int×Int) (R:=Bool) 6 [(true,[.slice 5,.slice 58,.slice 52,.int .i64]),(false,[.int .i64]),(false,[.int .i64])] false (fun xs=>((⟨((cg (xs.getD 0 []) 0).toSl.map d_Int),((cg (xs.getD 0 []) 1).toSl.map d_TReloc),((cg (xs.getD 0 []) 2).toSl.map d_TSegment),(cg (xs.getD 0 []) 3).toInt⟩:TLoad),(cg (xs.getD 1 []) 0).toInt,(cg (xs.getD 2 []) 0).toInt)) (fun a=>[[.slice (List.map e_Int a.1.Text),.slice (List.map e_TReloc a.1.Relocs),.slice (List.map e_TSegment a.1.Segments),.int a.1.Entry],[.int a.2.1],[.int a.2.2]]) (fun a=>law33_FetchMoves n a.1 a.2.1 a.2.2) (fun r=>[.c .bool (.bool r)]) (fun r=>[])
theorem claw33_FetchMoves (n:Nat):Contract Try.prog (xlaw33_FetchMoves n):=by
  have hΓ:=g1 (cworks n) (@g0 (Contract Try.prog))
  refine contract_f (Try.f6.body.getD .skip) h00 Try.func6 rfl Try.call6 (by decide) (by intro _ r;exact ⟨rfl,by simp⟩) ?_
  rintro ⟨m,a,b⟩ r H
  try dsimp only at H
  unfold law33_FetchMoves at H
  simp only [Try.f6,Option.getD]
  refine rA ?_
  refine sX fun K2 hK2=>?_
  obtain ⟨r1,hr1,H⟩:=bind_some H
  have q:=hr1
  refine oMq (cstore_New_M1 n _ r1 hr1) [] [320,321,322] ?_
  iterate 5 refine oXq ?_
  refine hK2 _ ?_
  refine Sm.seqK fun K3 hK3=>?_
  refine sX fun K4 hK4=>?_
  iterate 4 refine oX ?_
  refine bif_cases H (fun hs5 H=>?_) (fun hs5 H=>?_)
  · have q:=hs5
    refine oFq ?_
    refine oPl ?_
    refine hK4 _ ?_
    refine cndT ?_
    refine rA ?_
    refine Sm.ret ?_
    refine lf ?_
    obtain rfl:=Option.some.inj H
    exact rt []
  obtain ⟨hg8,H⟩:=gd_some H
  have q:=hs5
  refine oTE stepPN_ok ?_ (hs:=by intro K hK;simp only [z,seval,q,stepPN,ptT];(repeat first | refine gcI ?_ | intro (_:_≤_));exact hK)
  refine oPr ?_
  refine hK4 _ ?_
  refine cndF ?_
  refine Sm.skip ?_
  refine hK3 _ ?_
  refine rA ?_
  refine sX fun K11 hK11=>?_
  obtain ⟨r2,hr2,H⟩:=bind_some H
  have q:=hr2
  iterate 3 refine oX ?_
  refine oMq (cfetch_Put_M1 n _ _ _ _ _ _ r2 hr2) [320,321,322] [] ?_
  iterate 5 refine oXq ?_
  refine hK11 _ ?_
  refine Sm.seqK fun K12 hK12=>?_
  refine rA ?_
  refine cnd H (fun h14 H=>?_) (fun h14 H=>?_)
  · obtain ⟨r3,hr3,H⟩:=bind_some H
    have q:=And.intro @xworks.eq_1 hr3
    refine rAq ?_
    refine Sm.ret ?_
    refine lf ?_
    obtain rfl:=Option.some.inj H
    exact rt []
  refine Sm.skip ?_
  refine hK12 _ ?_
  obtain ⟨hg47,H⟩:=gd_some H
  refine rA ?_
  refine sX fun K17 hK17=>?_
  obtain ⟨r4,hr4,H⟩:=bind_some H
  have q:=hr4
  iterate 4 refine oX ?_
  refine oMq (cstore_Store__Bytes_M1 n _ _ _ _ r4 hr4) [320,321,322] [848] ?_
  refine oXq ?_
  refine hK17 _ ?_
  refine sX fun K18 hK18=>?_
  obtain ⟨r5,hr5,H⟩:=bind_some H
  have q:=hr5
  iterate 3 refine oX ?_
  refine oMq (cfetch_Put_M1 n _ _ _ _ _ _ r5 hr5) [320,321,322] [] ?_
  iterate 5 refine oXq ?_
  refine hK18 _ ?_
  refine sX fun K19 hK19=>?_
  obtain ⟨r6,hr6,H⟩:=bind_some H
  have q:=hr6
  iterate 4 refine oX ?_
  refine oMq (cstore_Store__Bytes_M1 n _ _ _ _ r6 hr6) [320,321,322] [1040] ?_
  refine oXq ?_
  refine hK19 _ ?_
  refine Sm.seqK fun K20 hK20=>?_
  refine rA ?_
  refine cnd H (fun h22 H=>?_) (fun h22 H=>?_)
  · refine rA ?_
    refine Sm.ret ?_
    refine lf ?_
    obtain rfl:=Option.some.inj H
    exact rt []
  refine Sm.skip ?_
  refine hK20 _ ?_
  refine Sm.cut (fun (x:Unit)=>law33_FetchMoves_s1) (fun x=>law33_FetchMoves_k1 n=some r) ?_ ?_
  · refine rA ?_
    refine Sm.block ?_
    obtain ⟨y26,hy26,Ho26⟩:=bind_some H
    refine Sm.loopB _ (fun x=>law33_FetchMoves_t2 m ((gt m.Segments 0).Parent) ((gt m.Segments 0).Origin) ((gt m.Segments 0).From) ((gt m.Segments 0).Len) r4 r6 x) hy26 (wb [some 48,some 176,some 848,some 1040]) ?_
    rintro i z26 H
    try dsimp only at H
    unfold law33_FetchMoves_b2 at H
    refine Sm.st (law33_FetchMoves_t2.eq_1 ..) ?_
    refine Sm.seqK fun K27 hK27=>?_
    refine rA ?_
    refine cnd H (fun h29 H=>?_) (fun h29 H=>?_)
    · refine Sm.skip ?_
      refine hK27 _ ?_
      refine Sm.cut (fun (x:Unit)=>law33_FetchMoves_s3 m ((gt m.Segments 0).Parent) ((gt m.Segments 0).Origin) ((gt m.Segments 0).From) ((gt m.Segments 0).Len) r4 r6 i) (fun x=>law33_FetchMoves_k3 n m ((gt m.Segments 0).Parent) ((gt m.Segments 0).Origin) ((gt m.Segments 0).From) ((gt m.Segments 0).Len) r4 r6 i=some z26) ?_ ?_
      · refine Sm.block ?_
        refine rA ?_
        refine Sm.cut (fun (x:Bool)=>law33_FetchMoves_s4 m ((gt m.Segments 0).Parent) ((gt m.Segments 0).Origin) ((gt m.Segments 0).From) ((gt m.Segments 0).Len) r4 r6 i x) (fun x=>law33_FetchMoves_k4 n m ((gt m.Segments 0).Parent) ((gt m.Segments 0).Origin) ((gt m.Segments 0).From) ((gt m.Segments 0).Len) r4 r6 i x=some z26) ?_ ?_
        · refine rA ?_
          refine Sm.block ?_
          obtain ⟨y39,hy39,Ho39⟩:=bind_some H
          refine Sm.loopB _ (fun x=>law33_FetchMoves_t5 m ((gt m.Segments 0).Parent) ((gt m.Segments 0).Origin) ((gt m.Segments 0).From) ((gt m.Segments 0).Len) r4 r6 i x.1 x.2) hy39 (wb [some 9004,some 9005,some 9006,some 9007]) ?_
          rintro ⟨constant_1,j⟩ z39 H
          try dsimp only at H
          unfold law33_FetchMoves_b5 at H
          refine Sm.st (law33_FetchMoves_t5.eq_1 ..) ?_
          refine Sm.seqK fun K40 hK40=>?_
          refine rA ?_
          refine cnd H (fun h42 H=>?_) (fun h42 H=>?_)
          · refine Sm.skip ?_
            refine hK40 _ ?_
            refine Sm.seqK fun K43 hK43=>?_
            refine Sm.block ?_
            obtain ⟨⟨hg44,hg45,hg46⟩,H⟩:=gd_some H
            refine eD ?_
            refine hK43 _ ?_
            refine eA ?_
            refine lf ?_
            exact nx H (wb [some 9020,some 9021,some 9022,some 9023])
          refine Sm.exit ?_
          refine lf ?_
          refine lx H fun hyy=>?_
          subst hyy
          have H:=Ho39
          try dsimp only at H
          refine lf ?_
          exact ⟨_,H,wb [some 9020,some 9021,some 9022,some 9023]⟩
        rintro constant H
        try dsimp only at H
        unfold law33_FetchMoves_k4 at H
        refine Sm.st (law33_FetchMoves_s4.eq_1 ..) ?_
        obtain ⟨⟨hg34,hg35,hg36,hg37⟩,H⟩:=gd_some H
        refine rD ?_
        refine cnd H (fun h32 H=>?_) (fun h32 H=>?_)
        · refine rA ?_
          refine Sm.ret ?_
          refine lf ?_
          refine lx H fun hyy=>?_
          subst hyy
          have H:=Ho26
          try dsimp only at H
          refine lf ?_
          obtain rfl:=Option.some.inj H
          exact rt []
        refine Sm.skip ?_
        refine lf ?_
        exact ⟨(),H,wb [some 9012,some 9013,some 9014,some 9015]⟩
      rintro ⟨⟩ H
      try dsimp only at H
      unfold law33_FetchMoves_k3 at H
      refine Sm.st (law33_FetchMoves_s3.eq_1 ..) ?_
      refine eA ?_
      refine lf ?_
      exact nx H (wb [some 9008,some 9009,some 9010,some 9011])
    refine Sm.exit ?_
    refine lf ?_
    refine lx H fun hyy=>?_
    subst hyy
    have H:=Ho26
    try dsimp only at H
    refine lf ?_
    exact ⟨(),H,wb []⟩
  rintro ⟨⟩ H
  try dsimp only at H
  unfold law33_FetchMoves_k1 at H
  refine Sm.st (law33_FetchMoves_s1.eq_1 ..) ?_
  obtain ⟨r7,hr7,H⟩:=bind_some H
  have q:=And.intro @xworks.eq_1 hr7
  refine rAq ?_
  refine Sm.ret ?_
  refine lf ?_
  obtain rfl:=Option.some.inj H
  exact rt []
end Go.Proofs.Ytcbcdjincgclaaa
