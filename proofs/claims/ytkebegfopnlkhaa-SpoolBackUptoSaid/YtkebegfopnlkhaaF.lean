/- Text. -/
import Derived.Test.YtkebegfopnlkhaaT
import Derived.Test.YtkebegfopnlkhaaN
import Derived.Test.YtkebegfopnlkhaaI2
set_option maxHeartbeats 8000000
set_option linter.unusedVariables false
set_option linter.unusedSimpArgs false
set_option maxRecDepth 100000
namespace Go.Proofs.Ytkebegfopnlkhaa
open Go.AE
def spool_Tracks_1 (n:Nat) (x_:TLine):Option Bool :=
  some (decide ((x_.Text.length:Int) > 132))
def xspool_Tracks_1 (n:Nat):Go.AE.Fn:=mkFn (A:=TLine) (R:=Bool) 43 [(true,[.int .i64,.str])] false (fun xs=>(⟨(cg (xs.getD 0 []) 0).toInt,(cg (xs.getD 0 []) 1).toStr⟩:TLine)) (fun a=>[[.int a.Ctl,.str a.Text]]) (fun a=>spool_Tracks_1 n a) (fun r=>[.c .bool (.bool r)]) (fun r=>[])
theorem cspool_Tracks_1 (n:Nat):Contract Try.prog (xspool_Tracks_1 n):=by
  have hΓ:=@g0 (Contract Try.prog)
  refine contract_f (Try.f43.body.getD .skip) h00 Try.func43 rfl Try.call43 (by decide) (by intro _ r;exact ⟨rfl,by simp⟩) ?_
  rintro x_ r H
  try dsimp only at H
  unfold spool_Tracks_1 at H
  simp only [Try.f43,Option.getD]
  refine rA ?_
  refine rA ?_
  refine Sm.ret ?_
  refine lf ?_
  obtain rfl:=Option.some.inj H
  exact rt []
def slices_IndexFunc_f68_M1_k1 (n:Nat):Option Int :=
  some (-1)
def slices_IndexFunc_f68_M1_b2 (n:Nat) (s:List TLine) (v7:Int) (v8:Int):Option ((Int) ⊕ (((Int) ⊕ (Unit)))) :=
  bif (decide (v8 < v7)) then
    gd ((0≤v8∧v8 < (s.length:Int))) <|
    (spool_Tracks_1 n (gt s (Int.toNat v8))).bind fun r1 =>
    bif r1 then
      some (.inr (.inl v8))
    else
      some (.inl (IntKind.wrap .i64 (v8+1)))
  else
    some (.inr (.inr ()))
def slices_IndexFunc_f68_M1 (n:Nat) (s:List TLine):Option Int :=
  (loopF (fun (x:Int)=>slices_IndexFunc_f68_M1_b2 n s (s.length:Int) x) n 0).bind fun y4 =>
  match y4 with
  | .inl vv =>
    some vv
  | .inr vv =>
    slices_IndexFunc_f68_M1_k1 n
def slices_ContainsFunc_f42_M1 (n:Nat) (s:List TLine):Option Bool :=
  (slices_IndexFunc_f68_M1 n s).bind fun r1 =>
  some (decide (r1 ≥ 0))
def spool_Tracks_2 (n:Nat) (x_:TLine):Option Bool :=
  some (if (decide (x_.Ctl < 0))=true then true else (decide (x_.Ctl > 255)))
def xspool_Tracks_2 (n:Nat):Go.AE.Fn:=mkFn (A:=TLine) (R:=Bool) 44 [(true,[.int .i64,.str])] false (fun xs=>(⟨(cg (xs.getD 0 []) 0).toInt,(cg (xs.getD 0 []) 1).toStr⟩:TLine)) (fun a=>[[.int a.Ctl,.str a.Text]]) (fun a=>spool_Tracks_2 n a) (fun r=>[.c .bool (.bool r)]) (fun r=>[])
theorem cspool_Tracks_2 (n:Nat):Contract Try.prog (xspool_Tracks_2 n):=by
  have hΓ:=@g0 (Contract Try.prog)
  refine contract_f (Try.f44.body.getD .skip) h00 Try.func44 rfl Try.call44 (by decide) (by intro _ r;exact ⟨rfl,by simp⟩) ?_
  rintro x_ r H
  try dsimp only at H
  unfold spool_Tracks_2 at H
  simp only [Try.f44,Option.getD]
  refine rA ?_
  refine rA ?_
  refine Sm.ret ?_
  refine lf ?_
  obtain rfl:=Option.some.inj H
  exact rt []
def slices_IndexFunc_f68_M2_k1 (n:Nat):Option Int :=
  some (-1)
def slices_IndexFunc_f68_M2_b2 (n:Nat) (s:List TLine) (v7:Int) (v8:Int):Option ((Int) ⊕ (((Int) ⊕ (Unit)))) :=
  bif (decide (v8 < v7)) then
    gd ((0≤v8∧v8 < (s.length:Int))) <|
    (spool_Tracks_2 n (gt s (Int.toNat v8))).bind fun r1 =>
    bif r1 then
      some (.inr (.inl v8))
    else
      some (.inl (IntKind.wrap .i64 (v8+1)))
  else
    some (.inr (.inr ()))
def slices_IndexFunc_f68_M2 (n:Nat) (s:List TLine):Option Int :=
  (loopF (fun (x:Int)=>slices_IndexFunc_f68_M2_b2 n s (s.length:Int) x) n 0).bind fun y4 =>
  match y4 with
  | .inl vv =>
    some vv
  | .inr vv =>
    slices_IndexFunc_f68_M2_k1 n
def slices_ContainsFunc_f42_M2 (n:Nat) (s:List TLine):Option Bool :=
  (slices_IndexFunc_f68_M2 n s).bind fun r1 =>
  some (decide (r1 ≥ 0))
def word_fits (n:Nat) (b:List Int) (at_:Int) (n_:Int):Option Bool :=
  some (if (decide (at_ ≥ 0))=true then (decide (at_≤(IntKind.wrap .i64 ((b.length:Int) - n_)))) else false)
def xword_fits (n:Nat):Go.AE.Fn:=mkFn (A:=(List Int)×Int×Int) (R:=Bool) 87 [(false,[.slice 5]),(false,[.int .i64]),(false,[.int .i64])] false (fun xs=>(((cg (xs.getD 0 []) 0).toSl.map d_Int),(cg (xs.getD 1 []) 0).toInt,(cg (xs.getD 2 []) 0).toInt)) (fun a=>[[.slice (List.map e_Int a.1)],[.int a.2.1],[.int a.2.2]]) (fun a=>word_fits n a.1 a.2.1 a.2.2) (fun r=>[.c .bool (.bool r)]) (fun r=>[])
theorem cword_fits (n:Nat):Contract Try.prog (xword_fits n):=by
  have hΓ:=@g0 (Contract Try.prog)
  refine contract_f (Try.f87.body.getD .skip) h00 Try.func87 rfl Try.call87 (by decide) (by intro _ r;exact ⟨rfl,by simp⟩) ?_
  rintro ⟨b,at_,n_⟩ r H
  try dsimp only at H
  unfold word_fits at H
  simp only [Try.f87,Option.getD]
  refine rA ?_
  refine rA ?_
  refine Sm.ret ?_
  refine lf ?_
  obtain rfl:=Option.some.inj H
  exact rt []
def word_put (n:Nat) (b:List Int) (at_:Int) (field:List Int):Option ((List Int)×Bool) :=
  (word_fits n b at_ (field.length:Int)).bind fun r1 =>
  bif (!r1) then
    some ([],false)
  else
    gd (b.length≤2147483648) <|
    gd ((0≤at_∧at_≤(b.length:Int)∧(b.length:Int)≤(b.length:Int))∧((Int.toNat at_)+(Int.toNat ((b.length:Int) - at_)))≤b.length) <|
    some ((overL b (Int.toNat at_) (List.take (Int.toNat ((b.length:Int) - at_)) field)),true)
def xword_put (n:Nat):Go.AE.Fn:=mkFn (A:=(List Int)×Int×(List Int)) (R:=(List Int)×Bool) 81 [(false,[.slice 5]),(false,[.int .i64]),(false,[.slice 5])] false (fun xs=>(((cg (xs.getD 0 []) 0).toSl.map d_Int),(cg (xs.getD 1 []) 0).toInt,((cg (xs.getD 2 []) 0).toSl.map d_Int))) (fun a=>[[.slice (List.map e_Int a.1)],[.int a.2.1],[.slice (List.map e_Int a.2.2)]]) (fun a=>word_put n a.1 a.2.1 a.2.2) (fun r=>[.own 0 [.int .u8] 0 r.1.length,.c .bool (.bool r.2)]) (fun r=>[.row 5 (List.map e_Int r.1)])
theorem cword_put (n:Nat):Contract Try.prog (xword_put n):=by
  have hΓ:=g1 (cword_fits n) (@g0 (Contract Try.prog))
  refine contract_f (Try.f81.body.getD .skip) h00 Try.func81 rfl Try.call81 (by decide) (fun _ r=>⟨rfl,m1 ⟨5,_,_,rfl,ty5,rfl⟩ m0⟩) ?_
  rintro ⟨b,at_,field⟩ r H
  try dsimp only at H
  unfold word_put at H
  simp only [Try.f81,Option.getD]
  refine rA ?_
  refine Sm.seqK fun K2 hK2=>?_
  obtain ⟨r1,hr1,H⟩:=bind_some H
  have q:=And.intro @xword_fits.eq_1 hr1
  refine rAq ?_
  refine cnd H (fun h4 H=>?_) (fun h4 H=>?_)
  · refine rA ?_
    refine Sm.ret ?_
    refine lf ?_
    obtain rfl:=Option.some.inj H
    exact rto [none]
  refine Sm.skip ?_
  refine hK2 _ ?_
  obtain ⟨hg11,H⟩:=gd_some H
  refine rA ?_
  refine sX fun K7 hK7=>?_
  obtain ⟨⟨hg8,hg9⟩,H⟩:=gd_some H
  iterate 4 refine oX ?_
  refine oE stepV_ok ?_
  refine hK7 _ ?_
  refine rA ?_
  refine Sm.ret ?_
  refine lf ?_
  obtain rfl:=Option.some.inj H
  exact rto [some 256]
def word_PutFull (n:Nat) (b:List Int) (at_:Int) (v:Int):Option ((List Int)×Bool) :=
  (word_put n b at_ [(IntKind.wrap .u8 ((Int.fdiv v (2 ^ min 24 (IntKind.bits .u32))))),(IntKind.wrap .u8 ((Int.fdiv v (2 ^ min 16 (IntKind.bits .u32))))),(IntKind.wrap .u8 ((Int.fdiv v (2 ^ min 8 (IntKind.bits .u32))))),(IntKind.wrap .u8 (v))]).bind fun r1 =>
  some (r1.1,r1.2)
def xword_PutFull (n:Nat):Go.AE.Fn:=mkFn (A:=(List Int)×Int×Int) (R:=(List Int)×Bool) 70 [(false,[.slice 5]),(false,[.int .i64]),(false,[.int .u32])] false (fun xs=>(((cg (xs.getD 0 []) 0).toSl.map d_Int),(cg (xs.getD 1 []) 0).toInt,(cg (xs.getD 2 []) 0).toInt)) (fun a=>[[.slice (List.map e_Int a.1)],[.int a.2.1],[.int a.2.2]]) (fun a=>word_PutFull n a.1 a.2.1 a.2.2) (fun r=>[.own 0 [.int .u8] 0 r.1.length,.c .bool (.bool r.2)]) (fun r=>[.row 5 (List.map e_Int r.1)])
theorem cword_PutFull (n:Nat):Contract Try.prog (xword_PutFull n):=by
  have hΓ:=g1 (cword_put n) (@g0 (Contract Try.prog))
  refine contract_f (Try.f70.body.getD .skip) h00 Try.func70 rfl Try.call70 (by decide) (fun _ r=>⟨rfl,m1 ⟨5,_,_,rfl,ty5,rfl⟩ m0⟩) ?_
  rintro ⟨b,at_,v⟩ r H
  try dsimp only at H
  unfold word_PutFull at H
  simp only [Try.f70,Option.getD]
  refine rA ?_
  refine sX fun K2 hK2=>?_
  obtain ⟨r1,hr1,H⟩:=bind_some H
  have q:=And.intro @xword_put.eq_1 hr1
  iterate 3 refine oXq ?_
  refine oEq stepV_ok ?_
  iterate 2 refine oXq ?_
  refine oEq stepV_ok ?_
  iterate 2 refine oXq ?_
  refine oEq stepV_ok ?_
  iterate 9 refine oXq ?_
  refine hK2 _ ?_
  refine Sm.ret ?_
  refine lf ?_
  obtain rfl:=Option.some.inj H
  exact rto [some 352]
def spool_index (n:Nat) (n_:Int):Option (List Int) :=
  gd ((0≤4∧4≤4∧4≤2147483648)) <|
  (word_PutFull n (zreps 4 0) 0 (IntKind.wrap .u32 (n_))).bind fun r1 =>
  some r1.1
def xspool_index (n:Nat):Go.AE.Fn:=mkFn (A:=Int) (R:=(List Int)) 47 [(false,[.int .i64])] false (fun xs=>(cg (xs.getD 0 []) 0).toInt) (fun a=>[[.int a]]) (fun a=>spool_index n a) (fun r=>[.own 0 [.int .u8] 0 r.length]) (fun r=>[.row 5 (List.map e_Int r)])
theorem cspool_index (n:Nat):Contract Try.prog (xspool_index n):=by
  have hΓ:=g1 (cword_PutFull n) (@g0 (Contract Try.prog))
  refine contract_f (Try.f47.body.getD .skip) h00 Try.func47 rfl Try.call47 (by decide) (fun _ r=>⟨rfl,m1 ⟨5,_,_,rfl,ty5,rfl⟩ m0⟩) ?_
  rintro n_ r H
  try dsimp only at H
  unfold spool_index at H
  simp only [Try.f47,Option.getD]
  refine rA ?_
  refine sX fun K2 hK2=>?_
  obtain ⟨hg3,H⟩:=gd_some H
  obtain ⟨r1,hr1,H⟩:=bind_some H
  have q:=And.intro @xword_PutFull.eq_1 hr1
  refine oYq ?_
  iterate 8 refine oXq ?_
  refine hK2 _ ?_
  refine rA ?_
  refine Sm.ret ?_
  refine lf ?_
  obtain rfl:=Option.some.inj H
  exact rto [some 144]
def slices_Clone_f50_M1 (n:Nat) (s:List TRec) (s_o:Nat) (s_l:Nat):Option (List TRec) :=
  uniB (List.take s_l (List.drop s_o s)) fun nb1 =>
  bif nb1 then
    some []
  else
    gd ((List.take s_l (List.drop s_o s)).length≤2147483648) <|
    some (List.take s_l (List.drop s_o s))
theorem cslices_Clone_f50_M1 (n:Nat) (s:List TRec) (s_o:Nat) (s_l:Nat) (r:(List TRec)) (H:slices_Clone_f50_M1 n s s_o s_l=some r):CallsM Try.prog 50 [.ref (.own 0 [.int .i64,.slice 5,.slice 5,.bool] s_o s_l)] [.row 59 (List.map e_TRec s)] [.own 1 [.int .i64,.slice 5,.slice 5,.bool] 0 r.length] [.row 59 (List.map e_TRec s),.row 59 (List.map e_TRec r)]:=by
  have hΓ:=@g0 (Contract Try.prog)
  refine callsM_of (Try.f50.body.getD .skip) h00 Try.func50 rfl Try.call50 (Nat.le_of_ble_eq_true rfl) (Nat.le_of_ble_eq_true rfl) ?_
  unfold slices_Clone_f50_M1 at H
  simp only [Try.f50,Option.getD]
  refine rA ?_
  refine Sm.seqK fun K2 hK2=>?_
  refine sX fun K3 hK3=>?_
  refine oX ?_
  refine opsN fun K hK=>?_;simp only [z,seval];(repeat (first | refine gcI ?_ | refine fun (_:_≤_)=>?_));intro nb1 hnb1;refine hK _ ?_;clear hK K
  replace H:=uniB_some H nb1 (fun hb=>by simpa using hnb1 hb)
  refine hK3 _ ?_
  refine cnd H (fun h4 H=>?_) (fun h4 H=>?_)
  · refine rA ?_
    refine Sm.ret ?_
    refine lf ?_
    obtain rfl:=Option.some.inj H
    exact rtM [some 0,none]
  refine Sm.skip ?_
  refine hK2 _ ?_
  obtain ⟨hg7,H⟩:=gd_some H
  refine rA ?_
  refine Sm.ret ?_
  refine lf ?_
  obtain rfl:=Option.some.inj H
  exact rtM [some 0,some 112]
abbrev slices_IndexFunc_f68_M1_R_s1:S:=stB [] [(0,.reg)]
abbrev slices_IndexFunc_f68_M1_R_t2 (s:List TLine) (v7:Int) (v8:Int):S:=stB [(0,.rg 0 (.slice 48) (.slice (List.map e_TLine s))),(1,.fnv 43 []),(7,.c (.int .i64) (.int v7)),(8,.c (.int .i64) (.int v8))] [(0,.reg)]
theorem cslices_IndexFunc_f68_M1_R (n:Nat) (s:List TLine) (r:Int) (H:slices_IndexFunc_f68_M1 n s=some r):CallsM Try.prog 68 [.ref (.rg 0 (.slice 48) (.slice (List.map e_TLine s))),.ref (.fnv 43 [])] [.reg] [.c (.int .i64) (.int r)] [.reg]:=by
  have hΓ:=g1 (cspool_Tracks_1 n) (@g0 (Contract Try.prog))
  refine callsM_of (Try.f68.body.getD .skip) h00 Try.func68 rfl Try.call68 (Nat.le_of_ble_eq_true rfl) (Nat.le_of_ble_eq_true rfl) ?_
  unfold slices_IndexFunc_f68_M1 at H
  simp only [Try.f68,Option.getD]
  refine rA ?_
  refine Sm.cut (fun (x:Unit)=>slices_IndexFunc_f68_M1_R_s1) (fun x=>slices_IndexFunc_f68_M1_k1 n=some r) ?_ ?_
  · refine sX fun K3 hK3=>?_
    refine oX ?_
    refine oE stepRg_ok ?_
    refine oX ?_
    refine hK3 _ ?_
    refine Sm.block ?_
    obtain ⟨y4,hy4,Ho4⟩:=bind_some H
    refine Sm.loopB _ (fun x=>slices_IndexFunc_f68_M1_R_t2 s (s.length:Int) x) hy4 (wb [some 0]) ?_
    rintro v8 z4 H
    try dsimp only at H
    unfold slices_IndexFunc_f68_M1_b2 at H
    refine Sm.st (slices_IndexFunc_f68_M1_R_t2.eq_1 ..) ?_
    refine rA ?_
    refine Sm.seqK fun K6 hK6=>?_
    refine cnd H (fun h7 H=>?_) (fun h7 H=>?_)
    · refine Sm.skip ?_
      refine hK6 _ ?_
      refine Sm.seqK fun K8 hK8=>?_
      refine Sm.block ?_
      refine rA ?_
      refine sX fun K10 hK10=>?_
      obtain ⟨hg11,H⟩:=gd_some H
      obtain ⟨r1,hr1,H⟩:=bind_some H
      have q:=And.intro @xspool_Tracks_1.eq_1 hr1
      iterate 3 refine oX ?_
      refine oE stepRg_ok ?_
      refine oE stepRg_ok ?_
      refine oXq ?_
      refine hK10 _ ?_
      refine cnd H (fun h12 H=>?_) (fun h12 H=>?_)
      · refine rA ?_
        refine Sm.ret ?_
        refine lf ?_
        refine lx H fun hyy=>?_
        subst hyy
        have H:=Ho4
        try dsimp only at H
        refine lf ?_
        obtain rfl:=Option.some.inj H
        exact rtM [some 0]
      refine Sm.skip ?_
      refine hK8 _ ?_
      refine eA ?_
      refine lf ?_
      exact nx H (wb [some 0])
    refine Sm.exit ?_
    refine lf ?_
    refine lx H fun hyy=>?_
    subst hyy
    have H:=Ho4
    try dsimp only at H
    refine lf ?_
    exact ⟨(),H,wb [some 0]⟩
  rintro ⟨⟩ H
  try dsimp only at H
  unfold slices_IndexFunc_f68_M1_k1 at H
  refine Sm.st (slices_IndexFunc_f68_M1_R_s1.eq_1 ..) ?_
  refine rA ?_
  refine Sm.ret ?_
  refine lf ?_
  obtain rfl:=Option.some.inj H
  exact rtM [some 0]
theorem cslices_ContainsFunc_f42_M1_R (n:Nat) (s:List TLine) (r:Bool) (H:slices_ContainsFunc_f42_M1 n s=some r):CallsM Try.prog 42 [.ref (.rg 0 (.slice 48) (.slice (List.map e_TLine s))),.ref (.fnv 43 [])] [.reg] [.c .bool (.bool r)] [.reg]:=by
  have hΓ:=@g0 (Contract Try.prog)
  refine callsM_of (Try.f42.body.getD .skip) h00 Try.func42 rfl Try.call42 (Nat.le_of_ble_eq_true rfl) (Nat.le_of_ble_eq_true rfl) ?_
  unfold slices_ContainsFunc_f42_M1 at H
  simp only [Try.f42,Option.getD]
  refine rA ?_
  refine sX fun K2 hK2=>?_
  obtain ⟨r1,hr1,H⟩:=bind_some H
  have q:=hr1
  iterate 2 refine oX ?_
  refine oMq (cslices_IndexFunc_f68_M1_R n _ r1 hr1) [0] [] ?_
  iterate 2 refine oXq ?_
  refine hK2 _ ?_
  refine Sm.ret ?_
  refine lf ?_
  obtain rfl:=Option.some.inj H
  exact rtM [some 0]
abbrev slices_IndexFunc_f68_M2_R_s1:S:=stB [] [(0,.reg)]
abbrev slices_IndexFunc_f68_M2_R_t2 (s:List TLine) (v7:Int) (v8:Int):S:=stB [(0,.rg 0 (.slice 48) (.slice (List.map e_TLine s))),(1,.fnv 44 []),(7,.c (.int .i64) (.int v7)),(8,.c (.int .i64) (.int v8))] [(0,.reg)]
theorem cslices_IndexFunc_f68_M2_R (n:Nat) (s:List TLine) (r:Int) (H:slices_IndexFunc_f68_M2 n s=some r):CallsM Try.prog 68 [.ref (.rg 0 (.slice 48) (.slice (List.map e_TLine s))),.ref (.fnv 44 [])] [.reg] [.c (.int .i64) (.int r)] [.reg]:=by
  have hΓ:=g1 (cspool_Tracks_2 n) (@g0 (Contract Try.prog))
  refine callsM_of (Try.f68.body.getD .skip) h00 Try.func68 rfl Try.call68 (Nat.le_of_ble_eq_true rfl) (Nat.le_of_ble_eq_true rfl) ?_
  unfold slices_IndexFunc_f68_M2 at H
  simp only [Try.f68,Option.getD]
  refine rA ?_
  refine Sm.cut (fun (x:Unit)=>slices_IndexFunc_f68_M2_R_s1) (fun x=>slices_IndexFunc_f68_M2_k1 n=some r) ?_ ?_
  · refine sX fun K3 hK3=>?_
    refine oX ?_
    refine oE stepRg_ok ?_
    refine oX ?_
    refine hK3 _ ?_
    refine Sm.block ?_
    obtain ⟨y4,hy4,Ho4⟩:=bind_some H
    refine Sm.loopB _ (fun x=>slices_IndexFunc_f68_M2_R_t2 s (s.length:Int) x) hy4 (wb [some 0]) ?_
    rintro v8 z4 H
    try dsimp only at H
    unfold slices_IndexFunc_f68_M2_b2 at H
    refine Sm.st (slices_IndexFunc_f68_M2_R_t2.eq_1 ..) ?_
    refine rA ?_
    refine Sm.seqK fun K6 hK6=>?_
    refine cnd H (fun h7 H=>?_) (fun h7 H=>?_)
    · refine Sm.skip ?_
      refine hK6 _ ?_
      refine Sm.seqK fun K8 hK8=>?_
      refine Sm.block ?_
      refine rA ?_
      refine sX fun K10 hK10=>?_
      obtain ⟨hg11,H⟩:=gd_some H
      obtain ⟨r1,hr1,H⟩:=bind_some H
      have q:=And.intro @xspool_Tracks_2.eq_1 hr1
      iterate 3 refine oX ?_
      refine oE stepRg_ok ?_
      refine oE stepRg_ok ?_
      refine oXq ?_
      refine hK10 _ ?_
      refine cnd H (fun h12 H=>?_) (fun h12 H=>?_)
      · refine rA ?_
        refine Sm.ret ?_
        refine lf ?_
        refine lx H fun hyy=>?_
        subst hyy
        have H:=Ho4
        try dsimp only at H
        refine lf ?_
        obtain rfl:=Option.some.inj H
        exact rtM [some 0]
      refine Sm.skip ?_
      refine hK8 _ ?_
      refine eA ?_
      refine lf ?_
      exact nx H (wb [some 0])
    refine Sm.exit ?_
    refine lf ?_
    refine lx H fun hyy=>?_
    subst hyy
    have H:=Ho4
    try dsimp only at H
    refine lf ?_
    exact ⟨(),H,wb [some 0]⟩
  rintro ⟨⟩ H
  try dsimp only at H
  unfold slices_IndexFunc_f68_M2_k1 at H
  refine Sm.st (slices_IndexFunc_f68_M2_R_s1.eq_1 ..) ?_
  refine rA ?_
  refine Sm.ret ?_
  refine lf ?_
  obtain rfl:=Option.some.inj H
  exact rtM [some 0]
theorem cslices_ContainsFunc_f42_M2_R (n:Nat) (s:List TLine) (r:Bool) (H:slices_ContainsFunc_f42_M2 n s=some r):CallsM Try.prog 42 [.ref (.rg 0 (.slice 48) (.slice (List.map e_TLine s))),.ref (.fnv 44 [])] [.reg] [.c .bool (.bool r)] [.reg]:=by
  have hΓ:=@g0 (Contract Try.prog)
  refine callsM_of (Try.f42.body.getD .skip) h00 Try.func42 rfl Try.call42 (Nat.le_of_ble_eq_true rfl) (Nat.le_of_ble_eq_true rfl) ?_
  unfold slices_ContainsFunc_f42_M2 at H
  simp only [Try.f42,Option.getD]
  refine rA ?_
  refine sX fun K2 hK2=>?_
  obtain ⟨r1,hr1,H⟩:=bind_some H
  have q:=hr1
  iterate 2 refine oX ?_
  refine oMq (cslices_IndexFunc_f68_M2_R n _ r1 hr1) [0] [] ?_
  iterate 2 refine oXq ?_
  refine hK2 _ ?_
  refine Sm.ret ?_
  refine lf ?_
  obtain rfl:=Option.some.inj H
  exact rtM [some 0]
def spool_Tracks_k2 (n:Nat) (out:List (List TRec)):Option ((List (List TRec))×Int) :=
  some (out,0)
def spool_Tracks_k4 (n:Nat) (out_1:List (List TRec)) (b1:List TRec) (t_2:Nat) (t_3:Nat):Option ((List (List TRec))×(List TRec)) :=
  (slices_Clone_f50_M1 n b1 t_2 t_3).bind fun r3 =>
  gd ((out_1.length+1)≤2147483648) <|
  some ((out_1 ++ [r3]),b1)
def spool_Tracks_b5 (n:Nat) (out_1:List (List TRec)) (t_4:Nat) (t_5:Nat) (v59:Int) (b1_1:List TRec) (v60:Int):Option (((List TRec)×Int) ⊕ (((List TRec)))) :=
  bif (decide (v60 < v59)) then
    gd ((0≤v60∧v60 < (t_5:Int))∧(t_4+(Int.toNat v60)) < b1_1.length) <|
    some (.inl ((List.set b1_1 (t_4+(Int.toNat v60)) (⟨(IntKind.wrap .i64 (v60+1)),(gt b1_1 (t_4+(Int.toNat v60))).Key,(gt b1_1 (t_4+(Int.toNat v60))).Data,(gt b1_1 (t_4+(Int.toNat v60))).Bad⟩:TRec)),(IntKind.wrap .i64 (v60+1))))
  else
    some (.inr b1_1)
def spool_Tracks_b3 (n:Nat) (out_1:List (List TRec)) (v55:List TRec) (t:Nat) (t_1:Nat):Option ((List (List TRec))×(List TRec)) :=
  (loopF (fun (x:(List TRec)×Int)=>spool_Tracks_b5 n out_1 t t_1 ((t_1:Nat):Int) x.1 x.2) n (v55,0)).bind fun y21 =>
  spool_Tracks_k4 n out_1 y21 t t_1
def spool_Tracks_k1 (n:Nat) (records:List TRec):Option ((List (List TRec))×Int) :=
  gd (List.map szRec records=(List.map szRec records)) <|
  (rangeL (fun (x:(List (List TRec))×(List TRec)) (e:Nat×Nat)=>(spool_Tracks_b3 n x.1 x.2 e.1 (e.2 - e.1)).bind fun x2=>gd (List.map szRec x2.2=(List.map szRec records)) (some x2)) ([],records) (divP (List.map szRec records) 2048)).bind fun y18 =>
  spool_Tracks_k2 n y18.1
def spool_Tracks_k7 (n:Nat) (records_1:List TRec) (l:List TLine) (b:List Int):Option (List TRec) :=
  gd ((records_1.length+1)≤2147483648) <|
  some (records_1 ++ [(⟨0,[],b,false⟩:TRec)])
def spool_Tracks_b8 (n:Nat) (records_1:List TRec) (l:List TLine) (group:List TLine) (v30:Int) (b_1:List Int) (v31:Int):Option (((List Int)×Int) ⊕ (((List Int)))) :=
  bif (decide (v31 < v30)) then
    gd ((0≤v31∧v31 < (group.length:Int))) <|
    gd ((b_1.length+2)≤2147483648∧((b_1.length+2)+((gt group (Int.toNat v31)).Text).length)≤2147483648) <|
    some (.inl (((b_1 ++ [(IntKind.wrap .u8 ((gt group (Int.toNat v31)).Ctl)),(IntKind.wrap .u8 ((((gt group (Int.toNat v31)).Text).length:Int)))]) ++ (fromStr8 ((gt group (Int.toNat v31)).Text))),(IntKind.wrap .i64 (v31+1))))
  else
    some (.inr b_1)
def spool_Tracks_b6 (n:Nat) (records_1:List TRec) (l:List TLine) (at_:Int) (group:List TLine):Option (List TRec) :=
  (spool_index n at_).bind fun r4 =>
  (loopF (fun (x:(List Int)×Int)=>spool_Tracks_b8 n records_1 l group (group.length:Int) x.1 x.2) n (r4,0)).bind fun y35 =>
  spool_Tracks_k7 n records_1 l y35
def spool_Tracks (n:Nat) (l:List TLine):Option ((List (List TRec))×Int) :=
  bif (decide ((l.length:Int) > 4096)) then
    some ([],2)
  else
    gd ((!(decide ((l.length:Int) > 4096)))=true) <|
    (slices_ContainsFunc_f42_M1 n l).bind fun r1 =>
    bif r1 then
      some ([],2)
    else
      (slices_ContainsFunc_f42_M2 n l).bind fun r2 =>
      bif r2 then
        some ([],1)
      else
        (rangeL (fun (x:(List TRec)) (e_:Nat×Nat)=>spool_Tracks_b6 n x l (e_.1:Int) (List.take (e_.2 - e_.1) (List.drop e_.1 l))) [] (divP (List.map szLine l) 1020)).bind fun y30 =>
        spool_Tracks_k1 n y30
abbrev spool_Tracks_R_s2 (out:List (List TRec)):S:=stB [(10,.box 9002 0)] [(0,.reg),(9002,.box [.own 9003 [.slice 59] 0 out.length]),(9003,.row 57 (List.map e_LTRec out))]
abbrev spool_Tracks_R_t3 (out_1:List (List TRec)) (v55:List TRec):S:=stB [(10,.box 1 0),(55,.fnv 71 [.box 2 0,.box 3 0,.box 4 0])] [(0,.reg),(1,.box [.own 9007 [.slice 59] 0 out_1.length]),(9007,.row 57 (List.map e_LTRec out_1)),(2,.box [.own 9008 [.int .i64,.slice 5,.slice 5,.bool] 0 v55.length]),(9008,.row 59 (List.map e_TRec v55)),(3,.box [.c (.int .i64) (.int 2048)]),(4,.box [.fnv 49 []])]
abbrev spool_Tracks_R_u3 (out_1:List (List TRec)) (v55:List TRec):S:=stB [] [(0,.reg),(1,.box [.own 9007 [.slice 59] 0 out_1.length]),(9007,.row 57 (List.map e_LTRec out_1)),(2,.box [.own 9008 [.int .i64,.slice 5,.slice 5,.bool] 0 v55.length]),(9008,.row 59 (List.map e_TRec v55)),(3,.box [.c (.int .i64) (.int 2048)]),(4,.box [.fnv 49 []])]
abbrev spool_Tracks_R_a3 (out_1:List (List TRec)) (v55:List TRec) (t:Nat) (t_1:Nat):S:=stB [(10,.box 1 0),(12,.own 9010 [.int .i64,.slice 5,.slice 5,.bool] t t_1)] [(0,.reg),(1,.box [.own 9009 [.slice 59] 0 out_1.length]),(9009,.row 57 (List.map e_LTRec out_1)),(2,.box [.own 9010 [.int .i64,.slice 5,.slice 5,.bool] 0 v55.length]),(9010,.row 59 (List.map e_TRec v55)),(3,.box [.c (.int .i64) (.int 2048)]),(4,.box [.fnv 49 []])]
abbrev spool_Tracks_R_s4 (out_1:List (List TRec)) (b2:List TRec) (t_2:Nat) (t_3:Nat):S:=stB [(10,.box 1 0),(12,.own 9012 [.int .i64,.slice 5,.slice 5,.bool] t_2 t_3)] [(0,.reg),(1,.box [.own 9011 [.slice 59] 0 out_1.length]),(9011,.row 57 (List.map e_LTRec out_1)),(2,.box [.own 9012 [.int .i64,.slice 5,.slice 5,.bool] 0 b2.length]),(9012,.row 59 (List.map e_TRec b2)),(3,.box [.c (.int .i64) (.int 2048)]),(4,.box [.fnv 49 []])]
abbrev spool_Tracks_R_t5 (out_1:List (List TRec)) (t_4:Nat) (t_5:Nat) (v59:Int) (b2_1:List TRec) (v60:Int):S:=stB [(10,.box 1 0),(12,.own 9016 [.int .i64,.slice 5,.slice 5,.bool] t_4 t_5),(59,.c (.int .i64) (.int v59)),(60,.c (.int .i64) (.int v60))] [(0,.reg),(1,.box [.own 9015 [.slice 59] 0 out_1.length]),(9015,.row 57 (List.map e_LTRec out_1)),(2,.box [.own 9016 [.int .i64,.slice 5,.slice 5,.bool] 0 b2_1.length]),(9016,.row 59 (List.map e_TRec b2_1)),(3,.box [.c (.int .i64) (.int 2048)]),(4,.box [.fnv 49 []])]
abbrev spool_Tracks_R_s1 (records:List TRec):S:=stB [(4,.box 9000 0)] [(0,.reg),(9000,.box [.own 9001 [.int .i64,.slice 5,.slice 5,.bool] 0 records.length]),(9001,.row 59 (List.map e_TRec records))]
abbrev spool_Tracks_R_t6 (l:List TLine) (records_1:List TRec):S:=stB [(4,.box 1 0),(24,.fnv 69 [.box 2 0,.box 3 0,.box 4 0])] [(0,.reg),(1,.box [.own 9018 [.int .i64,.slice 5,.slice 5,.bool] 0 records_1.length]),(9018,.row 59 (List.map e_TRec records_1)),(2,.box [.rg 0 (.slice 48) (.slice (List.map e_TLine l))]),(3,.box [.c (.int .i64) (.int 1020)]),(4,.box [.fnv 46 []])]
abbrev spool_Tracks_R_u6 (l:List TLine) (records_1:List TRec):S:=stB [] [(0,.reg),(1,.box [.own 9018 [.int .i64,.slice 5,.slice 5,.bool] 0 records_1.length]),(9018,.row 59 (List.map e_TRec records_1)),(2,.box [.rg 0 (.slice 48) (.slice (List.map e_TLine l))]),(3,.box [.c (.int .i64) (.int 1020)]),(4,.box [.fnv 46 []])]
abbrev spool_Tracks_R_a6 (records_1:List TRec) (l:List TLine) (at_:Int) (group:List TLine):S:=stB [(4,.box 1 0),(5,.c (.int .i64) (.int at_)),(6,.rg 0 (.slice 48) (.slice (List.map e_TLine group)))] [(0,.reg),(1,.box [.own 9019 [.int .i64,.slice 5,.slice 5,.bool] 0 records_1.length]),(9019,.row 59 (List.map e_TRec records_1)),(2,.box [.rg 0 (.slice 48) (.slice (List.map e_TLine l))]),(3,.box [.c (.int .i64) (.int 1020)]),(4,.box [.fnv 46 []])]
abbrev spool_Tracks_R_s7 (records_1:List TRec) (l:List TLine) (b:List Int):S:=stB [(4,.box 1 0),(7,.own 9021 [.int .u8] 0 b.length)] [(0,.reg),(1,.box [.own 9020 [.int .i64,.slice 5,.slice 5,.bool] 0 records_1.length]),(9020,.row 59 (List.map e_TRec records_1)),(2,.box [.rg 0 (.slice 48) (.slice (List.map e_TLine l))]),(3,.box [.c (.int .i64) (.int 1020)]),(4,.box [.fnv 46 []]),(9021,.row 5 (List.map e_Int b))]
abbrev spool_Tracks_R_t8 (records_1:List TRec) (l:List TLine) (group:List TLine) (v30:Int) (b_1:List Int) (v31:Int):S:=stB [(4,.box 1 0),(7,.own 9025 [.int .u8] 0 b_1.length),(29,.rg 0 (.slice 48) (.slice (List.map e_TLine group))),(30,.c (.int .i64) (.int v30)),(31,.c (.int .i64) (.int v31))] [(0,.reg),(1,.box [.own 9024 [.int .i64,.slice 5,.slice 5,.bool] 0 records_1.length]),(9024,.row 59 (List.map e_TRec records_1)),(2,.box [.rg 0 (.slice 48) (.slice (List.map e_TLine l))]),(3,.box [.c (.int .i64) (.int 1020)]),(4,.box [.fnv 46 []]),(9025,.row 5 (List.map e_Int b_1))]
theorem cspool_Tracks_R (n:Nat) (l:List TLine) (r:(List (List TRec))×Int) (H:spool_Tracks n l=some r):CallsM Try.prog 21 [.ref (.rg 0 (.slice 48) (.slice (List.map e_TLine l)))] [.reg] [.own 1 [.slice 59] 0 r.1.length,.c (.int .i64) (.int r.2)] [.reg,.row 57 (List.map e_LTRec r.1)]:=by
  have hΓ:=g1 (cspool_index n) (@g0 (Contract Try.prog))
  refine callsM_of (Try.f21.body.getD .skip) h00 Try.func21 rfl Try.call21 (Nat.le_of_ble_eq_true rfl) (Nat.le_of_ble_eq_true rfl) ?_
  unfold spool_Tracks at H
  simp only [Try.f21,Option.getD]
  refine rA ?_
  refine Sm.seqK fun K2 hK2=>?_
  refine sX fun K3 hK3=>?_
  refine oX ?_
  refine oE stepRg_ok ?_
  iterate 3 refine oX ?_
  refine bif_cases H (fun hs4 H=>?_) (fun hs4 H=>?_)
  · have q:=hs4
    refine oFq ?_
    refine oPl ?_
    refine hK3 _ ?_
    refine cndT ?_
    refine rA ?_
    refine Sm.ret ?_
    refine lf ?_
    obtain rfl:=Option.some.inj H
    exact rtM [some 0,none]
  obtain ⟨hg7,H⟩:=gd_some H
  obtain ⟨r1,hr1,H⟩:=bind_some H
  have q:=And.intro hs4 hr1
  refine oTM (cslices_ContainsFunc_f42_M1_R n _ r1 hr1) [0] [] ?_
  refine oPr ?_
  refine hK3 _ ?_
  refine cnd H (fun h8 H=>?_) (fun h8 H=>?_)
  · refine rA ?_
    refine Sm.ret ?_
    refine lf ?_
    obtain rfl:=Option.some.inj H
    exact rtM [some 0,none]
  refine Sm.skip ?_
  refine hK2 _ ?_
  refine Sm.seqK fun K10 hK10=>?_
  refine sX fun K11 hK11=>?_
  obtain ⟨r2,hr2,H⟩:=bind_some H
  have q:=hr2
  refine oX ?_
  refine oMq (cslices_ContainsFunc_f42_M2_R n _ r2 hr2) [0] [] ?_
  refine hK11 _ ?_
  refine cnd H (fun h12 H=>?_) (fun h12 H=>?_)
  · refine rA ?_
    refine Sm.ret ?_
    refine lf ?_
    obtain rfl:=Option.some.inj H
    exact rtM [some 0,none]
  refine Sm.skip ?_
  refine hK10 _ ?_
  refine rA ?_
  refine Sm.cut (fun (x:(List TRec))=>spool_Tracks_R_s1 x) (fun x=>spool_Tracks_k1 n x=some r) ?_ ?_
  · refine sX fun K29 hK29=>?_
    refine oX ?_
    refine opsE (stepC_ok maker45) fun K hK=>?_;simp only [z,seval];(repeat (first | refine gcI ?_ | refine fun (_:_≤_)=>?_));refine hK _ ?_;clear hK K
    refine hK29 _ ?_
    refine Sm.block ?_
    obtain ⟨y30,hy30,H⟩:=bind_some H
    refine Sm.rangeL 5 (fun (x:(List TRec))=>spool_Tracks_R_t6 l x) (fun (x:(List TRec))=>spool_Tracks_R_u6 l x) (fun (x:(List TRec)) (e_:Nat×Nat)=>spool_Tracks_R_a6 x l (e_.1:Int) (List.take (e_.2 - e_.1) (List.drop e_.1 l))) (fun (x:(List TRec)) (e_:Nat×Nat)=>spool_Tracks_b6 n x l (e_.1:Int) (List.take (e_.2 - e_.1) (List.drop e_.1 l))) [] (divP (List.map szLine l) 1020) (fun (e_:Nat×Nat)=>[.c (.int .i64) (.int (e_.1:Int)),.rg 0 (.slice 48) (.slice (List.map e_TLine (List.take (e_.2 - e_.1) (List.drop e_.1 l))))]) (res:=y30) hy30 ?_ (by decide) (fun x=>⟨rfl,rfl,rfl⟩) (low_stB (by rfl)) rfl rfl (iter69R 2 3 4 0 l 1020) (fun (x:(List TRec))=>True) trivial ?_ (fun _=>rfl) (by decide) (fun _=>noMap_stB rfl) (fun _ _=>noMap_stB rfl) ?_ ?_ ?_
    · exact wb [some 0,some 64,none,some 384,some 385,some 386]
    · rintro records_1 hox
      refine ⟨?_,?_,?_,?_⟩ <;> simp only [z,seval,spool_Tracks_R_t6]
    · rintro records_1 e_ x2 hox H
      clear H
      simp only [spool_Tracks_R_t6]
      refine rA ?_
      refine eA ?_
      exact ⟨by first | rfl | trivial,wb [some 0,some 1,some 9018,some 2,some 3,some 4]⟩
    · rintro records_1 e_ x2 hox H
      try dsimp only at H
      unfold spool_Tracks_b6 at H
      simp only [spool_Tracks_R_a6]
      refine Sm.block ?_
      obtain ⟨r4,hr4,H⟩:=bind_some H
      have q:=And.intro @xspool_index.eq_1 hr4
      refine rAq ?_
      refine Sm.cut (fun (x:(List Int))=>spool_Tracks_R_s7 records_1 l x) (fun x=>spool_Tracks_k7 n records_1 l x=some x2) ?_ ?_
      · refine sX fun K34 hK34=>?_
        refine oX ?_
        refine oE stepRg_ok ?_
        refine oX ?_
        refine hK34 _ ?_
        refine Sm.block ?_
        obtain ⟨y35,hy35,Ho35⟩:=bind_some H
        refine Sm.loopB _ (fun x=>spool_Tracks_R_t8 records_1 l (List.take (e_.2 - e_.1) (List.drop e_.1 l)) ((List.take (e_.2 - e_.1) (List.drop e_.1 l)).length:Int) x.1 x.2) hy35 (wb [some 0,some 1,some 9019,some 2,some 3,some 4,some 448]) ?_
        rintro ⟨b_1,v31⟩ z35 H
        try dsimp only at H
        unfold spool_Tracks_b8 at H
        refine Sm.st (spool_Tracks_R_t8.eq_1 ..) ?_
        refine rA ?_
        refine Sm.seqK fun K37 hK37=>?_
        refine cnd H (fun h38 H=>?_) (fun h38 H=>?_)
        · refine Sm.skip ?_
          refine hK37 _ ?_
          refine Sm.seqK fun K39 hK39=>?_
          refine Sm.block ?_
          refine sX fun K40 hK40=>?_
          obtain ⟨hg41,H⟩:=gd_some H
          refine oE stepRg_ok ?_
          refine oE stepRg_ok ?_
          iterate 2 refine oX ?_
          refine hK40 _ ?_
          obtain ⟨⟨hg42,hg43⟩,H⟩:=gd_some H
          refine eQ [0,1,2,3,4,5,6,7,8,9,10,11,12,13] [(none,[],[]),(none,[144],[]),(none,[144],[]),(none,[],[]),(none,[144],[]),(none,[144],[]),(none,[],[]),(none,[],[]),(none,[],[688]),(none,[688,9025],[704,9025]),(none,[144],[]),(none,[144],[]),(none,[1000001,704],[752,704]),(none,[],[])] ?_
          iterate 12 refine oQ ?_
          refine oQV ?_
          refine oQ ?_
          refine opsQ0 ?_
          refine hK39 _ ?_
          refine eA ?_
          refine lf ?_
          exact nx H (wb [some 0,some 1,some 9024,some 2,some 3,some 4,some 752])
        refine Sm.exit ?_
        refine lf ?_
        refine lx H fun hyy=>?_
        subst hyy
        have H:=Ho35
        try dsimp only at H
        refine lf ?_
        exact ⟨_,H,wb [some 0,some 1,some 9024,some 2,some 3,some 4,some 9025]⟩
      rintro b H
      try dsimp only at H
      unfold spool_Tracks_k7 at H
      refine Sm.st (spool_Tracks_R_s7.eq_1 ..) ?_
      obtain ⟨hg33,H⟩:=gd_some H
      refine eA ?_
      refine lf ?_
      obtain rfl:=Option.some.inj H
      exact ⟨by first | rfl | trivial,trivial,wb [some 0,some 1,some 848,some 2,some 3,some 4]⟩
    refine lf ?_
    exact ⟨_,H,wb [some 0,some 1,some 9018]⟩
  rintro records H
  try dsimp only at H
  unfold spool_Tracks_k1 at H
  refine Sm.st (spool_Tracks_R_s1.eq_1 ..) ?_
  refine rA ?_
  refine Sm.cut (fun (x:(List (List TRec)))=>spool_Tracks_R_s2 x) (fun x=>spool_Tracks_k2 n x=some r) ?_ ?_
  · refine sX fun K17 hK17=>?_
    refine oX ?_
    refine opsE (stepC_ok maker48) fun K hK=>?_;simp only [z,seval];(repeat (first | refine gcI ?_ | refine fun (_:_≤_)=>?_));refine hK _ ?_;clear hK K
    refine hK17 _ ?_
    refine Sm.block ?_
    obtain ⟨hg0,H⟩:=gd_some H
    obtain ⟨y18,hy18,H⟩:=bind_some H
    refine Sm.rangeL 5 (fun (x:(List (List TRec))×(List TRec))=>spool_Tracks_R_t3 x.1 x.2) (fun (x:(List (List TRec))×(List TRec))=>spool_Tracks_R_u3 x.1 x.2) (fun (x:(List (List TRec))×(List TRec)) (e:Nat×Nat)=>spool_Tracks_R_a3 x.1 x.2 e.1 (e.2 - e.1)) (fun (x:(List (List TRec))×(List TRec)) (e:Nat×Nat)=>(spool_Tracks_b3 n x.1 x.2 e.1 (e.2 - e.1)).bind fun x2=>gd (List.map szRec x2.2=(List.map szRec records)) (some x2)) ([],records) (divP (List.map szRec records) 2048) (fun (e:Nat×Nat)=>[.c (.int .i64) (.int (e.1:Int)),.own 9008 [.int .i64,.slice 5,.slice 5,.bool] e.1 (e.2 - e.1)]) (res:=y18) hy18 ?_ (by decide) (fun x=>⟨rfl,rfl,rfl⟩) (low_stB (by rfl)) rfl rfl (iter71 2 3 4 9008 (List.map szRec records) 2048) (fun (x:(List (List TRec))×(List TRec))=>List.map szRec x.2=(List.map szRec records)) hg0 ?_ (fun _=>rfl) (by decide) (fun _=>noMap_stB rfl) (fun _ _=>noMap_stB rfl) ?_ ?_ ?_
    · exact wb [some 0,some 160,none,some 880,some 9001,some 881,some 882]
    · rintro ⟨out_1,v55⟩ hox
      refine ⟨?_,?_,v55,?_,?_,hox⟩ <;> simp only [z,seval,spool_Tracks_R_t3]
    · rintro ⟨out_1,v55⟩ e x2 hox H
      clear H
      simp only [spool_Tracks_R_t3]
      refine eA ?_
      exact ⟨by first | rfl | trivial,wb [some 0,some 1,some 9007,some 2,some 9008,some 3,some 4]⟩
    · rintro ⟨out_1,v55⟩ e x2 hox H
      try dsimp only at H
      obtain ⟨H,hga⟩:=bind_gd H
      unfold spool_Tracks_b3 at H
      simp only [spool_Tracks_R_a3]
      refine Sm.block ?_
      refine Sm.cut (fun (x:(List TRec)×Nat×Nat)=>spool_Tracks_R_s4 out_1 x.1 x.2.1 x.2.2) (fun x=>spool_Tracks_k4 n out_1 x.1 x.2.1 x.2.2=some x2) ?_ ?_
      · refine rA ?_
        refine Sm.block ?_
        obtain ⟨y21,hy21,Ho21⟩:=bind_some H
        refine Sm.loopB _ (fun x=>spool_Tracks_R_t5 out_1 e.1 (e.2 - e.1) (((e.2 - e.1):Nat):Int) x.1 x.2) hy21 (wb [some 0,some 1,some 9009,some 2,some 9010,some 3,some 4]) ?_
        rintro ⟨b2_1,v60⟩ z21 H
        try dsimp only at H
        unfold spool_Tracks_b5 at H
        refine Sm.st (spool_Tracks_R_t5.eq_1 ..) ?_
        refine rA ?_
        refine Sm.seqK fun K23 hK23=>?_
        refine cnd H (fun h24 H=>?_) (fun h24 H=>?_)
        · refine Sm.skip ?_
          refine hK23 _ ?_
          refine Sm.seqK fun K25 hK25=>?_
          refine Sm.block ?_
          refine rA ?_
          obtain ⟨⟨hg27,hg28⟩,H⟩:=gd_some H
          refine eA ?_
          refine hK25 _ ?_
          refine eA ?_
          refine lf ?_
          exact nx H (wb [some 0,some 1,some 9015,some 2,some 9016,some 3,some 4])
        refine Sm.exit ?_
        refine lf ?_
        refine lx H fun hyy=>?_
        subst hyy
        have H:=Ho21
        try dsimp only at H
        refine lf ?_
        exact ⟨(b2_1,e.1,(e.2 - e.1)),H,wb [some 0,some 1,some 9015,some 2,some 9016,some 3,some 4]⟩
      rintro ⟨b2,t_2,t_3⟩ H
      try dsimp only at H
      unfold spool_Tracks_k4 at H
      refine Sm.st (spool_Tracks_R_s4.eq_1 ..) ?_
      obtain ⟨r3,hr3,H⟩:=bind_some H
      obtain ⟨hg19,H⟩:=gd_some H
      refine Sm.regT h00 mixed hΓ (by kernel_rfl) ?_
      refine wpT_node 0 [1] (by kernel_rfl) ?_
      simp only [rs]
      refine ⟨?_,?_,trivial⟩
      · refine opsX fun K hK=>?_;simp only [z,seval,hr3];(repeat (first | refine gcI ?_ | refine fun (_:_≤_)=>?_));refine hK _ ?_;clear hK K
        refine opsX0 ?_
        refine wpT_node 1 [] (by kernel_rfl) ?_
        simp only [rs]
        refine ⟨?_,trivial⟩
        refine opsX fun K hK=>?_;simp only [z,seval,hr3];(repeat (first | refine gcI ?_ | refine fun (_:_≤_)=>?_));refine hK _ ?_;clear hK K
        refine opsX0 ?_
        refine wpT_node 2 [] (by kernel_rfl) ?_
        simp only [rs]
        refine ⟨?_,trivial⟩
        refine opsM (cslices_Clone_f50_M1 n _ _ _ r3 hr3) [9012] [1152] (by simp only [z,seval,hr3];try rfl) (by simp only [z,seval,hr3]) (by simp only [z,seval,hr3]) (by simp only [z,seval,hr3]) (by simp only [z,seval,hr3]) rfl (by simp only [z,seval,hr3]) rfl ?_
        refine opsX0 ?_
        refine wpT_node 3 [] (by kernel_rfl) ?_
        simp only [rs]
        refine ⟨?_,trivial⟩
        refine opsX fun K hK=>?_;simp only [z,seval,hr3];(repeat (first | refine gcI ?_ | refine fun (_:_≤_)=>?_));refine hK _ ?_;clear hK K
        refine opsX0 ?_
        refine wpT_node 4 [] (by kernel_rfl) ?_
        simp only [rs]
        refine ⟨?_,trivial⟩
        refine opsX fun K hK=>?_;simp only [z,seval,hr3];(repeat (first | refine gcI ?_ | refine fun (_:_≤_)=>?_));refine hK _ ?_;clear hK K
        refine opsX0 ?_
        refine wpT_node 5 [] (by kernel_rfl) ?_
        simp only [rs]
        refine ⟨?_,trivial⟩
        refine opsX fun K hK=>?_;simp only [z,seval,hr3];(repeat (first | refine gcI ?_ | refine fun (_:_≤_)=>?_));refine hK _ ?_;clear hK K
        refine opsX0 ?_
        refine ⟨by kernel_rfl,?_⟩
        refine lf ?_
        obtain rfl:=Option.some.inj H
        exact ⟨by first | rfl | trivial,hga,wb [some 0,some 1,some 1184,some 2,some 9012,some 3,some 4]⟩
      · refine opsX fun K hK=>?_;simp only [z,seval,hr3];(repeat (first | refine gcI ?_ | refine fun (_:_≤_)=>?_));refine hK _ ?_;clear hK K
        refine opsX0 ?_
        refine wpT_node 0 [2] (by kernel_rfl) ?_
        simp only [rs]
        refine ⟨?_,?_,trivial⟩
        · refine opsX fun K hK=>?_;simp only [z,seval,hr3];(repeat (first | refine gcI ?_ | refine fun (_:_≤_)=>?_));refine hK _ ?_;clear hK K
          refine opsX0 ?_
          refine wpT_node 2 [] (by kernel_rfl) ?_
          simp only [rs]
          refine ⟨?_,trivial⟩
          refine opsM (cslices_Clone_f50_M1 n _ _ _ r3 hr3) [9012] [1152] (by simp only [z,seval,hr3];try rfl) (by simp only [z,seval,hr3]) (by simp only [z,seval,hr3]) (by simp only [z,seval,hr3]) (by simp only [z,seval,hr3]) rfl (by simp only [z,seval,hr3]) rfl ?_
          refine opsX0 ?_
          refine wpT_node 3 [] (by kernel_rfl) ?_
          simp only [rs]
          refine ⟨?_,trivial⟩
          refine opsX fun K hK=>?_;simp only [z,seval,hr3];(repeat (first | refine gcI ?_ | refine fun (_:_≤_)=>?_));refine hK _ ?_;clear hK K
          refine opsX0 ?_
          refine wpT_node 4 [] (by kernel_rfl) ?_
          simp only [rs]
          refine ⟨?_,trivial⟩
          refine opsX fun K hK=>?_;simp only [z,seval,hr3];(repeat (first | refine gcI ?_ | refine fun (_:_≤_)=>?_));refine hK _ ?_;clear hK K
          refine opsX0 ?_
          refine wpT_node 5 [] (by kernel_rfl) ?_
          simp only [rs]
          refine ⟨?_,trivial⟩
          refine opsX fun K hK=>?_;simp only [z,seval,hr3];(repeat (first | refine gcI ?_ | refine fun (_:_≤_)=>?_));refine hK _ ?_;clear hK K
          refine opsX0 ?_
          refine ⟨by kernel_rfl,?_⟩
          refine lf ?_
          obtain rfl:=Option.some.inj H
          exact ⟨by first | rfl | trivial,hga,wb [some 0,some 1,some 1184,some 2,some 9012,some 3,some 4]⟩
        · refine opsM (cslices_Clone_f50_M1 n _ _ _ r3 hr3) [9012] [1152] (by simp only [z,seval,hr3];try rfl) (by simp only [z,seval,hr3]) (by simp only [z,seval,hr3]) (by simp only [z,seval,hr3]) (by simp only [z,seval,hr3]) rfl (by simp only [z,seval,hr3]) rfl ?_
          refine opsX0 ?_
          refine wpT_node 0 [3] (by kernel_rfl) ?_
          simp only [rs]
          refine ⟨?_,?_,trivial⟩
          · refine opsX fun K hK=>?_;simp only [z,seval,hr3];(repeat (first | refine gcI ?_ | refine fun (_:_≤_)=>?_));refine hK _ ?_;clear hK K
            refine opsX0 ?_
            refine wpT_node 3 [] (by kernel_rfl) ?_
            simp only [rs]
            refine ⟨?_,trivial⟩
            refine opsX fun K hK=>?_;simp only [z,seval,hr3];(repeat (first | refine gcI ?_ | refine fun (_:_≤_)=>?_));refine hK _ ?_;clear hK K
            refine opsX0 ?_
            refine wpT_node 4 [] (by kernel_rfl) ?_
            simp only [rs]
            refine ⟨?_,trivial⟩
            refine opsX fun K hK=>?_;simp only [z,seval,hr3];(repeat (first | refine gcI ?_ | refine fun (_:_≤_)=>?_));refine hK _ ?_;clear hK K
            refine opsX0 ?_
            refine wpT_node 5 [] (by kernel_rfl) ?_
            simp only [rs]
            refine ⟨?_,trivial⟩
            refine opsX fun K hK=>?_;simp only [z,seval,hr3];(repeat (first | refine gcI ?_ | refine fun (_:_≤_)=>?_));refine hK _ ?_;clear hK K
            refine opsX0 ?_
            refine ⟨by kernel_rfl,?_⟩
            refine lf ?_
            obtain rfl:=Option.some.inj H
            exact ⟨by first | rfl | trivial,hga,wb [some 0,some 1,some 1184,some 2,some 9012,some 3,some 4]⟩
          · refine opsX fun K hK=>?_;simp only [z,seval,hr3];(repeat (first | refine gcI ?_ | refine fun (_:_≤_)=>?_));refine hK _ ?_;clear hK K
            refine opsX0 ?_
            refine wpT_node 0 [] (by kernel_rfl) ?_
            simp only [rs]
            refine ⟨?_,trivial⟩
            refine opsX fun K hK=>?_;simp only [z,seval,hr3];(repeat (first | refine gcI ?_ | refine fun (_:_≤_)=>?_));refine hK _ ?_;clear hK K
            refine opsX0 ?_
            refine wpT_node 4 [] (by kernel_rfl) ?_
            simp only [rs]
            refine ⟨?_,trivial⟩
            refine opsX fun K hK=>?_;simp only [z,seval,hr3];(repeat (first | refine gcI ?_ | refine fun (_:_≤_)=>?_));refine hK _ ?_;clear hK K
            refine opsX0 ?_
            refine wpT_node 5 [] (by kernel_rfl) ?_
            simp only [rs]
            refine ⟨?_,trivial⟩
            refine opsX fun K hK=>?_;simp only [z,seval,hr3];(repeat (first | refine gcI ?_ | refine fun (_:_≤_)=>?_));refine hK _ ?_;clear hK K
            refine opsX0 ?_
            refine ⟨by kernel_rfl,?_⟩
            refine lf ?_
            obtain rfl:=Option.some.inj H
            exact ⟨by first | rfl | trivial,hga,wb [some 0,some 1,some 1184,some 2,some 9012,some 3,some 4]⟩
    refine lf ?_
    exact ⟨_,H,wb [some 0,some 1,some 9007]⟩
  rintro out H
  try dsimp only at H
  unfold spool_Tracks_k2 at H
  refine Sm.st (spool_Tracks_R_s2.eq_1 ..) ?_
  refine rA ?_
  refine Sm.ret ?_
  refine lf ?_
  obtain rfl:=Option.some.inj H
  exact rtM [some 0,some 9003]
def xspool_Tracks (n:Nat):Go.AE.Fn:=mkFn (A:=(List TLine)) (R:=(List (List TRec))×Int) 21 [(false,[.slice 48])] false (fun xs=>((cg (xs.getD 0 []) 0).toSl.map d_TLine)) (fun a=>[[.slice (List.map e_TLine a)]]) (fun a=>spool_Tracks n a) (fun r=>[.own 0 [.slice 59] 0 r.1.length,.c (.int .i64) (.int r.2)]) (fun r=>[.row 57 (List.map e_LTRec r.1)])
theorem cspool_Tracks (n:Nat):Contract Try.prog (xspool_Tracks n):=contract_R Try.call21 fun a r h=>⟨_,_,cspool_Tracks_R n a r h,rfl,rfl,rfl,rfl⟩
abbrev law39_long_s1 (l:List TLine):S:=stB [(3,.own 9000 [.int .i64,.str] 0 l.length)] [(9000,.row 48 (List.map e_TLine l))]
def law39_long_k1 (n:Nat) (l:List TLine):Option (List TLine) :=
  some l
abbrev law39_long_t2 (n_:Int) (l_1:List TLine) (i:Int):S:=stB [(0,.c (.int .i64) (.int n_)),(3,.own 9002 [.int .i64,.str] 0 l_1.length),(4,.c (.int .i64) (.int i))] [(9002,.row 48 (List.map e_TLine l_1))]
def law39_long_b2 (n:Nat) (n_:Int) (l_1:List TLine) (i:Int):Option (((List TLine)×Int) ⊕ (((List TLine)))) :=
  bif (decide (i < n_)) then
    gd ((0≤132∧132≤132∧132≤2147483648)) <|
    gd (0 < (132:Int)∧0 < 132) <|
    gd ((l_1.length+1)≤2147483648) <|
    some (.inl ((l_1 ++ [(⟨9,(toStr8 (List.set (zreps 132 0) 0 (IntKind.wrap .u8 (i))))⟩:TLine)]),(IntKind.wrap .i64 (i+1))))
  else
    some (.inr l_1)
def law39_long (n:Nat) (n_:Int):Option (List TLine) :=
  (loopF (fun (x:(List TLine)×Int)=>law39_long_b2 n n_ x.1 x.2) n ([],0)).bind fun y5 =>
  law39_long_k1 n y5
def xlaw39_long (n:Nat):Go.AE.Fn:=mkFn (A:=Int) (R:=(List TLine)) 27 [(false,[.int .i64])] false (fun xs=>(cg (xs.getD 0 []) 0).toInt) (fun a=>[[.int a]]) (fun a=>law39_long n a) (fun r=>[.own 0 [.int .i64,.str] 0 r.length]) (fun r=>[.row 48 (List.map e_TLine r)])
theorem claw39_long (n:Nat):Contract Try.prog (xlaw39_long n):=by
  have hΓ:=@g0 (Contract Try.prog)
  refine contract_f (Try.f27.body.getD .skip) h00 Try.func27 rfl Try.call27 (by decide) (fun _ r=>⟨rfl,m1 ⟨48,_,_,rfl,ty48,rfl⟩ m0⟩) ?_
  rintro n_ r H
  try dsimp only at H
  unfold law39_long at H
  simp only [Try.f27,Option.getD]
  refine rA ?_
  refine rA ?_
  refine Sm.cut (fun (x:(List TLine))=>law39_long_s1 x) (fun x=>law39_long_k1 n x=some r) ?_ ?_
  · refine rA ?_
    refine Sm.block ?_
    obtain ⟨y5,hy5,Ho5⟩:=bind_some H
    refine Sm.loopB _ (fun x=>law39_long_t2 n_ x.1 x.2) hy5 (wb [none]) ?_
    rintro ⟨l_1,i⟩ z5 H
    try dsimp only at H
    unfold law39_long_b2 at H
    refine Sm.st (law39_long_t2.eq_1 ..) ?_
    refine Sm.seqK fun K6 hK6=>?_
    refine rA ?_
    refine cnd H (fun h8 H=>?_) (fun h8 H=>?_)
    · refine Sm.skip ?_
      refine hK6 _ ?_
      refine Sm.seqK fun K9 hK9=>?_
      refine Sm.block ?_
      refine sX fun K10 hK10=>?_
      obtain ⟨hg11,H⟩:=gd_some H
      refine oY ?_
      refine oX ?_
      refine hK10 _ ?_
      obtain ⟨⟨hg14,hg15⟩,H⟩:=gd_some H
      refine rA ?_
      refine eX ?_
      obtain ⟨hg13,H⟩:=gd_some H
      iterate 2 refine oX ?_
      refine oE stepV_ok ?_
      iterate 4 refine oX ?_
      refine opsX0 ?_
      refine hK9 _ ?_
      refine eA ?_
      refine lf ?_
      exact nx H (wb [some 336])
    refine Sm.exit ?_
    refine lf ?_
    refine lx H fun hyy=>?_
    subst hyy
    have H:=Ho5
    try dsimp only at H
    refine lf ?_
    exact ⟨_,H,wb [some 9002]⟩
  rintro l H
  try dsimp only at H
  unfold law39_long_k1 at H
  refine Sm.st (law39_long_s1.eq_1 ..) ?_
  refine rA ?_
  refine Sm.ret ?_
  refine lf ?_
  obtain rfl:=Option.some.inj H
  exact rto [some 9000]
def extent_valid (n:Nat) (x_:TExtent):Option Bool :=
  some (if (if (if (decide (x_.At ≥ 0))=true then (decide (x_.Len ≥ 1)) else false)=true then (decide (x_.At < 512)) else false)=true then (decide (x_.Len≤(IntKind.wrap .i64 (512 - x_.At)))) else false)
def xextent_valid (n:Nat):Go.AE.Fn:=mkFn (A:=TExtent) (R:=Bool) 64 [(true,[.int .i64,.int .i64])] false (fun xs=>(⟨(cg (xs.getD 0 []) 0).toInt,(cg (xs.getD 0 []) 1).toInt⟩:TExtent)) (fun a=>[[.int a.At,.int a.Len]]) (fun a=>extent_valid n a) (fun r=>[.c .bool (.bool r)]) (fun r=>[])
theorem cextent_valid (n:Nat):Contract Try.prog (xextent_valid n):=by
  have hΓ:=@g0 (Contract Try.prog)
  refine contract_f (Try.f64.body.getD .skip) h00 Try.func64 rfl Try.call64 (by decide) (by intro _ r;exact ⟨rfl,by simp⟩) ?_
  rintro x_ r H
  try dsimp only at H
  unfold extent_valid at H
  simp only [Try.f64,Option.getD]
  refine rA ?_
  refine rA ?_
  refine Sm.ret ?_
  refine lf ?_
  obtain rfl:=Option.some.inj H
  exact rt []
def slices_Clone_f40 (n:Nat) (s:List TExtent):Option (List TExtent) :=
  uniB s fun nb1 =>
  bif nb1 then
    some []
  else
    gd (s.length≤2147483648) <|
    some s
def xslices_Clone_f40 (n:Nat):Go.AE.Fn:=mkFn (A:=(List TExtent)) (R:=(List TExtent)) 40 [(false,[.slice 52])] false (fun xs=>((cg (xs.getD 0 []) 0).toSl.map d_TExtent)) (fun a=>[[.slice (List.map e_TExtent a)]]) (fun a=>slices_Clone_f40 n a) (fun r=>[.own 0 [.int .i64,.int .i64] 0 r.length]) (fun r=>[.row 52 (List.map e_TExtent r)])
theorem cslices_Clone_f40 (n:Nat):Contract Try.prog (xslices_Clone_f40 n):=by
  have hΓ:=@g0 (Contract Try.prog)
  refine contract_f (Try.f40.body.getD .skip) h00 Try.func40 rfl Try.call40 (by decide) (fun _ r=>⟨rfl,m1 ⟨52,_,_,rfl,ty52,rfl⟩ m0⟩) ?_
  rintro s r H
  try dsimp only at H
  unfold slices_Clone_f40 at H
  simp only [Try.f40,Option.getD]
  refine rA ?_
  refine Sm.seqK fun K2 hK2=>?_
  refine sX fun K3 hK3=>?_
  refine oX ?_
  refine opsN fun K hK=>?_;simp only [z,seval];(repeat (first | refine gcI ?_ | refine fun (_:_≤_)=>?_));intro nb1 hnb1;refine hK _ ?_;clear hK K
  replace H:=uniB_some H nb1 (fun hb=>by simpa using hnb1 hb)
  refine hK3 _ ?_
  refine cnd H (fun h4 H=>?_) (fun h4 H=>?_)
  · refine rA ?_
    refine Sm.ret ?_
    refine lf ?_
    obtain rfl:=Option.some.inj H
    exact rto [none]
  refine Sm.skip ?_
  refine hK2 _ ?_
  obtain ⟨hg7,H⟩:=gd_some H
  refine rA ?_
  refine Sm.ret ?_
  refine lf ?_
  obtain rfl:=Option.some.inj H
  exact rto [some 112]
def cmp_isNaN_f86 (n:Nat) (x_:Int):Option Bool :=
  some (x_ != x_)
def cmp_Compare_f80 (n:Nat) (x_:Int) (y:Int):Option Int :=
  (cmp_isNaN_f86 n x_).bind fun r1 =>
  (cmp_isNaN_f86 n y).bind fun r2 =>
  bif r1 then
    bif r2 then
      some 0
    else
      some (-1)
  else
    bif r2 then
      some 1
    else
      bif (decide (x_ < y)) then
        some (-1)
      else
        bif (decide (x_ > y)) then
          some 1
        else
          some 0
def extent_sorted_1 (n:Nat) (a:TExtent) (b:TExtent):Option Int :=
  (cmp_Compare_f80 n a.At b.At).bind fun r1 =>
  some r1
def slices_SortFunc_f78_c79 (n:Nat) (s:List TExtent):Option (List TExtent):=sortG (fun x y=>extent_sorted_1 n x y) s
theorem cslices_SortFunc_f78_c79 (n:Nat) (s:List TExtent) (r:List TExtent) (H:slices_SortFunc_f78_c79 n s=some r):CallsM Try.prog 78 [.ref (.own 0 [.int .i64,.int .i64] 0 s.length),.ref (.fnv 79 [])] [.row 52 (List.map e_TExtent s)] [] [.row 52 (List.map e_TExtent r)] :=
  callsM_sortG lay78 ty52 Try.isAgg52 Try.sizeOf52 (by decide) (by decide) (by intro args w;exact Try.call79 args w) e_TExtent (fun _=>rfl) (fun x y=>extent_sorted_1 n x y) (fun x y c h=>raw79 _ _ _ _ _ (by
    simp only [extent_sorted_1,cmp_Compare_f80,cmp_isNaN_f86,Option.bind_some,bne_self_eq_false,cond_false,gt_iff_lt] at h
    by_cases h1:x.At < y.At <;> by_cases h2:y.At < x.At <;> simp [h1,h2] at h ⊢ <;> first | exact h.symm | omega)) s r H
def extent_sorted (n:Nat) (l:List TExtent):Option (List TExtent) :=
  (slices_Clone_f40 n l).bind fun r1 =>
  (slices_SortFunc_f78_c79 n r1).bind fun r2 =>
  some (List.take r1.length r2)
def xextent_sorted (n:Nat):Go.AE.Fn:=mkFn (A:=(List TExtent)) (R:=(List TExtent)) 62 [(false,[.slice 52])] true (fun xs=>((cg (xs.getD 0 []) 0).toSl.map d_TExtent)) (fun a=>[[.slice (List.map e_TExtent a)]]) (fun a=>extent_sorted n a) (fun r=>[.c (.slice 52) (.slice (List.map e_TExtent r))]) (fun r=>[])
theorem cextent_sorted (n:Nat):Contract Try.prog (xextent_sorted n):=by
  have hΓ:=g1 (cslices_Clone_f40 n) (@g0 (Contract Try.prog))
  refine contract_f (Try.f62.body.getD .skip) h00 Try.func62 rfl Try.call62 (by decide) (by intro h;cases h) ?_
  rintro l r H
  try dsimp only at H
  unfold extent_sorted at H
  simp only [Try.f62,Option.getD]
  refine rA ?_
  obtain ⟨r1,hr1,H⟩:=bind_some H
  have q:=And.intro @xslices_Clone_f40.eq_1 hr1
  refine rAq ?_
  refine sX fun K3 hK3=>?_
  obtain ⟨r2,hr2,H⟩:=bind_some H
  have q:=hr2
  refine oX ?_
  refine oMq (cslices_SortFunc_f78_c79 n _ r2 hr2) [80] [] ?_
  refine hK3 _ ?_
  refine rA ?_
  refine Sm.ret ?_
  refine lf ?_
  obtain rfl:=Option.some.inj H
  exact rt []
abbrev extent_Valid_s2:S:=stB [] []
def extent_Valid_k2 (n:Nat):Option Bool :=
  some true
abbrev extent_Valid_t3 (s:List TExtent) (i:Int):S:=stB [(5,.c (.slice 52) (.slice (List.map e_TExtent s))),(6,.c (.int .i64) (.int i))] []
def extent_Valid_b3 (n:Nat) (s:List TExtent) (i:Int):Option ((Int) ⊕ (((Bool) ⊕ (Unit)))) :=
  bif (decide (i < (s.length:Int))) then
    gd ((0≤i∧i < (s.length:Int))∧(0≤(IntKind.wrap .i64 (i - 1))∧(IntKind.wrap .i64 (i - 1)) < (s.length:Int))∧(0≤(IntKind.wrap .i64 (i - 1))∧(IntKind.wrap .i64 (i - 1)) < (s.length:Int))) <|
    bif (decide (((gt s (Int.toNat i)).At) < (IntKind.wrap .i64 (((gt s (Int.toNat (IntKind.wrap .i64 (i - 1)))).At)+((gt s (Int.toNat (IntKind.wrap .i64 (i - 1)))).Len))))) then
      some (.inr (.inl false))
    else
      some (.inl (IntKind.wrap .i64 (i+1)))
  else
    some (.inr (.inr ()))
abbrev extent_Valid_s1 (l:List TExtent):S:=stB [(0,.c (.slice 52) (.slice (List.map e_TExtent l)))] []
def extent_Valid_k1 (n:Nat) (l:List TExtent):Option Bool :=
  (extent_sorted n l).bind fun r1 =>
  (loopF (fun (x:Int)=>extent_Valid_b3 n r1 x) n 1).bind fun y9 =>
  match y9 with
  | .inl vv =>
    some vv
  | .inr vv =>
    extent_Valid_k2 n
abbrev extent_Valid_t4 (l:List TExtent) (v11:Int) (v12:Int):S:=stB [(0,.c (.slice 52) (.slice (List.map e_TExtent l))),(10,.c (.slice 52) (.slice (List.map e_TExtent l))),(11,.c (.int .i64) (.int v11)),(12,.c (.int .i64) (.int v12))] []
def extent_Valid_b4 (n:Nat) (l:List TExtent) (v11:Int) (v12:Int):Option ((Int) ⊕ (((Bool) ⊕ (Unit)))) :=
  bif (decide (v12 < v11)) then
    gd ((0≤v12∧v12 < (l.length:Int))) <|
    (extent_valid n (gt l (Int.toNat v12))).bind fun r2 =>
    bif (!r2) then
      some (.inr (.inl false))
    else
      some (.inl (IntKind.wrap .i64 (v12+1)))
  else
    some (.inr (.inr ()))
def extent_Valid (n:Nat) (l:List TExtent):Option Bool :=
  bif (decide ((l.length:Int) > 512)) then
    some false
  else
    (loopF (fun (x:Int)=>extent_Valid_b4 n l (l.length:Int) x) n 0).bind fun y21 =>
    match y21 with
    | .inl vv =>
      some vv
    | .inr vv =>
      extent_Valid_k1 n l
def xextent_Valid (n:Nat):Go.AE.Fn:=mkFn (A:=(List TExtent)) (R:=Bool) 36 [(false,[.slice 52])] false (fun xs=>((cg (xs.getD 0 []) 0).toSl.map d_TExtent)) (fun a=>[[.slice (List.map e_TExtent a)]]) (fun a=>extent_Valid n a) (fun r=>[.c .bool (.bool r)]) (fun r=>[])
theorem cextent_Valid (n:Nat):Contract Try.prog (xextent_Valid n):=by
  have hΓ:=g1 (cextent_valid n) (g1 (cextent_sorted n) (@g0 (Contract Try.prog)))
  refine contract_f (Try.f36.body.getD .skip) h00 Try.func36 rfl Try.call36 (by decide) (by intro _ r;exact ⟨rfl,by simp⟩) ?_
  rintro l r H
  try dsimp only at H
  unfold extent_Valid at H
  simp only [Try.f36,Option.getD]
  refine rA ?_
  refine Sm.seqK fun K2 hK2=>?_
  refine rA ?_
  refine cnd H (fun h4 H=>?_) (fun h4 H=>?_)
  · refine rA ?_
    refine Sm.ret ?_
    refine lf ?_
    obtain rfl:=Option.some.inj H
    exact rt []
  refine Sm.skip ?_
  refine hK2 _ ?_
  refine Sm.cut (fun (x:Unit)=>extent_Valid_s1 l) (fun x=>extent_Valid_k1 n l=some r) ?_ ?_
  · refine rA ?_
    refine Sm.block ?_
    obtain ⟨y21,hy21,Ho21⟩:=bind_some H
    refine Sm.loopB _ (fun x=>extent_Valid_t4 l (l.length:Int) x) hy21 (wb []) ?_
    rintro v12 z21 H
    try dsimp only at H
    unfold extent_Valid_b4 at H
    refine Sm.st (extent_Valid_t4.eq_1 ..) ?_
    refine rA ?_
    refine Sm.seqK fun K23 hK23=>?_
    refine cnd H (fun h24 H=>?_) (fun h24 H=>?_)
    · refine Sm.skip ?_
      refine hK23 _ ?_
      refine Sm.seqK fun K25 hK25=>?_
      refine Sm.block ?_
      obtain ⟨hg30,H⟩:=gd_some H
      refine rA ?_
      obtain ⟨r2,hr2,H⟩:=bind_some H
      have q:=And.intro @xextent_valid.eq_1 hr2
      refine rAq ?_
      refine cnd H (fun h28 H=>?_) (fun h28 H=>?_)
      · refine rA ?_
        refine Sm.ret ?_
        refine lf ?_
        refine lx H fun hyy=>?_
        subst hyy
        have H:=Ho21
        try dsimp only at H
        refine lf ?_
        obtain rfl:=Option.some.inj H
        exact rt []
      refine Sm.skip ?_
      refine hK25 _ ?_
      refine eA ?_
      refine lf ?_
      exact nx H (wb [])
    refine Sm.exit ?_
    refine lf ?_
    refine lx H fun hyy=>?_
    subst hyy
    have H:=Ho21
    try dsimp only at H
    refine lf ?_
    exact ⟨(),H,wb []⟩
  rintro ⟨⟩ H
  try dsimp only at H
  unfold extent_Valid_k1 at H
  refine Sm.st (extent_Valid_s1.eq_1 ..) ?_
  obtain ⟨r1,hr1,H⟩:=bind_some H
  have q:=And.intro @xextent_valid.eq_1 (And.intro @xextent_sorted.eq_1 hr1)
  refine rAq ?_
  refine Sm.cut (fun (x:Unit)=>extent_Valid_s2) (fun x=>extent_Valid_k2 n=some r) ?_ ?_
  · refine rA ?_
    refine Sm.block ?_
    obtain ⟨y9,hy9,Ho9⟩:=bind_some H
    refine Sm.loopB _ (fun x=>extent_Valid_t3 r1 x) hy9 (wb []) ?_
    rintro i z9 H
    try dsimp only at H
    unfold extent_Valid_b3 at H
    refine Sm.st (extent_Valid_t3.eq_1 ..) ?_
    refine Sm.seqK fun K10 hK10=>?_
    refine rA ?_
    refine cnd H (fun h12 H=>?_) (fun h12 H=>?_)
    · refine Sm.skip ?_
      refine hK10 _ ?_
      refine Sm.seqK fun K13 hK13=>?_
      refine Sm.block ?_
      obtain ⟨⟨hg17,hg18,hg19⟩,H⟩:=gd_some H
      refine rD ?_
      refine cnd H (fun h15 H=>?_) (fun h15 H=>?_)
      · refine rA ?_
        refine Sm.ret ?_
        refine lf ?_
        refine lx H fun hyy=>?_
        subst hyy
        have H:=Ho9
        try dsimp only at H
        refine lf ?_
        obtain rfl:=Option.some.inj H
        exact rt []
      refine Sm.skip ?_
      refine hK13 _ ?_
      refine eA ?_
      refine lf ?_
      exact nx H (wb [])
    refine Sm.exit ?_
    refine lf ?_
    refine lx H fun hyy=>?_
    subst hyy
    have H:=Ho9
    try dsimp only at H
    refine lf ?_
    exact ⟨(),H,wb []⟩
  rintro ⟨⟩ H
  try dsimp only at H
  unfold extent_Valid_k2 at H
  refine Sm.st (extent_Valid_s2.eq_1 ..) ?_
  refine rA ?_
  refine Sm.ret ?_
  refine lf ?_
  obtain rfl:=Option.some.inj H
  exact rt []
abbrev extent_Free_s2 (out_1:List TExtent):S:=stB [(5,.own 9001 [.int .i64,.int .i64] 0 out_1.length)] [(9001,.row 52 (List.map e_TExtent out_1))]
def extent_Free_k2 (n:Nat) (out_1:List TExtent):Option (List TExtent) :=
  some out_1
abbrev extent_Free_s1 (n_:Int) (out:List TExtent) (at_:Int):S:=stB [(1,.c (.int .i64) (.int n_)),(5,.own 9000 [.int .i64,.int .i64] 0 out.length),(6,.c (.int .i64) (.int at_))] [(9000,.row 52 (List.map e_TExtent out))]
def extent_Free_k1 (n:Nat) (n_:Int) (out:List TExtent) (at_:Int):Option (List TExtent) :=
  bif (decide (n_ > at_)) then
    gd ((out.length+1)≤2147483648) <|
    extent_Free_k2 n (out ++ [(⟨at_,(IntKind.wrap .i64 (n_ - at_))⟩:TExtent)])
  else
    extent_Free_k2 n out
abbrev extent_Free_s4 (n_:Int) (out_3:List TExtent) (at__2:Int) (v22:List TExtent) (v23:Int) (v24:Int):S:=stB [(1,.c (.int .i64) (.int n_)),(5,.own 9004 [.int .i64,.int .i64] 0 out_3.length),(6,.c (.int .i64) (.int at__2)),(22,.c (.slice 52) (.slice (List.map e_TExtent v22))),(23,.c (.int .i64) (.int v23)),(24,.c (.int .i64) (.int v24))] [(9004,.row 52 (List.map e_TExtent out_3))]
def extent_Free_k4 (n:Nat) (n_:Int) (out_3:List TExtent) (at__2:Int) (v22:List TExtent) (v23:Int) (v24:Int):Option (((List TExtent)×Int×Int) ⊕ (((List TExtent)×Int))) :=
  some (.inl (out_3,at__2,(IntKind.wrap .i64 (v24+1))))
abbrev extent_Free_s5 (n_:Int) (out_4:List TExtent) (x_:Int) (x__1:Int) (v22:List TExtent) (v23:Int) (v24:Int):S:=stB [(1,.c (.int .i64) (.int n_)),(5,.own 9005 [.int .i64,.int .i64] 0 out_4.length),(8,.box 9006 0),(22,.c (.slice 52) (.slice (List.map e_TExtent v22))),(23,.c (.int .i64) (.int v23)),(24,.c (.int .i64) (.int v24))] [(9005,.row 52 (List.map e_TExtent out_4)),(9006,.box [.c (.int .i64) (.int x_),.c (.int .i64) (.int x__1)])]
def extent_Free_k5 (n:Nat) (n_:Int) (out_4:List TExtent) (x_:Int) (x__1:Int) (v22:List TExtent) (v23:Int) (v24:Int):Option (((List TExtent)×Int×Int) ⊕ (((List TExtent)×Int))) :=
  extent_Free_k4 n n_ out_4 (IntKind.wrap .i64 (x_+x__1)) v22 v23 v24
abbrev extent_Free_t3 (n_:Int) (v22:List TExtent) (v23:Int) (out_2:List TExtent) (at__1:Int) (v24:Int):S:=stB [(1,.c (.int .i64) (.int n_)),(5,.own 9003 [.int .i64,.int .i64] 0 out_2.length),(6,.c (.int .i64) (.int at__1)),(22,.c (.slice 52) (.slice (List.map e_TExtent v22))),(23,.c (.int .i64) (.int v23)),(24,.c (.int .i64) (.int v24))] [(9003,.row 52 (List.map e_TExtent out_2))]
def extent_Free_b3 (n:Nat) (n_:Int) (v22:List TExtent) (v23:Int) (out_2:List TExtent) (at__1:Int) (v24:Int):Option (((List TExtent)×Int×Int) ⊕ (((List TExtent)×Int))) :=
  bif (decide (v24 < v23)) then
    gd ((0≤v24∧v24 < (v22.length:Int))) <|
    bif (decide ((if n_ < ((gt v22 (Int.toNat v24)).At) then n_ else ((gt v22 (Int.toNat v24)).At)) > at__1)) then
      gd ((out_2.length+1)≤2147483648) <|
      extent_Free_k5 n n_ (out_2 ++ [(⟨at__1,(IntKind.wrap .i64 ((if n_ < ((gt v22 (Int.toNat v24)).At) then n_ else ((gt v22 (Int.toNat v24)).At)) - at__1))⟩:TExtent)]) ((gt v22 (Int.toNat v24)).At) ((gt v22 (Int.toNat v24)).Len) v22 v23 v24
    else
      extent_Free_k5 n n_ out_2 ((gt v22 (Int.toNat v24)).At) ((gt v22 (Int.toNat v24)).Len) v22 v23 v24
  else
    some (.inr (out_2,at__1))
def extent_Free (n:Nat) (used:List TExtent) (n_:Int):Option (List TExtent) :=
  (extent_Valid n used).bind fun r1 =>
  bif (if (if (!r1)=true then true else (decide (n_ < 0)))=true then true else (decide (n_ > 512))) then
    some []
  else
    (extent_sorted n used).bind fun r2 =>
    (loopF (fun (x:(List TExtent)×Int×Int)=>extent_Free_b3 n n_ r2 (r2.length:Int) x.1 x.2.1 x.2.2) n ([],0,0)).bind fun y13 =>
    extent_Free_k1 n n_ y13.1 y13.2
def xextent_Free (n:Nat):Go.AE.Fn:=mkFn (A:=(List TExtent)×Int) (R:=(List TExtent)) 34 [(false,[.slice 52]),(false,[.int .i64])] false (fun xs=>(((cg (xs.getD 0 []) 0).toSl.map d_TExtent),(cg (xs.getD 1 []) 0).toInt)) (fun a=>[[.slice (List.map e_TExtent a.1)],[.int a.2]]) (fun a=>extent_Free n a.1 a.2) (fun r=>[.own 0 [.int .i64,.int .i64] 0 r.length]) (fun r=>[.row 52 (List.map e_TExtent r)])
theorem cextent_Free (n:Nat):Contract Try.prog (xextent_Free n):=by
  have hΓ:=g1 (cextent_Valid n) (g1 (cextent_sorted n) (@g0 (Contract Try.prog)))
  refine contract_f (Try.f34.body.getD .skip) h00 Try.func34 rfl Try.call34 (by decide) (fun _ r=>⟨rfl,m1 ⟨52,_,_,rfl,ty52,rfl⟩ m0⟩) ?_
  rintro ⟨used,n_⟩ r H
  try dsimp only at H
  unfold extent_Free at H
  simp only [Try.f34,Option.getD]
  refine rA ?_
  refine Sm.seqK fun K2 hK2=>?_
  obtain ⟨r1,hr1,H⟩:=bind_some H
  have q:=And.intro @xextent_Valid.eq_1 hr1
  refine rAq ?_
  refine cnd H (fun h4 H=>?_) (fun h4 H=>?_)
  · refine rA ?_
    refine Sm.ret ?_
    refine lf ?_
    obtain rfl:=Option.some.inj H
    exact rto [none]
  refine Sm.skip ?_
  refine hK2 _ ?_
  refine rA ?_
  refine rA ?_
  refine Sm.cut (fun (x:(List TExtent)×Int)=>extent_Free_s1 n_ x.1 x.2) (fun x=>extent_Free_k1 n n_ x.1 x.2=some r) ?_ ?_
  · obtain ⟨r2,hr2,H⟩:=bind_some H
    have q:=And.intro @xextent_Valid.eq_1 (And.intro @xextent_sorted.eq_1 hr2)
    refine rAq ?_
    refine Sm.block ?_
    obtain ⟨y13,hy13,Ho13⟩:=bind_some H
    refine Sm.loopB _ (fun x=>extent_Free_t3 n_ r2 (r2.length:Int) x.1 x.2.1 x.2.2) hy13 (wb [none]) ?_
    rintro ⟨out_2,at__1,v24⟩ z13 H
    try dsimp only at H
    unfold extent_Free_b3 at H
    refine Sm.st (extent_Free_t3.eq_1 ..) ?_
    refine rA ?_
    refine Sm.seqK fun K15 hK15=>?_
    refine cnd H (fun h16 H=>?_) (fun h16 H=>?_)
    · refine Sm.skip ?_
      refine hK15 _ ?_
      refine Sm.cut (fun (x:(List TExtent)×Int)=>extent_Free_s4 n_ x.1 x.2 r2 (r2.length:Int) v24) (fun x=>extent_Free_k4 n n_ x.1 x.2 r2 (r2.length:Int) v24=some z13) ?_ ?_
      · refine Sm.block ?_
        obtain ⟨hg22,H⟩:=gd_some H
        refine rA ?_
        refine Sm.cut (fun (x:(List TExtent))=>extent_Free_s5 n_ x ((gt r2 (Int.toNat v24)).At) ((gt r2 (Int.toNat v24)).Len) r2 (r2.length:Int) v24) (fun x=>extent_Free_k5 n n_ x ((gt r2 (Int.toNat v24)).At) ((gt r2 (Int.toNat v24)).Len) r2 (r2.length:Int) v24=some z13) ?_ ?_
        · refine rA ?_
          refine rA ?_
          refine cnd H (fun h20 H=>?_) (fun h20 H=>?_)
          · obtain ⟨hg21,H⟩:=gd_some H
            refine eA ?_
            refine lf ?_
            exact ⟨_,H,wb [some 672,some 128]⟩
          refine Sm.skip ?_
          refine lf ?_
          exact ⟨_,H,wb [some 9003,some 128]⟩
        rintro out_4 H
        try dsimp only at H
        unfold extent_Free_k5 at H
        refine Sm.st (extent_Free_s5.eq_1 ..) ?_
        refine eA ?_
        refine lf ?_
        exact ⟨(out_4,(IntKind.wrap .i64 ((gt r2 (Int.toNat v24)).At+(gt r2 (Int.toNat v24)).Len))),H,wb [some 9005]⟩
      rintro ⟨out_3,at__2⟩ H
      try dsimp only at H
      unfold extent_Free_k4 at H
      refine Sm.st (extent_Free_s4.eq_1 ..) ?_
      refine eA ?_
      refine lf ?_
      exact nx H (wb [some 9004])
    refine Sm.exit ?_
    refine lf ?_
    refine lx H fun hyy=>?_
    subst hyy
    have H:=Ho13
    try dsimp only at H
    refine lf ?_
    exact ⟨(out_2,at__1),H,wb [some 9003]⟩
  rintro ⟨out,at_⟩ H
  try dsimp only at H
  unfold extent_Free_k1 at H
  refine Sm.st (extent_Free_s1.eq_1 ..) ?_
  refine Sm.cut (fun (x:(List TExtent))=>extent_Free_s2 x) (fun x=>extent_Free_k2 n x=some r) ?_ ?_
  · refine rA ?_
    refine cnd H (fun h10 H=>?_) (fun h10 H=>?_)
    · obtain ⟨hg11,H⟩:=gd_some H
      refine eA ?_
      refine lf ?_
      exact ⟨_,H,wb [some 944]⟩
    refine Sm.skip ?_
    refine lf ?_
    exact ⟨_,H,wb [some 9000]⟩
  rintro out_1 H
  try dsimp only at H
  unfold extent_Free_k2 at H
  refine Sm.st (extent_Free_s2.eq_1 ..) ?_
  refine rA ?_
  refine Sm.ret ?_
  refine lf ?_
  obtain rfl:=Option.some.inj H
  exact rto [some 9001]
def spool_New (n:Nat) (n_:Int):Option (TSpace×Int) :=
  bif (if (decide (n_ < 0))=true then true else (decide (n_ > 512))) then
    some ((⟨0,[]⟩:TSpace),6)
  else
    (extent_Free n [] n_).bind fun r1 =>
    some ((⟨n_,r1⟩:TSpace),0)
def xspool_New (n:Nat):Go.AE.Fn:=mkFn (A:=Int) (R:=TSpace×Int) 17 [(false,[.int .i64])] false (fun xs=>(cg (xs.getD 0 []) 0).toInt) (fun a=>[[.int a]]) (fun a=>spool_New n a) (fun r=>[.agg [.c (.int .i64) (.int r.1.Tracks),.own 0 [.int .i64,.int .i64] 0 r.1.Free.length],.c (.int .i64) (.int r.2)]) (fun r=>[.row 52 (List.map e_TExtent r.1.Free)])
theorem cspool_New (n:Nat):Contract Try.prog (xspool_New n):=by
  have hΓ:=g1 (cextent_Free n) (@g0 (Contract Try.prog))
  refine contract_f (Try.f17.body.getD .skip) h00 Try.func17 rfl Try.call17 (by decide) (fun _ r=>⟨rfl,m1 ⟨52,_,_,rfl,ty52,rfl⟩ m0⟩) ?_
  rintro n_ r H
  try dsimp only at H
  unfold spool_New at H
  simp only [Try.f17,Option.getD]
  refine rA ?_
  refine Sm.seqK fun K2 hK2=>?_
  refine rA ?_
  refine cnd H (fun h4 H=>?_) (fun h4 H=>?_)
  · refine rA ?_
    refine Sm.ret ?_
    refine lf ?_
    obtain rfl:=Option.some.inj H
    exact rto [none]
  refine Sm.skip ?_
  refine hK2 _ ?_
  obtain ⟨r1,hr1,H⟩:=bind_some H
  have q:=And.intro @xextent_Free.eq_1 hr1
  refine rAq ?_
  refine Sm.ret ?_
  refine lf ?_
  obtain rfl:=Option.some.inj H
  exact rto [some 208]
abbrev extent_Check_s1:S:=stB [] []
def extent_Check_k1 (n:Nat):Option Bool :=
  some true
abbrev extent_Check_t2 (n_:Int) (l:List TExtent) (v9:Int) (end_:Int) (v10:Int):S:=stB [(1,.c (.int .i64) (.int n_)),(5,.c (.int .i64) (.int end_)),(8,.c (.slice 52) (.slice (List.map e_TExtent l))),(9,.c (.int .i64) (.int v9)),(10,.c (.int .i64) (.int v10))] []
def extent_Check_b2 (n:Nat) (n_:Int) (l:List TExtent) (v9:Int) (end_:Int) (v10:Int):Option ((Int×Int) ⊕ (((Bool) ⊕ (Unit)))) :=
  bif (decide (v10 < v9)) then
    gd ((0≤v10∧v10 < (l.length:Int))) <|
    (extent_valid n (gt l (Int.toNat v10))).bind fun r1 =>
    bif (if (if (!r1)=true then true else (decide (((gt l (Int.toNat v10)).At)≤end_)))=true then true else (decide ((IntKind.wrap .i64 (((gt l (Int.toNat v10)).At)+((gt l (Int.toNat v10)).Len))) > n_))) then
      some (.inr (.inl false))
    else
      some (.inl ((IntKind.wrap .i64 (((gt l (Int.toNat v10)).At)+((gt l (Int.toNat v10)).Len))),(IntKind.wrap .i64 (v10+1))))
  else
    some (.inr (.inr ()))
def extent_Check (n:Nat) (l:List TExtent) (n_:Int):Option Bool :=
  (loopF (fun (x:Int×Int)=>extent_Check_b2 n n_ l (l.length:Int) x.1 x.2) n ((-1),0)).bind fun y5 =>
  match y5 with
  | .inl vv =>
    some vv
  | .inr vv =>
    extent_Check_k1 n
def xextent_Check (n:Nat):Go.AE.Fn:=mkFn (A:=(List TExtent)×Int) (R:=Bool) 63 [(false,[.slice 52]),(false,[.int .i64])] false (fun xs=>(((cg (xs.getD 0 []) 0).toSl.map d_TExtent),(cg (xs.getD 1 []) 0).toInt)) (fun a=>[[.slice (List.map e_TExtent a.1)],[.int a.2]]) (fun a=>extent_Check n a.1 a.2) (fun r=>[.c .bool (.bool r)]) (fun r=>[])
theorem cextent_Check (n:Nat):Contract Try.prog (xextent_Check n):=by
  have hΓ:=g1 (cextent_valid n) (@g0 (Contract Try.prog))
  refine contract_f (Try.f63.body.getD .skip) h00 Try.func63 rfl Try.call63 (by decide) (by intro _ r;exact ⟨rfl,by simp⟩) ?_
  rintro ⟨l,n_⟩ r H
  try dsimp only at H
  unfold extent_Check at H
  simp only [Try.f63,Option.getD]
  refine rA ?_
  refine rA ?_
  refine Sm.cut (fun (x:Unit)=>extent_Check_s1) (fun x=>extent_Check_k1 n=some r) ?_ ?_
  · refine rA ?_
    refine Sm.block ?_
    obtain ⟨y5,hy5,Ho5⟩:=bind_some H
    refine Sm.loopB _ (fun x=>extent_Check_t2 n_ l (l.length:Int) x.1 x.2) hy5 (wb []) ?_
    rintro ⟨end_,v10⟩ z5 H
    try dsimp only at H
    unfold extent_Check_b2 at H
    refine Sm.st (extent_Check_t2.eq_1 ..) ?_
    refine rA ?_
    refine Sm.seqK fun K7 hK7=>?_
    refine cnd H (fun h8 H=>?_) (fun h8 H=>?_)
    · refine Sm.skip ?_
      refine hK7 _ ?_
      refine Sm.seqK fun K9 hK9=>?_
      refine Sm.block ?_
      obtain ⟨hg15,H⟩:=gd_some H
      refine rA ?_
      refine Sm.seqK fun K11 hK11=>?_
      obtain ⟨r1,hr1,H⟩:=bind_some H
      have q:=And.intro @xextent_valid.eq_1 hr1
      refine rAq ?_
      refine cnd H (fun h13 H=>?_) (fun h13 H=>?_)
      · refine rA ?_
        refine Sm.ret ?_
        refine lf ?_
        refine lx H fun hyy=>?_
        subst hyy
        have H:=Ho5
        try dsimp only at H
        refine lf ?_
        obtain rfl:=Option.some.inj H
        exact rt []
      refine Sm.skip ?_
      refine hK11 _ ?_
      refine eA ?_
      refine hK9 _ ?_
      refine eA ?_
      refine lf ?_
      exact nx H (wb [])
    refine Sm.exit ?_
    refine lf ?_
    refine lx H fun hyy=>?_
    subst hyy
    have H:=Ho5
    try dsimp only at H
    refine lf ?_
    exact ⟨(),H,wb []⟩
  rintro ⟨⟩ H
  try dsimp only at H
  unfold extent_Check_k1 at H
  refine Sm.st (extent_Check_s1.eq_1 ..) ?_
  refine rA ?_
  refine Sm.ret ?_
  refine lf ?_
  obtain rfl:=Option.some.inj H
  exact rt []
def spool_Check (n:Nat) (s:TSpace):Option Int :=
  gd (((!(if (decide (s.Tracks < 0))=true then true else (decide (s.Tracks > 512))))=true→(extent_Check n s.Free s.Tracks).isSome=true)) <|
  bif (if (if (decide (s.Tracks < 0))=true then true else (decide (s.Tracks > 512)))=true then true else (!((extent_Check n s.Free s.Tracks).getD default))) then
    some 1
  else
    some 0
def xspool_Check (n:Nat):Go.AE.Fn:=mkFn (A:=TSpace) (R:=Int) 35 [(true,[.int .i64,.slice 52])] false (fun xs=>(⟨(cg (xs.getD 0 []) 0).toInt,((cg (xs.getD 0 []) 1).toSl.map d_TExtent)⟩:TSpace)) (fun a=>[[.int a.Tracks,.slice (List.map e_TExtent a.Free)]]) (fun a=>spool_Check n a) (fun r=>[.c (.int .i64) (.int r)]) (fun r=>[])
theorem cspool_Check (n:Nat):Contract Try.prog (xspool_Check n):=by
  have hΓ:=g1 (cextent_Check n) (@g0 (Contract Try.prog))
  refine contract_f (Try.f35.body.getD .skip) h00 Try.func35 rfl Try.call35 (by decide) (by intro _ r;exact ⟨rfl,by simp⟩) ?_
  rintro s r H
  try dsimp only at H
  unfold spool_Check at H
  simp only [Try.f35,Option.getD]
  refine rA ?_
  refine Sm.seqK fun K2 hK2=>?_
  obtain ⟨hg7,H⟩:=gd_some H
  have q:=@xextent_Check.eq_1
  refine rAq ?_
  refine cnd H (fun h4 H=>?_) (fun h4 H=>?_)
  · refine rA ?_
    refine Sm.ret ?_
    refine lf ?_
    obtain rfl:=Option.some.inj H
    exact rt []
  refine Sm.skip ?_
  refine hK2 _ ?_
  refine rA ?_
  refine Sm.ret ?_
  refine lf ?_
  obtain rfl:=Option.some.inj H
  exact rt []
def slices_Delete_f67_M2 (n:Nat) (s:List TExtent) (s_l:Nat) (i:Int) (j:Int):Option (Nat×(List TExtent)) :=
  gd ((0≤i∧i≤j∧j≤((s_l:Nat):Int)∧((s_l:Nat):Int)≤(s_l:Int))) <|
  bif (i == j) then
    some (s_l,s)
  else
    gd ((0≤i∧i≤(s.length:Int))∧(0≤j∧j≤(s_l:Int)∧(s_l:Int)≤(s.length:Int))∧((Int.toNat (i - 0))+(List.take (Int.toNat ((s_l:Int) - j)) (List.drop (Int.toNat j) s)).length)≤s.length) <|
    gd ((0≤((((Int.toNat (i - 0))+(List.take (Int.toNat ((s_l:Int) - j)) (List.drop (Int.toNat j) s)).length):Nat):Int)∧((((Int.toNat (i - 0))+(List.take (Int.toNat ((s_l:Int) - j)) (List.drop (Int.toNat j) s)).length):Nat):Int)≤((s_l:Nat):Int)∧((s_l:Nat):Int)≤(s.length:Int))∧(((Int.toNat (i - 0))+(List.take (Int.toNat ((s_l:Int) - j)) (List.drop (Int.toNat j) s)).length)+(Int.toNat (((s_l:Nat):Int) - ((((Int.toNat (i - 0))+(List.take (Int.toNat ((s_l:Int) - j)) (List.drop (Int.toNat j) s)).length):Nat):Int))))≤s.length) <|
    some (((Int.toNat (i - 0))+(List.take (Int.toNat ((s_l:Int) - j)) (List.drop (Int.toNat j) s)).length),(overL (overL s (Int.toNat (i - 0)) (List.take (Int.toNat ((s_l:Int) - j)) (List.drop (Int.toNat j) s))) ((Int.toNat (i - 0))+(List.take (Int.toNat ((s_l:Int) - j)) (List.drop (Int.toNat j) s)).length) (zreps (Int.toNat (((s_l:Nat):Int) - ((((Int.toNat (i - 0))+(List.take (Int.toNat ((s_l:Int) - j)) (List.drop (Int.toNat j) s)).length):Nat):Int))) (⟨0,0⟩:TExtent))))
theorem cslices_Delete_f67_M2 (n:Nat) (s:List TExtent) (s_l:Nat) (i:Int) (j:Int) (r:Nat×(List TExtent)) (H:slices_Delete_f67_M2 n s s_l i j=some r):CallsM Try.prog 67 [.ref (.own 0 [.int .i64,.int .i64] 0 s_l),.dat (false,[.int .i64]) [.int i],.dat (false,[.int .i64]) [.int j]] [.row 52 (List.map e_TExtent s)] [.own 0 [.int .i64,.int .i64] 0 r.1] [.row 52 (List.map e_TExtent r.2)]:=by
  have hΓ:=@g0 (Contract Try.prog)
  refine callsM_of (Try.f67.body.getD .skip) h00 Try.func67 rfl Try.call67 (Nat.le_of_ble_eq_true rfl) (Nat.le_of_ble_eq_true rfl) ?_
  unfold slices_Delete_f67_M2 at H
  simp only [Try.f67,Option.getD]
  refine rA ?_
  refine sX fun K2 hK2=>?_
  obtain ⟨hg3,H⟩:=gd_some H
  iterate 5 refine oX ?_
  refine oY ?_
  refine hK2 _ ?_
  refine Sm.seqK fun K4 hK4=>?_
  refine rA ?_
  refine cnd H (fun h6 H=>?_) (fun h6 H=>?_)
  · refine rA ?_
    refine Sm.ret ?_
    refine lf ?_
    obtain rfl:=Option.some.inj H
    exact rtM [some 0]
  refine Sm.skip ?_
  refine hK4 _ ?_
  refine rA ?_
  obtain ⟨⟨hg14,hg15,hg16⟩,H⟩:=gd_some H
  refine rD ?_
  refine sX fun K10 hK10=>?_
  obtain ⟨⟨hg11,hg12⟩,H⟩:=gd_some H
  iterate 5 refine oX ?_
  refine oY ?_
  refine hK10 _ ?_
  refine rA ?_
  refine Sm.ret ?_
  refine lf ?_
  obtain rfl:=Option.some.inj H
  exact rtM [some 0]
abbrev extent_Take_s1:S:=stB [] []
def extent_Take_k1 (n:Nat):Option ((List TExtent)×(List TExtent)×Int) :=
  some ([],[],200)
abbrev extent_Take_s3 (want_1:Int) (most:Int) (got:List TExtent) (rest:List TExtent) (rest_2:Nat) (longest:Int):S:=stB [(1,.c (.int .i64) (.int want_1)),(2,.c (.int .i64) (.int most)),(6,.own 9005 [.int .i64,.int .i64] 0 got.length),(7,.own 9006 [.int .i64,.int .i64] 0 rest_2),(9,.c (.int .i64) (.int longest))] [(9005,.row 52 (List.map e_TExtent got)),(9006,.row 52 (List.map e_TExtent rest))]
def extent_Take_k3 (n:Nat) (want_1:Int) (most:Int) (got:List TExtent) (rest:List TExtent) (rest_2:Nat) (longest:Int):Option ((Int×(List TExtent)×(List TExtent)×Nat) ⊕ ((((List TExtent)×(List TExtent)×Int) ⊕ (Unit)))) :=
  gd ((0≤longest∧longest < (rest_2:Int))∧(Int.toNat longest) < rest.length∧(got.length+1)≤2147483648) <|
  gd ((0≤longest∧longest < (rest_2:Int))∧(Int.toNat longest) < rest.length) <|
  (slices_Delete_f67_M2 n rest rest_2 longest (IntKind.wrap .i64 (longest+1))).bind fun r3 =>
  some (.inl ((IntKind.wrap .i64 (want_1 - ((gt rest (Int.toNat longest)).Len))),(got ++ [(gt rest (Int.toNat longest))]),r3.2,r3.1))
abbrev extent_Take_s5 (want_1:Int) (most:Int) (got:List TExtent) (rest:List TExtent) (rest_4:Nat) (longest_2:Int) (v35:Int) (v36:Int):S:=stB [(1,.c (.int .i64) (.int want_1)),(2,.c (.int .i64) (.int most)),(6,.own 9013 [.int .i64,.int .i64] 0 got.length),(7,.own 9014 [.int .i64,.int .i64] 0 rest_4),(9,.c (.int .i64) (.int longest_2)),(34,.own 9014 [.int .i64,.int .i64] 0 rest_4),(35,.c (.int .i64) (.int v35)),(36,.c (.int .i64) (.int v36))] [(9013,.row 52 (List.map e_TExtent got)),(9014,.row 52 (List.map e_TExtent rest))]
def extent_Take_k5 (n:Nat) (want_1:Int) (most:Int) (got:List TExtent) (rest:List TExtent) (rest_4:Nat) (longest_2:Int) (v35:Int) (v36:Int):Option ((Nat×Int×Int) ⊕ ((((List TExtent)×(List TExtent)×Int) ⊕ (Nat×Int)))) :=
  some (.inl (rest_4,longest_2,(IntKind.wrap .i64 (v36+1))))
abbrev extent_Take_t4 (want_1:Int) (most:Int) (got:List TExtent) (rest:List TExtent) (v35:Int) (rest_3:Nat) (longest_1:Int) (v36:Int):S:=stB [(1,.c (.int .i64) (.int want_1)),(2,.c (.int .i64) (.int most)),(6,.own 9011 [.int .i64,.int .i64] 0 got.length),(7,.own 9012 [.int .i64,.int .i64] 0 rest_3),(9,.c (.int .i64) (.int longest_1)),(34,.own 9012 [.int .i64,.int .i64] 0 rest_3),(35,.c (.int .i64) (.int v35)),(36,.c (.int .i64) (.int v36))] [(9011,.row 52 (List.map e_TExtent got)),(9012,.row 52 (List.map e_TExtent rest))]
def extent_Take_b4 (n:Nat) (want_1:Int) (most:Int) (got:List TExtent) (rest:List TExtent) (v35:Int) (rest_3:Nat) (longest_1:Int) (v36:Int):Option ((Nat×Int×Int) ⊕ ((((List TExtent)×(List TExtent)×Int) ⊕ (Nat×Int)))) :=
  bif (decide (v36 < v35)) then
    gd ((0≤v36∧v36 < (rest_3:Int))∧(Int.toNat v36) < rest.length) <|
    bif (decide (((gt rest (Int.toNat v36)).Len) > want_1)) then
      gd ((got.length+1)≤2147483648) <|
      gd ((0≤v36∧v36 < (rest_3:Int))∧(Int.toNat v36) < rest.length) <|
      some (.inr (.inl ((got ++ [(⟨(gt rest (Int.toNat v36)).At,want_1⟩:TExtent)]),(List.take rest_3 (List.set rest (Int.toNat v36) (⟨(IntKind.wrap .i64 (((gt rest (Int.toNat v36)).At)+want_1)),(IntKind.wrap .i64 (((gt rest (Int.toNat v36)).Len) - want_1))⟩:TExtent))),0)))
    else
      bif (((gt rest (Int.toNat v36)).Len) == want_1) then
        gd ((got.length+1)≤2147483648) <|
        (slices_Delete_f67_M2 n rest rest_3 v36 (IntKind.wrap .i64 (v36+1))).bind fun r4 =>
        some (.inr (.inl ((got ++ [(gt rest (Int.toNat v36))]),(List.take r4.1 r4.2),0)))
      else
        gd ((0≤longest_1∧longest_1 < (rest_3:Int))∧(Int.toNat longest_1) < rest.length) <|
        bif (decide (((gt rest (Int.toNat v36)).Len) > ((gt rest (Int.toNat longest_1)).Len))) then
          extent_Take_k5 n want_1 most got rest rest_3 v36 v35 v36
        else
          extent_Take_k5 n want_1 most got rest rest_3 longest_1 v35 v36
  else
    some (.inr (.inr (rest_3,longest_1)))
abbrev extent_Take_t2 (most:Int) (want_1:Int) (got:List TExtent) (rest:List TExtent) (rest_1:Nat):S:=stB [(1,.c (.int .i64) (.int want_1)),(2,.c (.int .i64) (.int most)),(6,.own 9003 [.int .i64,.int .i64] 0 got.length),(7,.own 9004 [.int .i64,.int .i64] 0 rest_1)] [(9003,.row 52 (List.map e_TExtent got)),(9004,.row 52 (List.map e_TExtent rest))]
def extent_Take_b2 (n:Nat) (most:Int) (want_1:Int) (got:List TExtent) (rest:List TExtent) (rest_1:Nat):Option ((Int×(List TExtent)×(List TExtent)×Nat) ⊕ ((((List TExtent)×(List TExtent)×Int) ⊕ (Unit)))) :=
  bif (if (decide (((got.length:Nat):Int) < most))=true then (decide (((rest_1:Nat):Int) > 0)) else false) then
    (loopF (fun (x:Nat×Int×Int)=>extent_Take_b4 n want_1 most got rest ((rest_1:Nat):Int) x.1 x.2.1 x.2.2) n (rest_1,0,0)).bind fun y23 =>
    match y23 with
    | .inl vv =>
      some (.inr (.inl (vv.1,vv.2.1,vv.2.2)))
    | .inr vv =>
      extent_Take_k3 n want_1 most got rest vv.1 vv.2
  else
    some (.inr (.inr ()))
def extent_Take (n:Nat) (free:List TExtent) (want:Int) (most:Int):Option ((List TExtent)×(List TExtent)×Int) :=
  (extent_Check n free 512).bind fun r1 =>
  bif (if (if (!r1)=true then true else (decide (want < 1)))=true then true else (decide (most < 1))) then
    some ([],[],1)
  else
    (slices_Clone_f40 n free).bind fun r2 =>
    (loopF (fun (x:Int×(List TExtent)×(List TExtent)×Nat)=>extent_Take_b2 n most x.1 x.2.1 x.2.2.1 x.2.2.2) n (want,[],r2,r2.length)).bind fun y9 =>
    match y9 with
    | .inl vv =>
      some (vv.1,vv.2.1,vv.2.2)
    | .inr vv =>
      extent_Take_k1 n
def xextent_Take (n:Nat):Go.AE.Fn:=mkFn (A:=(List TExtent)×Int×Int) (R:=(List TExtent)×(List TExtent)×Int) 41 [(false,[.slice 52]),(false,[.int .i64]),(false,[.int .i64])] true (fun xs=>(((cg (xs.getD 0 []) 0).toSl.map d_TExtent),(cg (xs.getD 1 []) 0).toInt,(cg (xs.getD 2 []) 0).toInt)) (fun a=>[[.slice (List.map e_TExtent a.1)],[.int a.2.1],[.int a.2.2]]) (fun a=>extent_Take n a.1 a.2.1 a.2.2) (fun r=>[.own 0 [.int .i64,.int .i64] 0 r.1.length,.c (.slice 52) (.slice (List.map e_TExtent r.2.1)),.c (.int .i64) (.int r.2.2)]) (fun r=>[.row 52 (List.map e_TExtent r.1)])
theorem cextent_Take (n:Nat):Contract Try.prog (xextent_Take n):=by
  have hΓ:=g1 (cextent_Check n) (g1 (cslices_Clone_f40 n) (@g0 (Contract Try.prog)))
  refine contract_f (Try.f41.body.getD .skip) h00 Try.func41 rfl Try.call41 (by decide) (by intro h;cases h) ?_
  rintro ⟨free,want,most⟩ r H
  try dsimp only at H
  unfold extent_Take at H
  simp only [Try.f41,Option.getD]
  refine rA ?_
  refine Sm.scope ?_
  refine Sm.seqK fun K2 hK2=>?_
  obtain ⟨r1,hr1,H⟩:=bind_some H
  have q:=And.intro @xextent_Check.eq_1 hr1
  refine rAq ?_
  refine cnd H (fun h4 H=>?_) (fun h4 H=>?_)
  · refine rA ?_
    refine Sm.ret ?_
    refine lf ?_
    obtain rfl:=Option.some.inj H
    exact rto [none]
  refine Sm.skip ?_
  refine hK2 _ ?_
  obtain ⟨r2,hr2,H⟩:=bind_some H
  have q:=And.intro @xextent_Check.eq_1 (And.intro @xslices_Clone_f40.eq_1 hr2)
  refine rAq ?_
  refine Sm.seqK fun K7 hK7=>?_
  refine Sm.of (Γ:=[]) h00 mixed (by simp) rfl ?_
  refine hK7 _ ?_
  refine Sm.cut (fun (x:Unit)=>extent_Take_s1) (fun x=>extent_Take_k1 n=some r) ?_ ?_
  · refine Sm.block ?_
    obtain ⟨y9,hy9,Ho9⟩:=bind_some H
    refine Sm.loopB _ (fun x=>extent_Take_t2 most x.1 x.2.1 x.2.2.1 x.2.2.2) hy9 (wb [none,some 384]) ?_
    rintro ⟨want_1,got,rest,rest_1⟩ z9 H
    try dsimp only at H
    unfold extent_Take_b2 at H
    refine Sm.st (extent_Take_t2.eq_1 ..) ?_
    refine Sm.seqK fun K10 hK10=>?_
    refine rA ?_
    refine cnd H (fun h12 H=>?_) (fun h12 H=>?_)
    · refine Sm.skip ?_
      refine hK10 _ ?_
      refine Sm.block ?_
      refine rA ?_
      refine Sm.cut (fun (x:Nat×Int)=>extent_Take_s3 want_1 most got rest x.1 x.2) (fun x=>extent_Take_k3 n want_1 most got rest x.1 x.2=some z9) ?_ ?_
      · refine rA ?_
        refine Sm.block ?_
        obtain ⟨y23,hy23,Ho23⟩:=bind_some H
        refine Sm.loopB _ (fun x=>extent_Take_t4 want_1 most got rest ((rest_1:Nat):Int) x.1 x.2.1 x.2.2) hy23 (wb [some 9003,some 9004]) ?_
        rintro ⟨rest_3,longest_1,v36⟩ z23 H
        try dsimp only at H
        unfold extent_Take_b4 at H
        refine Sm.st (extent_Take_t4.eq_1 ..) ?_
        refine rA ?_
        refine Sm.seqK fun K25 hK25=>?_
        refine cnd H (fun h26 H=>?_) (fun h26 H=>?_)
        · refine Sm.skip ?_
          refine hK25 _ ?_
          refine Sm.cut (fun (x:Int)=>extent_Take_s5 want_1 most got rest rest_3 x ((rest_1:Nat):Int) v36) (fun x=>extent_Take_k5 n want_1 most got rest rest_3 x ((rest_1:Nat):Int) v36=some z23) ?_ ?_
          · refine Sm.block ?_
            obtain ⟨⟨hg47,hg48⟩,H⟩:=gd_some H
            refine rA ?_
            refine Sm.seqK fun K28 hK28=>?_
            refine rA ?_
            refine cnd H (fun h30 H=>?_) (fun h30 H=>?_)
            · obtain ⟨hg36,H⟩:=gd_some H
              refine rA ?_
              obtain ⟨⟨hg34,hg35⟩,H⟩:=gd_some H
              refine rA ?_
              refine rA ?_
              refine Sm.ret ?_
              refine lf ?_
              refine lx H fun hyy=>?_
              subst hyy
              have H:=Ho23
              try dsimp only at H
              refine lf ?_
              refine lx H fun hyy=>?_
              subst hyy
              have H:=Ho9
              try dsimp only at H
              refine lf ?_
              obtain rfl:=Option.some.inj H
              exact rto [some 816]
            refine Sm.skip ?_
            refine hK28 _ ?_
            refine Sm.seqK fun K37 hK37=>?_
            refine rA ?_
            refine cnd H (fun h39 H=>?_) (fun h39 H=>?_)
            · obtain ⟨hg42,H⟩:=gd_some H
              refine rA ?_
              refine sX fun K41 hK41=>?_
              obtain ⟨r4,hr4,H⟩:=bind_some H
              have q:=hr4
              iterate 5 refine oX ?_
              refine oMq (cslices_Delete_f67_M2 n _ _ _ _ r4 hr4) [9012] [] ?_
              iterate 3 refine oXq ?_
              refine hK41 _ ?_
              refine Sm.ret ?_
              refine lf ?_
              refine lx H fun hyy=>?_
              subst hyy
              have H:=Ho23
              try dsimp only at H
              refine lf ?_
              refine lx H fun hyy=>?_
              subst hyy
              have H:=Ho9
              try dsimp only at H
              refine lf ?_
              obtain rfl:=Option.some.inj H
              exact rto [some 1168]
            refine Sm.skip ?_
            refine hK37 _ ?_
            obtain ⟨⟨hg45,hg46⟩,H⟩:=gd_some H
            refine rD ?_
            refine cnd H (fun h44 H=>?_) (fun h44 H=>?_)
            · refine eA ?_
              refine lf ?_
              exact ⟨_,H,wb [some 9011,some 9012]⟩
            refine Sm.skip ?_
            refine lf ?_
            exact ⟨_,H,wb [some 9011,some 9012]⟩
          rintro longest_2 H
          try dsimp only at H
          unfold extent_Take_k5 at H
          refine Sm.st (extent_Take_s5.eq_1 ..) ?_
          refine eA ?_
          refine lf ?_
          exact nx H (wb [some 9013,some 9014])
        refine Sm.exit ?_
        refine lf ?_
        refine lx H fun hyy=>?_
        subst hyy
        have H:=Ho23
        try dsimp only at H
        refine lf ?_
        exact ⟨(rest_3,longest_1),H,wb [some 9011,some 9012]⟩
      rintro ⟨rest_2,longest⟩ H
      try dsimp only at H
      unfold extent_Take_k3 at H
      refine Sm.st (extent_Take_s3.eq_1 ..) ?_
      obtain ⟨⟨hg19,hg20,hg21⟩,H⟩:=gd_some H
      refine rA ?_
      obtain ⟨⟨hg17,hg18⟩,H⟩:=gd_some H
      refine rA ?_
      refine sX fun K16 hK16=>?_
      obtain ⟨r3,hr3,H⟩:=bind_some H
      have q:=hr3
      iterate 4 refine oX ?_
      refine oMq (cslices_Delete_f67_M2 n _ _ _ _ r3 hr3) [9006] [] ?_
      refine oXq ?_
      refine hK16 _ ?_
      refine Sm.exit ?_
      refine lf ?_
      exact nx H (wb [some 1536,some 9006])
    refine Sm.exit ?_
    refine lf ?_
    refine lx H fun hyy=>?_
    subst hyy
    have H:=Ho9
    try dsimp only at H
    refine lf ?_
    exact ⟨(),H,wb []⟩
  rintro ⟨⟩ H
  try dsimp only at H
  unfold extent_Take_k1 at H
  refine Sm.st (extent_Take_s1.eq_1 ..) ?_
  refine rA ?_
  refine Sm.ret ?_
  refine lf ?_
  obtain rfl:=Option.some.inj H
  exact rto [none]
def spool_Put (n:Nat) (s:TSpace) (l:List TLine):Option (TSpace×TFile×(List (List TRec))×Int) :=
  (spool_Check n s).bind fun r1 =>
  bif (r1 != 0) then
    some ((⟨0,[]⟩:TSpace),(⟨[],0⟩:TFile),[],1)
  else
    (spool_Tracks n l).bind fun r2 =>
    bif (r2.2 != 0) then
      some ((⟨0,[]⟩:TSpace),(⟨[],0⟩:TFile),[],r2.2)
    else
      bif (((r2.1.length:Nat):Int) == 0) then
        (slices_Clone_f40 n s.Free).bind fun r3 =>
        some ((⟨s.Tracks,r3⟩:TSpace),(⟨[],0⟩:TFile),[],0)
      else
        (extent_Take n s.Free ((r2.1.length:Nat):Int) 8).bind fun r4 =>
        bif (r4.2.2 != 0) then
          some ((⟨0,[]⟩:TSpace),(⟨[],0⟩:TFile),[],7)
        else
          some ((⟨s.Tracks,r4.2.1⟩:TSpace),(⟨r4.1,(l.length:Int)⟩:TFile),r2.1,0)
def xspool_Put (n:Nat):Go.AE.Fn:=mkFn (A:=TSpace×(List TLine)) (R:=TSpace×TFile×(List (List TRec))×Int) 19 [(true,[.int .i64,.slice 52]),(false,[.slice 48])] true (fun xs=>((⟨(cg (xs.getD 0 []) 0).toInt,((cg (xs.getD 0 []) 1).toSl.map d_TExtent)⟩:TSpace),((cg (xs.getD 1 []) 0).toSl.map d_TLine))) (fun a=>[[.int a.1.Tracks,.slice (List.map e_TExtent a.1.Free)],[.slice (List.map e_TLine a.2)]]) (fun a=>spool_Put n a.1 a.2) (fun r=>[.agg [.c (.int .i64) (.int r.1.Tracks),.c (.slice 52) (.slice (List.map e_TExtent r.1.Free))],.agg [.own 0 [.int .i64,.int .i64] 0 r.2.1.Extents.length,.c (.int .i64) (.int r.2.1.Lines)],.own 1 [.slice 59] 0 r.2.2.1.length,.c (.int .i64) (.int r.2.2.2)]) (fun r=>[.row 52 (List.map e_TExtent r.2.1.Extents),.row 57 (List.map e_LTRec r.2.2.1)])
theorem cspool_Put (n:Nat):Contract Try.prog (xspool_Put n):=by
  have hΓ:=g1 (cspool_Check n) (g1 (cspool_Tracks n) (g1 (cslices_Clone_f40 n) (g1 (cextent_Take n) (@g0 (Contract Try.prog)))))
  refine contract_f (Try.f19.body.getD .skip) h00 Try.func19 rfl Try.call19 (by decide) (by intro h;cases h) ?_
  rintro ⟨s,l⟩ r H
  try dsimp only at H
  unfold spool_Put at H
  simp only [Try.f19,Option.getD]
  refine rA ?_
  refine Sm.seqK fun K2 hK2=>?_
  obtain ⟨r1,hr1,H⟩:=bind_some H
  have q:=And.intro @xspool_Check.eq_1 hr1
  refine rAq ?_
  refine cnd H (fun h4 H=>?_) (fun h4 H=>?_)
  · refine rA ?_
    refine Sm.ret ?_
    refine lf ?_
    obtain rfl:=Option.some.inj H
    exact rto [none,none]
  refine Sm.skip ?_
  refine hK2 _ ?_
  obtain ⟨r2,hr2,H⟩:=bind_some H
  have q:=And.intro @xspool_Check.eq_1 (And.intro @xspool_Tracks.eq_1 hr2)
  refine rAq ?_
  refine Sm.seqK fun K7 hK7=>?_
  refine rA ?_
  refine cnd H (fun h9 H=>?_) (fun h9 H=>?_)
  · refine rA ?_
    refine Sm.ret ?_
    refine lf ?_
    obtain rfl:=Option.some.inj H
    exact rto [none,none]
  refine Sm.skip ?_
  refine hK7 _ ?_
  refine Sm.seqK fun K11 hK11=>?_
  refine rA ?_
  refine cnd H (fun h13 H=>?_) (fun h13 H=>?_)
  · obtain ⟨r3,hr3,H⟩:=bind_some H
    refine sQ [0,1,2,3,4,5,6,7,8,9,10] [(none,[32],[]),(none,[32],[]),(none,[32],[]),(none,[32],[]),(none,[],[559,558,557,556,555,554,553,552,551,550,549,548,547,546,545,544]),(none,[544],[]),(none,[],[]),(none,[64,544],[64]),(none,[80],[80]),(none,[],[]),(none,[],[])] fun K14 hK14=>?_
    have q:=And.intro @xspool_Check.eq_1 (And.intro @xspool_Tracks.eq_1 (And.intro @xslices_Clone_f40.eq_1 hr3))
    iterate 11 refine oQq ?_
    refine opsQ0 ?_
    refine hK14 _ ?_
    refine Sm.ret ?_
    refine lf ?_
    obtain rfl:=Option.some.inj H
    exact rto [none,none]
  refine Sm.skip ?_
  refine hK11 _ ?_
  obtain ⟨r4,hr4,H⟩:=bind_some H
  have q:=And.intro @xspool_Check.eq_1 (And.intro @xspool_Tracks.eq_1 (And.intro @xslices_Clone_f40.eq_1 (And.intro @xextent_Take.eq_1 hr4)))
  refine rAq ?_
  refine Sm.seqK fun K16 hK16=>?_
  refine rA ?_
  refine cnd H (fun h18 H=>?_) (fun h18 H=>?_)
  · refine rA ?_
    refine Sm.ret ?_
    refine lf ?_
    obtain rfl:=Option.some.inj H
    exact rto [none,none]
  refine Sm.skip ?_
  refine hK16 _ ?_
  refine rA ?_
  refine Sm.ret ?_
  refine lf ?_
  obtain rfl:=Option.some.inj H
  exact rto [some 672,some 304]
def spool_Drop_1_M1 (n:Nat) (x_:TExtent) (p1:Int) (p1_:List TExtent):Option Bool :=
  some (decide ((IntKind.wrap .i64 (x_.At+x_.Len)) > p1))
theorem cspool_Drop_1_M1 (n:Nat) (x_:TExtent) (p1:Int) (p1_:List TExtent) (r:Bool) (H:spool_Drop_1_M1 n x_ p1 p1_=some r):CallsM Try.prog 38 [.dat (true,[.int .i64,.int .i64]) [.int x_.At,.int x_.Len],.ref (.box 0 0)] [.box [.c (.int .i64) (.int p1),.c (.slice 52) (.slice (List.map e_TExtent p1_))]] [.c .bool (.bool r)] [.box [.c (.int .i64) (.int p1),.c (.slice 52) (.slice (List.map e_TExtent p1_))]]:=by
  have hΓ:=@g0 (Contract Try.prog)
  refine callsM_of (Try.f38.body.getD .skip) h00 Try.func38 rfl Try.call38 (Nat.le_of_ble_eq_true rfl) (Nat.le_of_ble_eq_true rfl) ?_
  unfold spool_Drop_1_M1 at H
  simp only [Try.f38,Option.getD]
  refine rA ?_
  refine rA ?_
  refine Sm.ret ?_
  refine lf ?_
  obtain rfl:=Option.some.inj H
  exact rtM [some 0]
abbrev slices_IndexFunc_f65_M1_s1 (f:Int) (f_:List TExtent):S:=stB [] [(0,.box [.c (.int .i64) (.int f),.c (.slice 52) (.slice (List.map e_TExtent f_))])]
def slices_IndexFunc_f65_M1_k1 (n:Nat) (f:Int) (f_:List TExtent):Option Int :=
  some (-1)
abbrev slices_IndexFunc_f65_M1_t2 (f:Int) (f_:List TExtent) (s:List TExtent) (v7:Int) (v8:Int):S:=stB [(0,.c (.slice 52) (.slice (List.map e_TExtent s))),(1,.fnv 38 [.box 0 0]),(7,.c (.int .i64) (.int v7)),(8,.c (.int .i64) (.int v8))] [(0,.box [.c (.int .i64) (.int f),.c (.slice 52) (.slice (List.map e_TExtent f_))])]
def slices_IndexFunc_f65_M1_b2 (n:Nat) (f:Int) (f_:List TExtent) (s:List TExtent) (v7:Int) (v8:Int):Option ((Int) ⊕ (((Int) ⊕ (Unit)))) :=
  bif (decide (v8 < v7)) then
    gd ((0≤v8∧v8 < (s.length:Int))) <|
    (spool_Drop_1_M1 n (gt s (Int.toNat v8)) f f_).bind fun r1 =>
    bif r1 then
      some (.inr (.inl v8))
    else
      some (.inl (IntKind.wrap .i64 (v8+1)))
  else
    some (.inr (.inr ()))
def slices_IndexFunc_f65_M1 (n:Nat) (s:List TExtent) (f:Int) (f_:List TExtent):Option Int :=
  (loopF (fun (x:Int)=>slices_IndexFunc_f65_M1_b2 n f f_ s (s.length:Int) x) n 0).bind fun y4 =>
  match y4 with
  | .inl vv =>
    some vv
  | .inr vv =>
    slices_IndexFunc_f65_M1_k1 n f f_
theorem cslices_IndexFunc_f65_M1 (n:Nat) (s:List TExtent) (f:Int) (f_:List TExtent) (r:Int) (H:slices_IndexFunc_f65_M1 n s f f_=some r):CallsM Try.prog 65 [.dat (false,[.slice 52]) [.slice (List.map e_TExtent s)],.ref (.fnv 38 [.box 0 0])] [.box [.c (.int .i64) (.int f),.c (.slice 52) (.slice (List.map e_TExtent f_))]] [.c (.int .i64) (.int r)] [.box [.c (.int .i64) (.int f),.c (.slice 52) (.slice (List.map e_TExtent f_))]]:=by
  have hΓ:=@g0 (Contract Try.prog)
  refine callsM_of (Try.f65.body.getD .skip) h00 Try.func65 rfl Try.call65 (Nat.le_of_ble_eq_true rfl) (Nat.le_of_ble_eq_true rfl) ?_
  unfold slices_IndexFunc_f65_M1 at H
  simp only [Try.f65,Option.getD]
  refine rA ?_
  refine Sm.cut (fun (x:Unit)=>slices_IndexFunc_f65_M1_s1 f f_) (fun x=>slices_IndexFunc_f65_M1_k1 n f f_=some r) ?_ ?_
  · refine rA ?_
    refine Sm.block ?_
    obtain ⟨y4,hy4,Ho4⟩:=bind_some H
    refine Sm.loopB _ (fun x=>slices_IndexFunc_f65_M1_t2 f f_ s (s.length:Int) x) hy4 (wb [some 0]) ?_
    rintro v8 z4 H
    try dsimp only at H
    unfold slices_IndexFunc_f65_M1_b2 at H
    refine Sm.st (slices_IndexFunc_f65_M1_t2.eq_1 ..) ?_
    refine rA ?_
    refine Sm.seqK fun K6 hK6=>?_
    refine cnd H (fun h7 H=>?_) (fun h7 H=>?_)
    · refine Sm.skip ?_
      refine hK6 _ ?_
      refine Sm.seqK fun K8 hK8=>?_
      refine Sm.block ?_
      refine rA ?_
      refine sX fun K10 hK10=>?_
      obtain ⟨hg11,H⟩:=gd_some H
      obtain ⟨r1,hr1,H⟩:=bind_some H
      have q:=hr1
      iterate 5 refine oX ?_
      refine oMq (cspool_Drop_1_M1 n _ _ _ r1 hr1) [0] [] ?_
      refine hK10 _ ?_
      refine cnd H (fun h12 H=>?_) (fun h12 H=>?_)
      · refine rA ?_
        refine Sm.ret ?_
        refine lf ?_
        refine lx H fun hyy=>?_
        subst hyy
        have H:=Ho4
        try dsimp only at H
        refine lf ?_
        obtain rfl:=Option.some.inj H
        exact rtM [some 0]
      refine Sm.skip ?_
      refine hK8 _ ?_
      refine eA ?_
      refine lf ?_
      exact nx H (wb [some 0])
    refine Sm.exit ?_
    refine lf ?_
    refine lx H fun hyy=>?_
    subst hyy
    have H:=Ho4
    try dsimp only at H
    refine lf ?_
    exact ⟨(),H,wb [some 0]⟩
  rintro ⟨⟩ H
  try dsimp only at H
  unfold slices_IndexFunc_f65_M1_k1 at H
  refine Sm.st (slices_IndexFunc_f65_M1_s1.eq_1 ..) ?_
  refine rA ?_
  refine Sm.ret ?_
  refine lf ?_
  obtain rfl:=Option.some.inj H
  exact rtM [some 0]
def slices_ContainsFunc_f37_M1 (n:Nat) (s:List TExtent) (f:Int) (f_:List TExtent):Option Bool :=
  (slices_IndexFunc_f65_M1 n s f f_).bind fun r1 =>
  some (decide (r1 ≥ 0))
theorem cslices_ContainsFunc_f37_M1 (n:Nat) (s:List TExtent) (f:Int) (f_:List TExtent) (r:Bool) (H:slices_ContainsFunc_f37_M1 n s f f_=some r):CallsM Try.prog 37 [.dat (false,[.slice 52]) [.slice (List.map e_TExtent s)],.ref (.fnv 38 [.box 0 0])] [.box [.c (.int .i64) (.int f),.c (.slice 52) (.slice (List.map e_TExtent f_))]] [.c .bool (.bool r)] [.box [.c (.int .i64) (.int f),.c (.slice 52) (.slice (List.map e_TExtent f_))]]:=by
  have hΓ:=@g0 (Contract Try.prog)
  refine callsM_of (Try.f37.body.getD .skip) h00 Try.func37 rfl Try.call37 (Nat.le_of_ble_eq_true rfl) (Nat.le_of_ble_eq_true rfl) ?_
  unfold slices_ContainsFunc_f37_M1 at H
  simp only [Try.f37,Option.getD]
  refine rA ?_
  refine sX fun K2 hK2=>?_
  obtain ⟨r1,hr1,H⟩:=bind_some H
  have q:=hr1
  iterate 2 refine oX ?_
  refine oMq (cslices_IndexFunc_f65_M1 n _ _ _ r1 hr1) [0] [] ?_
  iterate 2 refine oXq ?_
  refine hK2 _ ?_
  refine Sm.ret ?_
  refine lf ?_
  obtain rfl:=Option.some.inj H
  exact rtM [some 0]
def extent_Overlap (n:Nat) (a:List TExtent) (b:List TExtent):Option Bool :=
  (extent_Valid n a).bind fun r1 =>
  gd ((r1=true→(extent_Valid n b).isSome=true)) <|
  bif (if r1=true then ((extent_Valid n b).getD default) else false) then
    gd ((if r1=true then ((extent_Valid n b).getD default) else false)=true) <|
    (slices_Clone_f40 n a).bind fun r2 =>
    gd ((r2.length+b.length)≤2147483648) <|
    (extent_Valid n (r2 ++ b)).bind fun r3 =>
    some (!r3)
  else
    some false
def xextent_Overlap (n:Nat):Go.AE.Fn:=mkFn (A:=(List TExtent)×(List TExtent)) (R:=Bool) 66 [(false,[.slice 52]),(false,[.slice 52])] false (fun xs=>(((cg (xs.getD 0 []) 0).toSl.map d_TExtent),((cg (xs.getD 1 []) 0).toSl.map d_TExtent))) (fun a=>[[.slice (List.map e_TExtent a.1)],[.slice (List.map e_TExtent a.2)]]) (fun a=>extent_Overlap n a.1 a.2) (fun r=>[.c .bool (.bool r)]) (fun r=>[])
theorem cextent_Overlap (n:Nat):Contract Try.prog (xextent_Overlap n):=by
  have hΓ:=g1 (cextent_Valid n) (g1 (cslices_Clone_f40 n) (@g0 (Contract Try.prog)))
  refine contract_f (Try.f66.body.getD .skip) h00 Try.func66 rfl Try.call66 (by decide) (by intro _ r;exact ⟨rfl,by simp⟩) ?_
  rintro ⟨a,b⟩ r H
  try dsimp only at H
  unfold extent_Overlap at H
  simp only [Try.f66,Option.getD]
  refine rA ?_
  refine sX fun K2 hK2=>?_
  obtain ⟨r1,hr1,H⟩:=bind_some H
  obtain ⟨hg3,H⟩:=gd_some H
  have q:=And.intro @xextent_Valid.eq_1 (And.intro @xslices_Clone_f40.eq_1 hr1)
  iterate 8 refine oXq ?_
  refine bif_cases H (fun hs4 H=>?_) (fun hs4 H=>?_)
  · try simp only [z,seval,hr1] at hs4
    try simp only [hs4,Bool.not_false,Bool.not_true,Bool.false_eq_true,true_implies,false_implies,forall_const] at hg3
    obtain ⟨hg5,H⟩:=gd_some H
    obtain ⟨r2,hr2,H⟩:=bind_some H
    obtain ⟨hg6,H⟩:=gd_some H
    obtain ⟨r3,hr3,H⟩:=bind_some H
    have q:=And.intro @xextent_Valid.eq_1 (And.intro @xslices_Clone_f40.eq_1 (And.intro hr1 (And.intro hs4 (And.intro hr2 hr3))))
    refine oTG ?_
    refine oTG ?_
    refine oTG ?_
    refine oTG ?_
    refine oTG ?_
    refine oPl ?_
    refine oXq ?_
    refine hK2 _ ?_
    refine Sm.ret ?_
    refine lf ?_
    obtain rfl:=Option.some.inj H
    exact rt []
  try simp only [z,seval,hr1] at hs4
  try simp only [hs4,Bool.not_false,Bool.not_true,Bool.false_eq_true,true_implies,false_implies,forall_const] at hg3
  have q:=And.intro @xextent_Valid.eq_1 (And.intro @xslices_Clone_f40.eq_1 (And.intro hr1 hs4))
  refine oFq ?_
  refine oFq ?_
  refine oFq ?_
  refine oFq ?_
  refine oFq ?_
  refine oPr ?_
  refine oXq ?_
  refine hK2 _ ?_
  refine Sm.ret ?_
  refine lf ?_
  obtain rfl:=Option.some.inj H
  exact rt []
abbrev extent_Give_s1 (out:List TExtent):S:=stB [(6,.own 9000 [.int .i64,.int .i64] 0 out.length)] [(9000,.row 52 (List.map e_TExtent out))]
def extent_Give_k1 (n:Nat) (out:List TExtent):Option ((List TExtent)×Int) :=
  some (out,0)
abbrev extent_Give_s3 (out_2:List TExtent) (v27:List TExtent) (v28:Int) (v29:Int):S:=stB [(6,.own 9003 [.int .i64,.int .i64] 0 out_2.length),(27,.c (.slice 52) (.slice (List.map e_TExtent v27))),(28,.c (.int .i64) (.int v28)),(29,.c (.int .i64) (.int v29))] [(9003,.row 52 (List.map e_TExtent out_2))]
def extent_Give_k3 (n:Nat) (out_2:List TExtent) (v27:List TExtent) (v28:Int) (v29:Int):Option (((List TExtent)×Int) ⊕ (((List TExtent)))) :=
  some (.inl (out_2,(IntKind.wrap .i64 (v29+1))))
abbrev extent_Give_t2 (v27:List TExtent) (v28:Int) (out_1:List TExtent) (v29:Int):S:=stB [(6,.own 9002 [.int .i64,.int .i64] 0 out_1.length),(27,.c (.slice 52) (.slice (List.map e_TExtent v27))),(28,.c (.int .i64) (.int v28)),(29,.c (.int .i64) (.int v29))] [(9002,.row 52 (List.map e_TExtent out_1))]
def extent_Give_b2 (n:Nat) (v27:List TExtent) (v28:Int) (out_1:List TExtent) (v29:Int):Option (((List TExtent)×Int) ⊕ (((List TExtent)))) :=
  bif (decide (v29 < v28)) then
    gd ((0≤v29∧v29 < (v27.length:Int))) <|
    gd (((decide (((out_1.length:Nat):Int) > 0))=true→(0≤(IntKind.wrap .i64 (((out_1.length:Nat):Int) - 1))∧(IntKind.wrap .i64 (((out_1.length:Nat):Int) - 1)) < (out_1.length:Int)))∧((decide (((out_1.length:Nat):Int) > 0))=true→(Int.toNat (IntKind.wrap .i64 (((out_1.length:Nat):Int) - 1))) < out_1.length)∧((decide (((out_1.length:Nat):Int) > 0))=true→(0≤(IntKind.wrap .i64 (((out_1.length:Nat):Int) - 1))∧(IntKind.wrap .i64 (((out_1.length:Nat):Int) - 1)) < (out_1.length:Int)))∧((decide (((out_1.length:Nat):Int) > 0))=true→(Int.toNat (IntKind.wrap .i64 (((out_1.length:Nat):Int) - 1))) < out_1.length)) <|
    bif (if (decide (((out_1.length:Nat):Int) > 0))=true then ((IntKind.wrap .i64 (((gt out_1 (Int.toNat (IntKind.wrap .i64 (((out_1.length:Nat):Int) - 1)))).At)+((gt out_1 (Int.toNat (IntKind.wrap .i64 (((out_1.length:Nat):Int) - 1)))).Len))) == ((gt v27 (Int.toNat v29)).At)) else false) then
      gd ((0≤(IntKind.wrap .i64 (((out_1.length:Nat):Int) - 1))∧(IntKind.wrap .i64 (((out_1.length:Nat):Int) - 1)) < (out_1.length:Int))∧(Int.toNat (IntKind.wrap .i64 (((out_1.length:Nat):Int) - 1))) < out_1.length∧(0≤(IntKind.wrap .i64 (((out_1.length:Nat):Int) - 1))∧(IntKind.wrap .i64 (((out_1.length:Nat):Int) - 1)) < (out_1.length:Int))∧(Int.toNat (IntKind.wrap .i64 (((out_1.length:Nat):Int) - 1))) < out_1.length) <|
      extent_Give_k3 n (List.set out_1 (Int.toNat (IntKind.wrap .i64 (((out_1.length:Nat):Int) - 1))) (⟨(gt out_1 (Int.toNat (IntKind.wrap .i64 (((out_1.length:Nat):Int) - 1)))).At,(IntKind.wrap .i64 (((gt out_1 (Int.toNat (IntKind.wrap .i64 (((out_1.length:Nat):Int) - 1)))).Len)+((gt v27 (Int.toNat v29)).Len)))⟩:TExtent)) v27 v28 v29
    else
      gd ((out_1.length+1)≤2147483648) <|
      extent_Give_k3 n (out_1 ++ [(gt v27 (Int.toNat v29))]) v27 v28 v29
  else
    some (.inr out_1)
def extent_Give (n:Nat) (free:List TExtent) (back:List TExtent):Option ((List TExtent)×Int) :=
  (extent_Check n free 512).bind fun r1 =>
  gd (((!(!r1))=true→(extent_Valid n back).isSome=true)∧((!(if (!r1)=true then true else (!((extent_Valid n back).getD default))))=true→(extent_Overlap n free back).isSome=true)) <|
  bif (if (if (!r1)=true then true else (!((extent_Valid n back).getD default)))=true then true else ((extent_Overlap n free back).getD default)) then
    some ([],1)
  else
    (slices_Clone_f40 n free).bind fun r2 =>
    gd ((r2.length+back.length)≤2147483648) <|
    (extent_sorted n (r2 ++ back)).bind fun r3 =>
    (loopF (fun (x:(List TExtent)×Int)=>extent_Give_b2 n r3 (r3.length:Int) x.1 x.2) n ([],0)).bind fun y9 =>
    extent_Give_k1 n y9
def xextent_Give (n:Nat):Go.AE.Fn:=mkFn (A:=(List TExtent)×(List TExtent)) (R:=(List TExtent)×Int) 39 [(false,[.slice 52]),(false,[.slice 52])] false (fun xs=>(((cg (xs.getD 0 []) 0).toSl.map d_TExtent),((cg (xs.getD 1 []) 0).toSl.map d_TExtent))) (fun a=>[[.slice (List.map e_TExtent a.1)],[.slice (List.map e_TExtent a.2)]]) (fun a=>extent_Give n a.1 a.2) (fun r=>[.own 0 [.int .i64,.int .i64] 0 r.1.length,.c (.int .i64) (.int r.2)]) (fun r=>[.row 52 (List.map e_TExtent r.1)])
theorem cextent_Give (n:Nat):Contract Try.prog (xextent_Give n):=by
  have hΓ:=g1 (cextent_Check n) (g1 (cextent_Valid n) (g1 (cextent_Overlap n) (g1 (cslices_Clone_f40 n) (g1 (cextent_sorted n) (@g0 (Contract Try.prog))))))
  refine contract_f (Try.f39.body.getD .skip) h00 Try.func39 rfl Try.call39 (by decide) (fun _ r=>⟨rfl,m1 ⟨52,_,_,rfl,ty52,rfl⟩ m0⟩) ?_
  rintro ⟨free,back⟩ r H
  try dsimp only at H
  unfold extent_Give at H
  simp only [Try.f39,Option.getD]
  refine rA ?_
  refine Sm.seqK fun K2 hK2=>?_
  obtain ⟨r1,hr1,H⟩:=bind_some H
  obtain ⟨⟨hg28,hg29⟩,H⟩:=gd_some H
  have q:=And.intro @xextent_Check.eq_1 (And.intro @xextent_Valid.eq_1 (And.intro @xextent_Overlap.eq_1 hr1))
  refine rAq ?_
  refine cnd H (fun h4 H=>?_) (fun h4 H=>?_)
  · refine rA ?_
    refine Sm.ret ?_
    refine lf ?_
    obtain rfl:=Option.some.inj H
    exact rto [none]
  refine Sm.skip ?_
  refine hK2 _ ?_
  refine rA ?_
  refine Sm.cut (fun (x:(List TExtent))=>extent_Give_s1 x) (fun x=>extent_Give_k1 n x=some r) ?_ ?_
  · obtain ⟨r2,hr2,H⟩:=bind_some H
    obtain ⟨hg27,H⟩:=gd_some H
    obtain ⟨r3,hr3,H⟩:=bind_some H
    have q:=And.intro @xextent_Check.eq_1 (And.intro @xextent_Valid.eq_1 (And.intro @xextent_Overlap.eq_1 (And.intro @xslices_Clone_f40.eq_1 (And.intro @xextent_sorted.eq_1 (And.intro hr2 hr3)))))
    refine rAq ?_
    refine Sm.block ?_
    obtain ⟨y9,hy9,Ho9⟩:=bind_some H
    refine Sm.loopB _ (fun x=>extent_Give_t2 r3 (r3.length:Int) x.1 x.2) hy9 (wb [none]) ?_
    rintro ⟨out_1,v29⟩ z9 H
    try dsimp only at H
    unfold extent_Give_b2 at H
    refine Sm.st (extent_Give_t2.eq_1 ..) ?_
    refine rA ?_
    refine Sm.seqK fun K11 hK11=>?_
    refine cnd H (fun h12 H=>?_) (fun h12 H=>?_)
    · refine Sm.skip ?_
      refine hK11 _ ?_
      refine Sm.cut (fun (x:(List TExtent))=>extent_Give_s3 x r3 (r3.length:Int) v29) (fun x=>extent_Give_k3 n x r3 (r3.length:Int) v29=some z9) ?_ ?_
      · refine Sm.block ?_
        obtain ⟨hg26,H⟩:=gd_some H
        refine rA ?_
        refine rA ?_
        obtain ⟨⟨hg22,hg23,hg24,hg25⟩,H⟩:=gd_some H
        refine rD ?_
        refine cnd H (fun h16 H=>?_) (fun h16 H=>?_)
        · obtain ⟨⟨hg17,hg18,hg19,hg20⟩,H⟩:=gd_some H
          refine eD ?_
          refine lf ?_
          exact ⟨_,H,wb [some 9002]⟩
        obtain ⟨hg21,H⟩:=gd_some H
        refine eA ?_
        refine lf ?_
        exact ⟨_,H,wb [some 1104]⟩
      rintro out_2 H
      try dsimp only at H
      unfold extent_Give_k3 at H
      refine Sm.st (extent_Give_s3.eq_1 ..) ?_
      refine eA ?_
      refine lf ?_
      exact nx H (wb [some 9003])
    refine Sm.exit ?_
    refine lf ?_
    refine lx H fun hyy=>?_
    subst hyy
    have H:=Ho9
    try dsimp only at H
    refine lf ?_
    exact ⟨_,H,wb [some 9002]⟩
  rintro out H
  try dsimp only at H
  unfold extent_Give_k1 at H
  refine Sm.st (extent_Give_s1.eq_1 ..) ?_
  refine rA ?_
  refine Sm.ret ?_
  refine lf ?_
  obtain rfl:=Option.some.inj H
  exact rto [some 9000]
def spool_Drop (n:Nat) (s:TSpace) (f:TFile):Option (TSpace×Int) :=
  (spool_Check n s).bind fun r1 =>
  gd (((!(r1 != 0))=true→(extent_Valid n f.Extents).isSome=true)) <|
  bif (if (r1 != 0)=true then true else (!((extent_Valid n f.Extents).getD default))) then
    some ((⟨0,[]⟩:TSpace),1)
  else
    gd ((!(if (r1 != 0)=true then true else (!((extent_Valid n f.Extents).getD default))))=true) <|
    (slices_ContainsFunc_f37_M1 n f.Extents s.Tracks s.Free).bind fun r2 =>
    bif r2 then
      some ((⟨0,[]⟩:TSpace),1)
    else
      (extent_Give n s.Free f.Extents).bind fun r3 =>
      bif (r3.2 != 0) then
        some ((⟨0,[]⟩:TSpace),1)
      else
        some ((⟨s.Tracks,r3.1⟩:TSpace),0)
def xspool_Drop (n:Nat):Go.AE.Fn:=mkFn (A:=TSpace×TFile) (R:=TSpace×Int) 18 [(true,[.int .i64,.slice 52]),(true,[.slice 52,.int .i64])] false (fun xs=>((⟨(cg (xs.getD 0 []) 0).toInt,((cg (xs.getD 0 []) 1).toSl.map d_TExtent)⟩:TSpace),(⟨((cg (xs.getD 1 []) 0).toSl.map d_TExtent),(cg (xs.getD 1 []) 1).toInt⟩:TFile))) (fun a=>[[.int a.1.Tracks,.slice (List.map e_TExtent a.1.Free)],[.slice (List.map e_TExtent a.2.Extents),.int a.2.Lines]]) (fun a=>spool_Drop n a.1 a.2) (fun r=>[.agg [.c (.int .i64) (.int r.1.Tracks),.own 0 [.int .i64,.int .i64] 0 r.1.Free.length],.c (.int .i64) (.int r.2)]) (fun r=>[.row 52 (List.map e_TExtent r.1.Free)])
theorem cspool_Drop (n:Nat):Contract Try.prog (xspool_Drop n):=by
  have hΓ:=g1 (cspool_Check n) (g1 (cextent_Valid n) (g1 (cextent_Give n) (@g0 (Contract Try.prog))))
  refine contract_f (Try.f18.body.getD .skip) h00 Try.func18 rfl Try.call18 (by decide) (fun _ r=>⟨rfl,m1 ⟨52,_,_,rfl,ty52,rfl⟩ m0⟩) ?_
  rintro ⟨s,f⟩ r H
  try dsimp only at H
  unfold spool_Drop at H
  simp only [Try.f18,Option.getD]
  refine rA ?_
  refine Sm.seqK fun K2 hK2=>?_
  refine sX fun K3 hK3=>?_
  obtain ⟨r1,hr1,H⟩:=bind_some H
  obtain ⟨hg4,H⟩:=gd_some H
  have q:=And.intro @xspool_Check.eq_1 (And.intro @xextent_Valid.eq_1 hr1)
  iterate 12 refine oXq ?_
  refine bif_cases H (fun hs5 H=>?_) (fun hs5 H=>?_)
  · try simp only [z,seval,hr1] at hs5
    try simp only [hs5,Bool.not_false,Bool.not_true,Bool.false_eq_true,true_implies,false_implies,forall_const] at hg4
    have q:=And.intro @xspool_Check.eq_1 (And.intro @xextent_Valid.eq_1 (And.intro hr1 hs5))
    refine oFq ?_
    refine oFq ?_
    refine oPl ?_
    refine hK3 _ ?_
    refine cndT ?_
    refine rA ?_
    refine Sm.ret ?_
    refine lf ?_
    obtain rfl:=Option.some.inj H
    exact rto [none]
  try simp only [z,seval,hr1] at hs5
  try simp only [hs5,Bool.not_false,Bool.not_true,Bool.false_eq_true,true_implies,false_implies,forall_const] at hg4
  obtain ⟨hg8,H⟩:=gd_some H
  obtain ⟨r2,hr2,H⟩:=bind_some H
  have q:=And.intro @xspool_Check.eq_1 (And.intro @xextent_Valid.eq_1 (And.intro hr1 (And.intro hs5 hr2)))
  refine oTY ?_
  refine oTM (cslices_ContainsFunc_f37_M1 n _ _ _ r2 hr2) [32] [] ?_
  refine oPr ?_
  refine hK3 _ ?_
  refine cnd H (fun h9 H=>?_) (fun h9 H=>?_)
  · refine rA ?_
    refine Sm.ret ?_
    refine lf ?_
    obtain rfl:=Option.some.inj H
    exact rto [none]
  refine Sm.skip ?_
  refine hK2 _ ?_
  obtain ⟨r3,hr3,H⟩:=bind_some H
  have q:=And.intro @xspool_Check.eq_1 (And.intro @xextent_Valid.eq_1 (And.intro @xextent_Give.eq_1 hr3))
  refine rAq ?_
  refine Sm.seqK fun K12 hK12=>?_
  refine rA ?_
  refine cnd H (fun h14 H=>?_) (fun h14 H=>?_)
  · refine rA ?_
    refine Sm.ret ?_
    refine lf ?_
    obtain rfl:=Option.some.inj H
    exact rto [none]
  refine Sm.skip ?_
  refine hK12 _ ?_
  refine rA ?_
  refine Sm.ret ?_
  refine lf ?_
  obtain rfl:=Option.some.inj H
  exact rto [some 464]
def law39_row (n:Nat) (l:List TExtent) (at_:Int) (n_:Int):Option Bool :=
  bif (n_ == 0) then
    some ((l.length:Int) == 0)
  else
    gd ((((l.length:Int) == 1)=true→0 < (l.length:Int))) <|
    some (if ((l.length:Int) == 1)=true then ((((gt l 0).At) == at_) && (((gt l 0).Len) == n_)) else false)
def xlaw39_row (n:Nat):Go.AE.Fn:=mkFn (A:=(List TExtent)×Int×Int) (R:=Bool) 28 [(false,[.slice 52]),(false,[.int .i64]),(false,[.int .i64])] false (fun xs=>(((cg (xs.getD 0 []) 0).toSl.map d_TExtent),(cg (xs.getD 1 []) 0).toInt,(cg (xs.getD 2 []) 0).toInt)) (fun a=>[[.slice (List.map e_TExtent a.1)],[.int a.2.1],[.int a.2.2]]) (fun a=>law39_row n a.1 a.2.1 a.2.2) (fun r=>[.c .bool (.bool r)]) (fun r=>[])
theorem claw39_row (n:Nat):Contract Try.prog (xlaw39_row n):=by
  have hΓ:=@g0 (Contract Try.prog)
  refine contract_f (Try.f28.body.getD .skip) h00 Try.func28 rfl Try.call28 (by decide) (by intro _ r;exact ⟨rfl,by simp⟩) ?_
  rintro ⟨l,at_,n_⟩ r H
  try dsimp only at H
  unfold law39_row at H
  simp only [Try.f28,Option.getD]
  refine rA ?_
  refine Sm.seqK fun K2 hK2=>?_
  refine rA ?_
  refine cnd H (fun h4 H=>?_) (fun h4 H=>?_)
  · refine rA ?_
    refine Sm.ret ?_
    refine lf ?_
    obtain rfl:=Option.some.inj H
    exact rt []
  refine Sm.skip ?_
  refine hK2 _ ?_
  obtain ⟨hg7,H⟩:=gd_some H
  refine rA ?_
  refine Sm.ret ?_
  refine lf ?_
  obtain rfl:=Option.some.inj H
  exact rt []
def bytes_Equal (n:Nat) (a:List Int) (b:List Int):Option Bool :=
  some ((toStr8 a) == (toStr8 b))
def xbytes_Equal (n:Nat):Go.AE.Fn:=mkFn (A:=(List Int)×(List Int)) (R:=Bool) 72 [(false,[.slice 5]),(false,[.slice 5])] false (fun xs=>(((cg (xs.getD 0 []) 0).toSl.map d_Int),((cg (xs.getD 1 []) 0).toSl.map d_Int))) (fun a=>[[.slice (List.map e_Int a.1)],[.slice (List.map e_Int a.2)]]) (fun a=>bytes_Equal n a.1 a.2) (fun r=>[.c .bool (.bool r)]) (fun r=>[])
theorem cbytes_Equal (n:Nat):Contract Try.prog (xbytes_Equal n):=by
  have hΓ:=@g0 (Contract Try.prog)
  refine contract_f (Try.f72.body.getD .skip) h00 Try.func72 rfl Try.call72 (by decide) (by intro _ r;exact ⟨rfl,by simp⟩) ?_
  rintro ⟨a,b⟩ r H
  try dsimp only at H
  unfold bytes_Equal at H
  simp only [Try.f72,Option.getD]
  refine rA ?_
  refine sX fun K2 hK2=>?_
  refine oX ?_
  refine oE stepV_ok ?_
  refine oX ?_
  refine oE stepV_ok ?_
  iterate 2 refine oX ?_
  refine hK2 _ ?_
  refine Sm.ret ?_
  refine lf ?_
  obtain rfl:=Option.some.inj H
  exact rt []
abbrev spool_group_s1 (l:List TLine):S:=stB [(6,.own 9000 [.int .i64,.str] 0 l.length)] [(9000,.row 48 (List.map e_TLine l))]
def spool_group_k1 (n:Nat) (l:List TLine):Option ((List TLine)×Bool) :=
  some (l,true)
abbrev spool_group_t2 (b_1:List Int) (l_1:List TLine):S:=stB [(0,.c (.slice 5) (.slice (List.map e_Int b_1))),(6,.own 9002 [.int .i64,.str] 0 l_1.length)] [(9002,.row 48 (List.map e_TLine l_1))]
def spool_group_b2 (n:Nat) (b_1:List Int) (l_1:List TLine):Option (((List Int)×(List TLine)) ⊕ ((((List TLine)×Bool) ⊕ ((List TLine))))) :=
  bif (decide ((b_1.length:Int) > 0)) then
    gd (((!(decide ((b_1.length:Int) < 2)))=true→1 < (b_1.length:Int))) <|
    bif (if (decide ((b_1.length:Int) < 2))=true then true else (decide ((b_1.length:Int) < (IntKind.wrap .i64 (2+(IntKind.wrap .i64 ((gt b_1 1)))))))) then
      some (.inr (.inl ([],false)))
    else
      gd (1 < (b_1.length:Int)) <|
      gd (0 < (b_1.length:Int)∧(0≤2∧2≤(IntKind.wrap .i64 (2+(IntKind.wrap .i64 ((gt b_1 1)))))∧(IntKind.wrap .i64 (2+(IntKind.wrap .i64 ((gt b_1 1)))))≤(b_1.length:Int))∧(l_1.length+1)≤2147483648) <|
      gd ((0≤(IntKind.wrap .i64 (2+(IntKind.wrap .i64 ((gt b_1 1)))))∧(IntKind.wrap .i64 (2+(IntKind.wrap .i64 ((gt b_1 1)))))≤(b_1.length:Int)∧(b_1.length:Int)≤(b_1.length:Int))) <|
      some (.inl ((List.drop (Int.toNat (IntKind.wrap .i64 (2+(IntKind.wrap .i64 ((gt b_1 1)))))) b_1),(l_1 ++ [(⟨(IntKind.wrap .i64 ((gt b_1 0))),(toStr8 (List.drop 2 (List.take (Int.toNat (IntKind.wrap .i64 (2+(IntKind.wrap .i64 ((gt b_1 1)))))) b_1)))⟩:TLine)])))
  else
    some (.inr (.inr l_1))
def spool_group (n:Nat) (b:List Int) (at_:Int):Option ((List TLine)×Bool) :=
  gd (((!(decide ((b.length:Int) < 4)))=true→4≤(b.length:Int))) <|
  bif (decide ((b.length:Int) < 4)) then
    some ([],false)
  else
    gd ((!(decide ((b.length:Int) < 4)))=true) <|
    (spool_index n at_).bind fun r1 =>
    gd ((!(decide ((b.length:Int) < 4)))=true) <|
    (bytes_Equal n (List.take 4 b) r1).bind fun r2 =>
    bif (!r2) then
      some ([],false)
    else
      gd ((0≤4∧4≤(b.length:Int)∧(b.length:Int)≤(b.length:Int))) <|
      (loopF (fun (x:(List Int)×(List TLine))=>spool_group_b2 n x.1 x.2) n ((List.drop 4 b),[])).bind fun y15 =>
      match y15 with
      | .inl vv =>
        some (vv.1,vv.2)
      | .inr vv =>
        spool_group_k1 n vv
def xspool_group (n:Nat):Go.AE.Fn:=mkFn (A:=(List Int)×Int) (R:=(List TLine)×Bool) 51 [(false,[.slice 5]),(false,[.int .i64])] false (fun xs=>(((cg (xs.getD 0 []) 0).toSl.map d_Int),(cg (xs.getD 1 []) 0).toInt)) (fun a=>[[.slice (List.map e_Int a.1)],[.int a.2]]) (fun a=>spool_group n a.1 a.2) (fun r=>[.own 0 [.int .i64,.str] 0 r.1.length,.c .bool (.bool r.2)]) (fun r=>[.row 48 (List.map e_TLine r.1)])
theorem cspool_group (n:Nat):Contract Try.prog (xspool_group n):=by
  have hΓ:=g1 (cspool_index n) (g1 (cbytes_Equal n) (@g0 (Contract Try.prog)))
  refine contract_f (Try.f51.body.getD .skip) h00 Try.func51 rfl Try.call51 (by decide) (fun _ r=>⟨rfl,m1 ⟨48,_,_,rfl,ty48,rfl⟩ m0⟩) ?_
  rintro ⟨b,at_⟩ r H
  try dsimp only at H
  unfold spool_group at H
  simp only [Try.f51,Option.getD]
  refine rA ?_
  refine Sm.seqK fun K2 hK2=>?_
  obtain ⟨hg4,H⟩:=gd_some H
  refine bif_cases H (fun hs5 H=>?_) (fun hs5 H=>?_)
  · try simp only [hs5,Bool.not_false,Bool.not_true,Bool.false_eq_true,true_implies,false_implies,forall_const] at hg4
    refine sQ [0,1,2,3,4,5,6,7,8,9,10] [(none,[],[]),(none,[],[]),(none,[],[]),(none,[],[]),(none,[],[]),(none,[],[]),(none,[],[]),(some false,[],[]),(some false,[],[]),(some false,[],[]),(some true,[],[])] fun K3 hK3=>?_
    have q:=And.intro @xspool_index.eq_1 (And.intro @xbytes_Equal.eq_1 hs5)
    iterate 11 refine oQq ?_
    refine opsQ0 ?_
    refine hK3 _ ?_
    refine cndT ?_
    refine rA ?_
    refine Sm.ret ?_
    refine lf ?_
    obtain rfl:=Option.some.inj H
    exact rto [none]
  try simp only [hs5,Bool.not_false,Bool.not_true,Bool.false_eq_true,true_implies,false_implies,forall_const] at hg4
  obtain ⟨hg8,H⟩:=gd_some H
  obtain ⟨r1,hr1,H⟩:=bind_some H
  obtain ⟨hg9,H⟩:=gd_some H
  obtain ⟨r2,hr2,H⟩:=bind_some H
  refine sQ [0,1,2,3,4,5,6,7,8,9,10] [(none,[],[]),(none,[],[]),(none,[],[]),(none,[],[]),(none,[],[]),(none,[],[]),(none,[],[]),(some true,[],[255,254,253,252,251,250,249,248,247,246,245,244,243,242,241,240]),(some true,[240],[271,270,269,268,267,266,265,264,263,262,261,260,259,258,257,256,240]),(some true,[],[]),(some false,[],[])] fun K3 hK3=>?_
  have q:=And.intro @xspool_index.eq_1 (And.intro @xbytes_Equal.eq_1 (And.intro hs5 (And.intro hr1 hr2)))
  iterate 11 refine oQq ?_
  refine opsQ0 ?_
  refine hK3 _ ?_
  refine cnd H (fun h10 H=>?_) (fun h10 H=>?_)
  · refine rA ?_
    refine Sm.ret ?_
    refine lf ?_
    obtain rfl:=Option.some.inj H
    exact rto [none]
  refine Sm.skip ?_
  refine hK2 _ ?_
  refine rA ?_
  refine Sm.cut (fun (x:(List TLine))=>spool_group_s1 x) (fun x=>spool_group_k1 n x=some r) ?_ ?_
  · obtain ⟨hg31,H⟩:=gd_some H
    refine rA ?_
    refine Sm.block ?_
    obtain ⟨y15,hy15,Ho15⟩:=bind_some H
    refine Sm.loopB _ (fun x=>spool_group_t2 x.1 x.2) hy15 (wb [none]) ?_
    rintro ⟨b_1,l_1⟩ z15 H
    try dsimp only at H
    unfold spool_group_b2 at H
    refine Sm.st (spool_group_t2.eq_1 ..) ?_
    refine Sm.seqK fun K16 hK16=>?_
    refine rA ?_
    refine cnd H (fun h18 H=>?_) (fun h18 H=>?_)
    · refine Sm.skip ?_
      refine hK16 _ ?_
      refine Sm.block ?_
      refine Sm.seqK fun K19 hK19=>?_
      obtain ⟨hg30,H⟩:=gd_some H
      refine rA ?_
      refine cnd H (fun h21 H=>?_) (fun h21 H=>?_)
      · refine rA ?_
        refine Sm.ret ?_
        refine lf ?_
        refine lx H fun hyy=>?_
        subst hyy
        have H:=Ho15
        try dsimp only at H
        refine lf ?_
        obtain rfl:=Option.some.inj H
        exact rto [none]
      refine Sm.skip ?_
      refine hK19 _ ?_
      obtain ⟨hg29,H⟩:=gd_some H
      refine rA ?_
      obtain ⟨⟨hg25,hg26,hg27⟩,H⟩:=gd_some H
      refine sQ [0,1,2,3,4,5,6,7,8,9,10,11,12] [(none,[],[]),(none,[],[]),(none,[],[]),(none,[],[]),(none,[],[]),(none,[],[]),(none,[],[]),(none,[],[]),(none,[1000001],[]),(none,[],[]),(none,[],[832]),(none,[832,9002],[848,9002]),(none,[],[])] fun K24 hK24=>?_
      iterate 8 refine oQ ?_
      refine oQV ?_
      iterate 4 refine oQ ?_
      refine opsQ0 ?_
      refine hK24 _ ?_
      obtain ⟨hg28,H⟩:=gd_some H
      refine eA ?_
      refine lf ?_
      exact nx H (wb [some 848])
    refine Sm.exit ?_
    refine lf ?_
    refine lx H fun hyy=>?_
    subst hyy
    have H:=Ho15
    try dsimp only at H
    refine lf ?_
    exact ⟨_,H,wb [some 9002]⟩
  rintro l H
  try dsimp only at H
  unfold spool_group_k1 at H
  refine Sm.st (spool_group_s1.eq_1 ..) ?_
  refine rA ?_
  refine Sm.ret ?_
  refine lf ?_
  obtain rfl:=Option.some.inj H
  exact rto [some 9000]
def spool_same (n:Nat) (a:TRec) (b:TRec):Option Bool :=
  gd (((if (a.R == b.R)=true then (a.Bad == b.Bad) else false)=true→(bytes_Equal n a.Key b.Key).isSome=true)∧((if (if (a.R == b.R)=true then (a.Bad == b.Bad) else false)=true then ((bytes_Equal n a.Key b.Key).getD default) else false)=true→(bytes_Equal n a.Data b.Data).isSome=true)) <|
  some (if (if (if (a.R == b.R)=true then (a.Bad == b.Bad) else false)=true then ((bytes_Equal n a.Key b.Key).getD default) else false)=true then ((bytes_Equal n a.Data b.Data).getD default) else false)
def xspool_same (n:Nat):Go.AE.Fn:=mkFn (A:=TRec×TRec) (R:=Bool) 55 [(true,[.int .i64,.slice 5,.slice 5,.bool]),(true,[.int .i64,.slice 5,.slice 5,.bool])] false (fun xs=>((⟨(cg (xs.getD 0 []) 0).toInt,((cg (xs.getD 0 []) 1).toSl.map d_Int),((cg (xs.getD 0 []) 2).toSl.map d_Int),(cg (xs.getD 0 []) 3).toBool⟩:TRec),(⟨(cg (xs.getD 1 []) 0).toInt,((cg (xs.getD 1 []) 1).toSl.map d_Int),((cg (xs.getD 1 []) 2).toSl.map d_Int),(cg (xs.getD 1 []) 3).toBool⟩:TRec))) (fun a=>[[.int a.1.R,.slice (List.map e_Int a.1.Key),.slice (List.map e_Int a.1.Data),.bool a.1.Bad],[.int a.2.R,.slice (List.map e_Int a.2.Key),.slice (List.map e_Int a.2.Data),.bool a.2.Bad]]) (fun a=>spool_same n a.1 a.2) (fun r=>[.c .bool (.bool r)]) (fun r=>[])
theorem cspool_same (n:Nat):Contract Try.prog (xspool_same n):=by
  have hΓ:=g1 (cbytes_Equal n) (@g0 (Contract Try.prog))
  refine contract_f (Try.f55.body.getD .skip) h00 Try.func55 rfl Try.call55 (by decide) (by intro _ r;exact ⟨rfl,by simp⟩) ?_
  rintro ⟨a,b⟩ r H
  try dsimp only at H
  unfold spool_same at H
  simp only [Try.f55,Option.getD]
  refine rA ?_
  obtain ⟨⟨hg3,hg4⟩,H⟩:=gd_some H
  have q:=@xbytes_Equal.eq_1
  refine rAq ?_
  refine Sm.ret ?_
  refine lf ?_
  obtain rfl:=Option.some.inj H
  exact rt []
abbrev slices_EqualFunc_f54_M1_s1:S:=stB [] []
def slices_EqualFunc_f54_M1_k1 (n:Nat):Option Bool :=
  some true
abbrev slices_EqualFunc_f54_M1_t2 (s2:List TRec) (s1:List TRec) (v16:Int) (v17:Int):S:=stB [(1,.c (.slice 59) (.slice (List.map e_TRec s2))),(2,.fnv 55 []),(15,.c (.slice 59) (.slice (List.map e_TRec s1))),(16,.c (.int .i64) (.int v16)),(17,.c (.int .i64) (.int v17))] []
def slices_EqualFunc_f54_M1_b2 (n:Nat) (s2:List TRec) (s1:List TRec) (v16:Int) (v17:Int):Option ((Int) ⊕ (((Bool) ⊕ (Unit)))) :=
  bif (decide (v17 < v16)) then
    gd ((0≤v17∧v17 < (s1.length:Int))) <|
    gd ((0≤v17∧v17 < (s2.length:Int))) <|
    (spool_same n (gt s1 (Int.toNat v17)) (gt s2 (Int.toNat v17))).bind fun r1 =>
    bif (!r1) then
      some (.inr (.inl false))
    else
      some (.inl (IntKind.wrap .i64 (v17+1)))
  else
    some (.inr (.inr ()))
def slices_EqualFunc_f54_M1 (n:Nat) (s1:List TRec) (s2:List TRec):Option Bool :=
  bif ((s1.length:Int) != (s2.length:Int)) then
    some false
  else
    (loopF (fun (x:Int)=>slices_EqualFunc_f54_M1_b2 n s2 s1 (s1.length:Int) x) n 0).bind fun y8 =>
    match y8 with
    | .inl vv =>
      some vv
    | .inr vv =>
      slices_EqualFunc_f54_M1_k1 n
theorem cslices_EqualFunc_f54_M1 (n:Nat) (s1:List TRec) (s2:List TRec) (r:Bool) (H:slices_EqualFunc_f54_M1 n s1 s2=some r):CallsM Try.prog 54 [.dat (false,[.slice 59]) [.slice (List.map e_TRec s1)],.dat (false,[.slice 59]) [.slice (List.map e_TRec s2)],.ref (.fnv 55 [])] [] [.c .bool (.bool r)] []:=by
  have hΓ:=g1 (cspool_same n) (@g0 (Contract Try.prog))
  refine callsM_of (Try.f54.body.getD .skip) h00 Try.func54 rfl Try.call54 (Nat.le_of_ble_eq_true rfl) (Nat.le_of_ble_eq_true rfl) ?_
  unfold slices_EqualFunc_f54_M1 at H
  simp only [Try.f54,Option.getD]
  refine rA ?_
  refine Sm.seqK fun K2 hK2=>?_
  refine rA ?_
  refine cnd H (fun h4 H=>?_) (fun h4 H=>?_)
  · refine rA ?_
    refine Sm.ret ?_
    refine lf ?_
    obtain rfl:=Option.some.inj H
    exact rtM []
  refine Sm.skip ?_
  refine hK2 _ ?_
  refine Sm.cut (fun (x:Unit)=>slices_EqualFunc_f54_M1_s1) (fun x=>slices_EqualFunc_f54_M1_k1 n=some r) ?_ ?_
  · refine rA ?_
    refine Sm.block ?_
    obtain ⟨y8,hy8,Ho8⟩:=bind_some H
    refine Sm.loopB _ (fun x=>slices_EqualFunc_f54_M1_t2 s2 s1 (s1.length:Int) x) hy8 (wb []) ?_
    rintro v17 z8 H
    try dsimp only at H
    unfold slices_EqualFunc_f54_M1_b2 at H
    refine Sm.st (slices_EqualFunc_f54_M1_t2.eq_1 ..) ?_
    refine rA ?_
    refine Sm.seqK fun K10 hK10=>?_
    refine cnd H (fun h11 H=>?_) (fun h11 H=>?_)
    · refine Sm.skip ?_
      refine hK10 _ ?_
      refine Sm.seqK fun K12 hK12=>?_
      refine Sm.block ?_
      obtain ⟨hg19,H⟩:=gd_some H
      refine rA ?_
      obtain ⟨hg18,H⟩:=gd_some H
      refine rA ?_
      obtain ⟨r1,hr1,H⟩:=bind_some H
      have q:=And.intro @xspool_same.eq_1 hr1
      refine rAq ?_
      refine cnd H (fun h16 H=>?_) (fun h16 H=>?_)
      · refine rA ?_
        refine Sm.ret ?_
        refine lf ?_
        refine lx H fun hyy=>?_
        subst hyy
        have H:=Ho8
        try dsimp only at H
        refine lf ?_
        obtain rfl:=Option.some.inj H
        exact rtM []
      refine Sm.skip ?_
      refine hK12 _ ?_
      refine eA ?_
      refine lf ?_
      exact nx H (wb [])
    refine Sm.exit ?_
    refine lf ?_
    refine lx H fun hyy=>?_
    subst hyy
    have H:=Ho8
    try dsimp only at H
    refine lf ?_
    exact ⟨(),H,wb []⟩
  rintro ⟨⟩ H
  try dsimp only at H
  unfold slices_EqualFunc_f54_M1_k1 at H
  refine Sm.st (slices_EqualFunc_f54_M1_s1.eq_1 ..) ?_
  refine rA ?_
  refine Sm.ret ?_
  refine lf ?_
  obtain rfl:=Option.some.inj H
  exact rtM []
def spool_Lines_1 (n:Nat) (a:List TRec) (b:List TRec):Option Bool :=
  (slices_EqualFunc_f54_M1 n a b).bind fun r1 =>
  some r1
def xspool_Lines_1 (n:Nat):Go.AE.Fn:=mkFn (A:=(List TRec)×(List TRec)) (R:=Bool) 53 [(false,[.slice 59]),(false,[.slice 59])] false (fun xs=>(((cg (xs.getD 0 []) 0).toSl.map d_TRec),((cg (xs.getD 1 []) 0).toSl.map d_TRec))) (fun a=>[[.slice (List.map e_TRec a.1)],[.slice (List.map e_TRec a.2)]]) (fun a=>spool_Lines_1 n a.1 a.2) (fun r=>[.c .bool (.bool r)]) (fun r=>[])
theorem cspool_Lines_1 (n:Nat):Contract Try.prog (xspool_Lines_1 n):=by
  have hΓ:=@g0 (Contract Try.prog)
  refine contract_f (Try.f53.body.getD .skip) h00 Try.func53 rfl Try.call53 (by decide) (by intro _ r;exact ⟨rfl,by simp⟩) ?_
  rintro ⟨a,b⟩ r H
  try dsimp only at H
  unfold spool_Lines_1 at H
  simp only [Try.f53,Option.getD]
  refine rA ?_
  refine sX fun K2 hK2=>?_
  obtain ⟨r1,hr1,H⟩:=bind_some H
  have q:=hr1
  iterate 2 refine oX ?_
  refine oMq (cslices_EqualFunc_f54_M1 n _ _ r1 hr1) [] [] ?_
  refine oXq ?_
  refine hK2 _ ?_
  refine Sm.ret ?_
  refine lf ?_
  obtain rfl:=Option.some.inj H
  exact rt []
abbrev slices_EqualFunc_f52_M1_s1:S:=stB [] []
def slices_EqualFunc_f52_M1_k1 (n:Nat):Option Bool :=
  some true
abbrev slices_EqualFunc_f52_M1_t2 (s2:List (List TRec)) (s1:List (List TRec)) (v16:Int) (v17:Int):S:=stB [(1,.c (.slice 57) (.slice (List.map e_LTRec s2))),(2,.fnv 53 []),(15,.c (.slice 57) (.slice (List.map e_LTRec s1))),(16,.c (.int .i64) (.int v16)),(17,.c (.int .i64) (.int v17))] []
def slices_EqualFunc_f52_M1_b2 (n:Nat) (s2:List (List TRec)) (s1:List (List TRec)) (v16:Int) (v17:Int):Option ((Int) ⊕ (((Bool) ⊕ (Unit)))) :=
  bif (decide (v17 < v16)) then
    gd ((0≤v17∧v17 < (s1.length:Int))) <|
    gd ((0≤v17∧v17 < (s2.length:Int))) <|
    (spool_Lines_1 n (gt s1 (Int.toNat v17)) (gt s2 (Int.toNat v17))).bind fun r1 =>
    bif (!r1) then
      some (.inr (.inl false))
    else
      some (.inl (IntKind.wrap .i64 (v17+1)))
  else
    some (.inr (.inr ()))
def slices_EqualFunc_f52_M1 (n:Nat) (s1:List (List TRec)) (s2:List (List TRec)):Option Bool :=
  bif ((s1.length:Int) != (s2.length:Int)) then
    some false
  else
    (loopF (fun (x:Int)=>slices_EqualFunc_f52_M1_b2 n s2 s1 (s1.length:Int) x) n 0).bind fun y8 =>
    match y8 with
    | .inl vv =>
      some vv
    | .inr vv =>
      slices_EqualFunc_f52_M1_k1 n
theorem cslices_EqualFunc_f52_M1 (n:Nat) (s1:List (List TRec)) (s2:List (List TRec)) (r:Bool) (H:slices_EqualFunc_f52_M1 n s1 s2=some r):CallsM Try.prog 52 [.dat (false,[.slice 57]) [.slice (List.map e_LTRec s1)],.dat (false,[.slice 57]) [.slice (List.map e_LTRec s2)],.ref (.fnv 53 [])] [] [.c .bool (.bool r)] []:=by
  have hΓ:=g1 (cspool_Lines_1 n) (@g0 (Contract Try.prog))
  refine callsM_of (Try.f52.body.getD .skip) h00 Try.func52 rfl Try.call52 (Nat.le_of_ble_eq_true rfl) (Nat.le_of_ble_eq_true rfl) ?_
  unfold slices_EqualFunc_f52_M1 at H
  simp only [Try.f52,Option.getD]
  refine rA ?_
  refine Sm.seqK fun K2 hK2=>?_
  refine rA ?_
  refine cnd H (fun h4 H=>?_) (fun h4 H=>?_)
  · refine rA ?_
    refine Sm.ret ?_
    refine lf ?_
    obtain rfl:=Option.some.inj H
    exact rtM []
  refine Sm.skip ?_
  refine hK2 _ ?_
  refine Sm.cut (fun (x:Unit)=>slices_EqualFunc_f52_M1_s1) (fun x=>slices_EqualFunc_f52_M1_k1 n=some r) ?_ ?_
  · refine rA ?_
    refine Sm.block ?_
    obtain ⟨y8,hy8,Ho8⟩:=bind_some H
    refine Sm.loopB _ (fun x=>slices_EqualFunc_f52_M1_t2 s2 s1 (s1.length:Int) x) hy8 (wb []) ?_
    rintro v17 z8 H
    try dsimp only at H
    unfold slices_EqualFunc_f52_M1_b2 at H
    refine Sm.st (slices_EqualFunc_f52_M1_t2.eq_1 ..) ?_
    refine rA ?_
    refine Sm.seqK fun K10 hK10=>?_
    refine cnd H (fun h11 H=>?_) (fun h11 H=>?_)
    · refine Sm.skip ?_
      refine hK10 _ ?_
      refine Sm.seqK fun K12 hK12=>?_
      refine Sm.block ?_
      obtain ⟨hg19,H⟩:=gd_some H
      refine rA ?_
      obtain ⟨hg18,H⟩:=gd_some H
      refine rA ?_
      obtain ⟨r1,hr1,H⟩:=bind_some H
      have q:=And.intro @xspool_Lines_1.eq_1 hr1
      refine rAq ?_
      refine cnd H (fun h16 H=>?_) (fun h16 H=>?_)
      · refine rA ?_
        refine Sm.ret ?_
        refine lf ?_
        refine lx H fun hyy=>?_
        subst hyy
        have H:=Ho8
        try dsimp only at H
        refine lf ?_
        obtain rfl:=Option.some.inj H
        exact rtM []
      refine Sm.skip ?_
      refine hK12 _ ?_
      refine eA ?_
      refine lf ?_
      exact nx H (wb [])
    refine Sm.exit ?_
    refine lf ?_
    refine lx H fun hyy=>?_
    subst hyy
    have H:=Ho8
    try dsimp only at H
    refine lf ?_
    exact ⟨(),H,wb []⟩
  rintro ⟨⟩ H
  try dsimp only at H
  unfold slices_EqualFunc_f52_M1_k1 at H
  refine Sm.st (slices_EqualFunc_f52_M1_s1.eq_1 ..) ?_
  refine rA ?_
  refine Sm.ret ?_
  refine lf ?_
  obtain rfl:=Option.some.inj H
  exact rtM []
abbrev spool_Lines_s1 (t:List (List TRec)) (n_:Int) (l:List TLine):S:=stB [(0,.c (.slice 57) (.slice (List.map e_LTRec t))),(1,.c (.int .i64) (.int n_)),(6,.own 9000 [.int .i64,.str] 0 l.length)] [(9000,.row 48 (List.map e_TLine l))]
def spool_Lines_k1 (n:Nat) (t:List (List TRec)) (n_:Int) (l:List TLine):Option ((List TLine)×Int) :=
  (spool_Tracks n l).bind fun r1 =>
  bif (if (r1.2 != 0)=true then true else (((l.length:Nat):Int) != n_)) then
    some ([],390)
  else
    gd ((!(if (r1.2 != 0)=true then true else (((l.length:Nat):Int) != n_)))=true) <|
    (slices_EqualFunc_f52_M1 n r1.1 t).bind fun r2 =>
    bif (!r2) then
      some ([],390)
    else
      some (l,0)
abbrev spool_Lines_s3 (t:List (List TRec)) (n_:Int) (l_2:List TLine) (v16:Int) (v17:Int):S:=stB [(0,.c (.slice 57) (.slice (List.map e_LTRec t))),(1,.c (.int .i64) (.int n_)),(6,.own 9003 [.int .i64,.str] 0 l_2.length),(15,.c (.slice 57) (.slice (List.map e_LTRec t))),(16,.c (.int .i64) (.int v16)),(17,.c (.int .i64) (.int v17))] [(9003,.row 48 (List.map e_TLine l_2))]
def spool_Lines_k3 (n:Nat) (t:List (List TRec)) (n_:Int) (l_2:List TLine) (v16:Int) (v17:Int):Option (((List TLine)×Int) ⊕ ((((List TLine)×Int) ⊕ ((List TLine))))) :=
  some (.inl (l_2,(IntKind.wrap .i64 (v17+1))))
abbrev spool_Lines_t4 (t:List (List TRec)) (n_:Int) (v16:Int) (v17:Int) (v21:List TRec) (v22:Int) (l_3:List TLine) (v23:Int):S:=stB [(0,.c (.slice 57) (.slice (List.map e_LTRec t))),(1,.c (.int .i64) (.int n_)),(6,.own 9005 [.int .i64,.str] 0 l_3.length),(15,.c (.slice 57) (.slice (List.map e_LTRec t))),(16,.c (.int .i64) (.int v16)),(17,.c (.int .i64) (.int v17)),(21,.c (.slice 59) (.slice (List.map e_TRec v21))),(22,.c (.int .i64) (.int v22)),(23,.c (.int .i64) (.int v23))] [(9005,.row 48 (List.map e_TLine l_3))]
def spool_Lines_b4 (n:Nat) (t:List (List TRec)) (n_:Int) (v16:Int) (v17:Int) (v21:List TRec) (v22:Int) (l_3:List TLine) (v23:Int):Option (((List TLine)×Int) ⊕ ((((List TLine)×Int) ⊕ ((List TLine))))) :=
  bif (decide (v23 < v22)) then
    gd ((0≤v23∧v23 < (v21.length:Int))) <|
    (spool_group n ((gt v21 (Int.toNat v23)).Data) ((l_3.length:Nat):Int)).bind fun r3 =>
    bif (if (!r3.2)=true then true else (decide ((IntKind.wrap .i64 (((l_3.length:Nat):Int)+((r3.1.length:Nat):Int))) > (if 0 > n_ then 0 else n_)))) then
      some (.inr (.inl ([],390)))
    else
      gd ((l_3.length+r3.1.length)≤2147483648) <|
      some (.inl ((l_3 ++ r3.1),(IntKind.wrap .i64 (v23+1))))
  else
    some (.inr (.inr l_3))
abbrev spool_Lines_t2 (t:List (List TRec)) (n_:Int) (v16:Int) (l_1:List TLine) (v17:Int):S:=stB [(0,.c (.slice 57) (.slice (List.map e_LTRec t))),(1,.c (.int .i64) (.int n_)),(6,.own 9002 [.int .i64,.str] 0 l_1.length),(15,.c (.slice 57) (.slice (List.map e_LTRec t))),(16,.c (.int .i64) (.int v16)),(17,.c (.int .i64) (.int v17))] [(9002,.row 48 (List.map e_TLine l_1))]
def spool_Lines_b2 (n:Nat) (t:List (List TRec)) (n_:Int) (v16:Int) (l_1:List TLine) (v17:Int):Option (((List TLine)×Int) ⊕ ((((List TLine)×Int) ⊕ ((List TLine))))) :=
  bif (decide (v17 < v16)) then
    gd ((0≤v17∧v17 < (t.length:Int))) <|
    (loopF (fun (x:(List TLine)×Int)=>spool_Lines_b4 n t n_ v16 v17 (gt t (Int.toNat v17)) ((gt t (Int.toNat v17)).length:Int) x.1 x.2) n (l_1,0)).bind fun y20 =>
    match y20 with
    | .inl vv =>
      some (.inr (.inl (vv.1,vv.2)))
    | .inr vv =>
      spool_Lines_k3 n t n_ vv v16 v17
  else
    some (.inr (.inr l_1))
def spool_Lines (n:Nat) (t:List (List TRec)) (n_:Int):Option ((List TLine)×Int) :=
  (loopF (fun (x:(List TLine)×Int)=>spool_Lines_b2 n t n_ (t.length:Int) x.1 x.2) n ([],0)).bind fun y14 =>
  match y14 with
  | .inl vv =>
    some (vv.1,vv.2)
  | .inr vv =>
    spool_Lines_k1 n t n_ vv
def xspool_Lines (n:Nat):Go.AE.Fn:=mkFn (A:=(List (List TRec))×Int) (R:=(List TLine)×Int) 22 [(false,[.slice 57]),(false,[.int .i64])] false (fun xs=>(((cg (xs.getD 0 []) 0).toSl.map d_LTRec),(cg (xs.getD 1 []) 0).toInt)) (fun a=>[[.slice (List.map e_LTRec a.1)],[.int a.2]]) (fun a=>spool_Lines n a.1 a.2) (fun r=>[.own 0 [.int .i64,.str] 0 r.1.length,.c (.int .i64) (.int r.2)]) (fun r=>[.row 48 (List.map e_TLine r.1)])
theorem cspool_Lines (n:Nat):Contract Try.prog (xspool_Lines n):=by
  have hΓ:=g1 (cspool_group n) (g1 (cspool_Tracks n) (@g0 (Contract Try.prog)))
  refine contract_f (Try.f22.body.getD .skip) h00 Try.func22 rfl Try.call22 (by decide) (fun _ r=>⟨rfl,m1 ⟨48,_,_,rfl,ty48,rfl⟩ m0⟩) ?_
  rintro ⟨t,n_⟩ r H
  try dsimp only at H
  unfold spool_Lines at H
  simp only [Try.f22,Option.getD]
  refine rA ?_
  refine rA ?_
  refine Sm.cut (fun (x:(List TLine))=>spool_Lines_s1 t n_ x) (fun x=>spool_Lines_k1 n t n_ x=some r) ?_ ?_
  · refine rA ?_
    refine Sm.block ?_
    obtain ⟨y14,hy14,Ho14⟩:=bind_some H
    refine Sm.loopB _ (fun x=>spool_Lines_t2 t n_ (t.length:Int) x.1 x.2) hy14 (wb [none]) ?_
    rintro ⟨l_1,v17⟩ z14 H
    try dsimp only at H
    unfold spool_Lines_b2 at H
    refine Sm.st (spool_Lines_t2.eq_1 ..) ?_
    refine rA ?_
    refine Sm.seqK fun K16 hK16=>?_
    refine cnd H (fun h17 H=>?_) (fun h17 H=>?_)
    · refine Sm.skip ?_
      refine hK16 _ ?_
      refine Sm.cut (fun (x:(List TLine))=>spool_Lines_s3 t n_ x (t.length:Int) v17) (fun x=>spool_Lines_k3 n t n_ x (t.length:Int) v17=some z14) ?_ ?_
      · refine Sm.block ?_
        obtain ⟨hg33,H⟩:=gd_some H
        refine rA ?_
        refine rA ?_
        refine Sm.block ?_
        obtain ⟨y20,hy20,Ho20⟩:=bind_some H
        refine Sm.loopB _ (fun x=>spool_Lines_t4 t n_ (t.length:Int) v17 (gt t (Int.toNat v17)) ((gt t (Int.toNat v17)).length:Int) x.1 x.2) hy20 (wb [some 9002]) ?_
        rintro ⟨l_3,v23⟩ z20 H
        try dsimp only at H
        unfold spool_Lines_b4 at H
        refine Sm.st (spool_Lines_t4.eq_1 ..) ?_
        refine rA ?_
        refine Sm.seqK fun K22 hK22=>?_
        refine cnd H (fun h23 H=>?_) (fun h23 H=>?_)
        · refine Sm.skip ?_
          refine hK22 _ ?_
          refine Sm.seqK fun K24 hK24=>?_
          refine Sm.block ?_
          obtain ⟨hg32,H⟩:=gd_some H
          refine rA ?_
          obtain ⟨r3,hr3,H⟩:=bind_some H
          have q:=And.intro @xspool_group.eq_1 hr3
          refine rAq ?_
          refine Sm.seqK fun K27 hK27=>?_
          refine rA ?_
          refine cnd H (fun h29 H=>?_) (fun h29 H=>?_)
          · refine rA ?_
            refine Sm.ret ?_
            refine lf ?_
            refine lx H fun hyy=>?_
            subst hyy
            have H:=Ho20
            try dsimp only at H
            refine lf ?_
            refine lx H fun hyy=>?_
            subst hyy
            have H:=Ho14
            try dsimp only at H
            refine lf ?_
            obtain rfl:=Option.some.inj H
            exact rto [none]
          refine Sm.skip ?_
          refine hK27 _ ?_
          obtain ⟨hg31,H⟩:=gd_some H
          refine eA ?_
          refine hK24 _ ?_
          refine eA ?_
          refine lf ?_
          exact nx H (wb [some 784])
        refine Sm.exit ?_
        refine lf ?_
        refine lx H fun hyy=>?_
        subst hyy
        have H:=Ho20
        try dsimp only at H
        refine lf ?_
        exact ⟨_,H,wb [some 9005]⟩
      rintro l_2 H
      try dsimp only at H
      unfold spool_Lines_k3 at H
      refine Sm.st (spool_Lines_s3.eq_1 ..) ?_
      refine eA ?_
      refine lf ?_
      exact nx H (wb [some 9003])
    refine Sm.exit ?_
    refine lf ?_
    refine lx H fun hyy=>?_
    subst hyy
    have H:=Ho14
    try dsimp only at H
    refine lf ?_
    exact ⟨_,H,wb [some 9002]⟩
  rintro l H
  try dsimp only at H
  unfold spool_Lines_k1 at H
  refine Sm.st (spool_Lines_s1.eq_1 ..) ?_
  obtain ⟨r1,hr1,H⟩:=bind_some H
  have q:=And.intro @xspool_group.eq_1 (And.intro @xspool_Tracks.eq_1 hr1)
  refine rAq ?_
  refine Sm.seqK fun K4 hK4=>?_
  refine sX fun K5 hK5=>?_
  iterate 11 refine oX ?_
  refine bif_cases H (fun hs6 H=>?_) (fun hs6 H=>?_)
  · have q:=hs6
    refine oFq ?_
    refine oFq ?_
    refine oPl ?_
    refine hK5 _ ?_
    refine cndT ?_
    refine rA ?_
    refine Sm.ret ?_
    refine lf ?_
    obtain rfl:=Option.some.inj H
    exact rto [none]
  obtain ⟨hg9,H⟩:=gd_some H
  obtain ⟨r2,hr2,H⟩:=bind_some H
  have q:=And.intro hs6 hr2
  refine oTM (cslices_EqualFunc_f52_M1 n _ _ r2 hr2) [] [] ?_
  refine oTG ?_
  refine oPr ?_
  refine hK5 _ ?_
  refine cnd H (fun h10 H=>?_) (fun h10 H=>?_)
  · refine rA ?_
    refine Sm.ret ?_
    refine lf ?_
    obtain rfl:=Option.some.inj H
    exact rto [none]
  refine Sm.skip ?_
  refine hK4 _ ?_
  refine rA ?_
  refine Sm.ret ?_
  refine lf ?_
  obtain rfl:=Option.some.inj H
  exact rto [some 9000]
abbrev law39_equal_s1:S:=stB [] []
def law39_equal_k1 (n:Nat):Option Bool :=
  some true
abbrev law39_equal_t2 (a:List TLine) (b:List TLine) (v12:Int) (v13:Int):S:=stB [(0,.c (.slice 48) (.slice (List.map e_TLine a))),(1,.c (.slice 48) (.slice (List.map e_TLine b))),(12,.c (.int .i64) (.int v12)),(13,.c (.int .i64) (.int v13))] []
def law39_equal_b2 (n:Nat) (a:List TLine) (b:List TLine) (v12:Int) (v13:Int):Option ((Int) ⊕ (((Bool) ⊕ (Unit)))) :=
  bif (decide (v13 < v12)) then
    gd ((0≤v13∧v13 < (a.length:Int))∧(0≤v13∧v13 < (b.length:Int))) <|
    bif (!((((gt a (Int.toNat v13)).Ctl) == ((gt b (Int.toNat v13)).Ctl)) && (((gt a (Int.toNat v13)).Text) == ((gt b (Int.toNat v13)).Text)))) then
      some (.inr (.inl false))
    else
      some (.inl (IntKind.wrap .i64 (v13+1)))
  else
    some (.inr (.inr ()))
def law39_equal (n:Nat) (a:List TLine) (b:List TLine):Option Bool :=
  bif ((a.length:Int) != (b.length:Int)) then
    some false
  else
    (loopF (fun (x:Int)=>law39_equal_b2 n a b (a.length:Int) x) n 0).bind fun y8 =>
    match y8 with
    | .inl vv =>
      some vv
    | .inr vv =>
      law39_equal_k1 n
def xlaw39_equal (n:Nat):Go.AE.Fn:=mkFn (A:=(List TLine)×(List TLine)) (R:=Bool) 23 [(false,[.slice 48]),(false,[.slice 48])] false (fun xs=>(((cg (xs.getD 0 []) 0).toSl.map d_TLine),((cg (xs.getD 1 []) 0).toSl.map d_TLine))) (fun a=>[[.slice (List.map e_TLine a.1)],[.slice (List.map e_TLine a.2)]]) (fun a=>law39_equal n a.1 a.2) (fun r=>[.c .bool (.bool r)]) (fun r=>[])
theorem claw39_equal (n:Nat):Contract Try.prog (xlaw39_equal n):=by
  have hΓ:=@g0 (Contract Try.prog)
  refine contract_f (Try.f23.body.getD .skip) h00 Try.func23 rfl Try.call23 (by decide) (by intro _ r;exact ⟨rfl,by simp⟩) ?_
  rintro ⟨a,b⟩ r H
  try dsimp only at H
  unfold law39_equal at H
  simp only [Try.f23,Option.getD]
  refine rA ?_
  refine Sm.seqK fun K2 hK2=>?_
  refine rA ?_
  refine cnd H (fun h4 H=>?_) (fun h4 H=>?_)
  · refine rA ?_
    refine Sm.ret ?_
    refine lf ?_
    obtain rfl:=Option.some.inj H
    exact rt []
  refine Sm.skip ?_
  refine hK2 _ ?_
  refine Sm.cut (fun (x:Unit)=>law39_equal_s1) (fun x=>law39_equal_k1 n=some r) ?_ ?_
  · refine rA ?_
    refine Sm.block ?_
    obtain ⟨y8,hy8,Ho8⟩:=bind_some H
    refine Sm.loopB _ (fun x=>law39_equal_t2 a b (a.length:Int) x) hy8 (wb []) ?_
    rintro v13 z8 H
    try dsimp only at H
    unfold law39_equal_b2 at H
    refine Sm.st (law39_equal_t2.eq_1 ..) ?_
    refine rA ?_
    refine Sm.seqK fun K10 hK10=>?_
    refine cnd H (fun h11 H=>?_) (fun h11 H=>?_)
    · refine Sm.skip ?_
      refine hK10 _ ?_
      refine Sm.seqK fun K12 hK12=>?_
      refine Sm.block ?_
      refine rA ?_
      obtain ⟨⟨hg17,hg18⟩,H⟩:=gd_some H
      refine rD ?_
      refine cnd H (fun h15 H=>?_) (fun h15 H=>?_)
      · refine rA ?_
        refine Sm.ret ?_
        refine lf ?_
        refine lx H fun hyy=>?_
        subst hyy
        have H:=Ho8
        try dsimp only at H
        refine lf ?_
        obtain rfl:=Option.some.inj H
        exact rt []
      refine Sm.skip ?_
      refine hK12 _ ?_
      refine eA ?_
      refine lf ?_
      exact nx H (wb [])
    refine Sm.exit ?_
    refine lf ?_
    refine lx H fun hyy=>?_
    subst hyy
    have H:=Ho8
    try dsimp only at H
    refine lf ?_
    exact ⟨(),H,wb []⟩
  rintro ⟨⟩ H
  try dsimp only at H
  unfold law39_equal_k1 at H
  refine Sm.st (law39_equal_s1.eq_1 ..) ?_
  refine rA ?_
  refine Sm.ret ?_
  refine lf ?_
  obtain rfl:=Option.some.inj H
  exact rt []
def law39_works (n:Nat):Option Bool :=
  (spool_Tracks n [(⟨1,[65,66]⟩:TLine),(⟨9,[]⟩:TLine)]).bind fun r1 =>
  gd (((!(if (r1.2 != 0)=true then true else (((r1.1.length:Nat):Int) != 1)))=true→0 < (r1.1.length:Int))∧((!(if (r1.2 != 0)=true then true else (((r1.1.length:Nat):Int) != 1)))=true→0 < r1.1.length)∧((!(if (if (r1.2 != 0)=true then true else (((r1.1.length:Nat):Int) != 1))=true then true else (((gt r1.1 0).length:Int) != 1)))=true→0 < (r1.1.length:Int))∧((!(if (if (r1.2 != 0)=true then true else (((r1.1.length:Nat):Int) != 1))=true then true else (((gt r1.1 0).length:Int) != 1)))=true→0 < r1.1.length)∧((!(if (if (r1.2 != 0)=true then true else (((r1.1.length:Nat):Int) != 1))=true then true else (((gt r1.1 0).length:Int) != 1)))=true→0 < ((gt r1.1 0).length:Int))∧((!(if (if (if (r1.2 != 0)=true then true else (((r1.1.length:Nat):Int) != 1))=true then true else (((gt r1.1 0).length:Int) != 1))=true then true else (((gt (gt r1.1 0) 0).R) != 1)))=true→0 < (r1.1.length:Int))∧((!(if (if (if (r1.2 != 0)=true then true else (((r1.1.length:Nat):Int) != 1))=true then true else (((gt r1.1 0).length:Int) != 1))=true then true else (((gt (gt r1.1 0) 0).R) != 1)))=true→0 < r1.1.length)∧((!(if (if (if (r1.2 != 0)=true then true else (((r1.1.length:Nat):Int) != 1))=true then true else (((gt r1.1 0).length:Int) != 1))=true then true else (((gt (gt r1.1 0) 0).R) != 1)))=true→0 < ((gt r1.1 0).length:Int))) <|
  bif (if (if (if (r1.2 != 0)=true then true else (((r1.1.length:Nat):Int) != 1))=true then true else (((gt r1.1 0).length:Int) != 1))=true then true else (((gt (gt r1.1 0) 0).R) != 1)) then
    some false
  else
    gd ((!(if (if (if (r1.2 != 0)=true then true else (((r1.1.length:Nat):Int) != 1))=true then true else (((gt r1.1 0).length:Int) != 1))=true then true else (((gt (gt r1.1 0) 0).R) != 1)))=true) <|
    bif ((toStr8 ((gt (gt r1.1 0) 0).Data)) != [0,0,0,0,1,2,65,66,9,0]) then
      some false
    else
      (spool_Tracks n []).bind fun r2 =>
      (spool_Tracks n [(⟨256,[65]⟩:TLine)]).bind fun r3 =>
      gd ((0≤133∧133≤133∧133≤2147483648)) <|
      (spool_Tracks n [(⟨0,(toStr8 (zreps 133 0))⟩:TLine)]).bind fun r4 =>
      (law39_long n 8).bind fun r5 =>
      (spool_Tracks n r5).bind fun r6 =>
      gd (((if (if (if (if (if (r2.2 == 0)=true then (((r2.1.length:Nat):Int) == 0) else false)=true then (r3.2 == 1) else false)=true then (r4.2 == 2) else false)=true then (r6.2 == 0) else false)=true then (((r6.1.length:Nat):Int) == 1) else false)=true→0 < (r6.1.length:Int))∧((if (if (if (if (if (r2.2 == 0)=true then (((r2.1.length:Nat):Int) == 0) else false)=true then (r3.2 == 1) else false)=true then (r4.2 == 2) else false)=true then (r6.2 == 0) else false)=true then (((r6.1.length:Nat):Int) == 1) else false)=true→0 < r6.1.length)∧((if (if (if (if (if (if (r2.2 == 0)=true then (((r2.1.length:Nat):Int) == 0) else false)=true then (r3.2 == 1) else false)=true then (r4.2 == 2) else false)=true then (r6.2 == 0) else false)=true then (((r6.1.length:Nat):Int) == 1) else false)=true then (((gt r6.1 0).length:Int) == 2) else false)=true→0 < (r6.1.length:Int))∧((if (if (if (if (if (if (r2.2 == 0)=true then (((r2.1.length:Nat):Int) == 0) else false)=true then (r3.2 == 1) else false)=true then (r4.2 == 2) else false)=true then (r6.2 == 0) else false)=true then (((r6.1.length:Nat):Int) == 1) else false)=true then (((gt r6.1 0).length:Int) == 2) else false)=true→0 < r6.1.length)∧((if (if (if (if (if (if (r2.2 == 0)=true then (((r2.1.length:Nat):Int) == 0) else false)=true then (r3.2 == 1) else false)=true then (r4.2 == 2) else false)=true then (r6.2 == 0) else false)=true then (((r6.1.length:Nat):Int) == 1) else false)=true then (((gt r6.1 0).length:Int) == 2) else false)=true→0 < ((gt r6.1 0).length:Int))∧((if (if (if (if (if (if (if (r2.2 == 0)=true then (((r2.1.length:Nat):Int) == 0) else false)=true then (r3.2 == 1) else false)=true then (r4.2 == 2) else false)=true then (r6.2 == 0) else false)=true then (((r6.1.length:Nat):Int) == 1) else false)=true then (((gt r6.1 0).length:Int) == 2) else false)=true then ((((gt (gt r6.1 0) 0).Data).length:Int) == 942) else false)=true→0 < (r6.1.length:Int))∧((if (if (if (if (if (if (if (r2.2 == 0)=true then (((r2.1.length:Nat):Int) == 0) else false)=true then (r3.2 == 1) else false)=true then (r4.2 == 2) else false)=true then (r6.2 == 0) else false)=true then (((r6.1.length:Nat):Int) == 1) else false)=true then (((gt r6.1 0).length:Int) == 2) else false)=true then ((((gt (gt r6.1 0) 0).Data).length:Int) == 942) else false)=true→0 < r6.1.length)∧((if (if (if (if (if (if (if (r2.2 == 0)=true then (((r2.1.length:Nat):Int) == 0) else false)=true then (r3.2 == 1) else false)=true then (r4.2 == 2) else false)=true then (r6.2 == 0) else false)=true then (((r6.1.length:Nat):Int) == 1) else false)=true then (((gt r6.1 0).length:Int) == 2) else false)=true then ((((gt (gt r6.1 0) 0).Data).length:Int) == 942) else false)=true→1 < ((gt r6.1 0).length:Int))∧((if (if (if (if (if (if (if (if (r2.2 == 0)=true then (((r2.1.length:Nat):Int) == 0) else false)=true then (r3.2 == 1) else false)=true then (r4.2 == 2) else false)=true then (r6.2 == 0) else false)=true then (((r6.1.length:Nat):Int) == 1) else false)=true then (((gt r6.1 0).length:Int) == 2) else false)=true then ((((gt (gt r6.1 0) 0).Data).length:Int) == 942) else false)=true then ((((gt (gt r6.1 0) 1).Data).length:Int) == 138) else false)=true→0 < (r6.1.length:Int))∧((if (if (if (if (if (if (if (if (r2.2 == 0)=true then (((r2.1.length:Nat):Int) == 0) else false)=true then (r3.2 == 1) else false)=true then (r4.2 == 2) else false)=true then (r6.2 == 0) else false)=true then (((r6.1.length:Nat):Int) == 1) else false)=true then (((gt r6.1 0).length:Int) == 2) else false)=true then ((((gt (gt r6.1 0) 0).Data).length:Int) == 942) else false)=true then ((((gt (gt r6.1 0) 1).Data).length:Int) == 138) else false)=true→0 < r6.1.length)∧((if (if (if (if (if (if (if (if (r2.2 == 0)=true then (((r2.1.length:Nat):Int) == 0) else false)=true then (r3.2 == 1) else false)=true then (r4.2 == 2) else false)=true then (r6.2 == 0) else false)=true then (((r6.1.length:Nat):Int) == 1) else false)=true then (((gt r6.1 0).length:Int) == 2) else false)=true then ((((gt (gt r6.1 0) 0).Data).length:Int) == 942) else false)=true then ((((gt (gt r6.1 0) 1).Data).length:Int) == 138) else false)=true→1 < ((gt r6.1 0).length:Int))∧((if (if (if (if (if (if (if (if (r2.2 == 0)=true then (((r2.1.length:Nat):Int) == 0) else false)=true then (r3.2 == 1) else false)=true then (r4.2 == 2) else false)=true then (r6.2 == 0) else false)=true then (((r6.1.length:Nat):Int) == 1) else false)=true then (((gt r6.1 0).length:Int) == 2) else false)=true then ((((gt (gt r6.1 0) 0).Data).length:Int) == 942) else false)=true then ((((gt (gt r6.1 0) 1).Data).length:Int) == 138) else false)=true→3 < (((gt (gt r6.1 0) 1).Data).length:Int))) <|
      (spool_New n 4).bind fun r7 =>
      (spool_Put n r7.1 [(⟨1,[65,66]⟩:TLine),(⟨9,[]⟩:TLine)]).bind fun r8 =>
      (spool_Drop n r8.1 r8.2.1).bind fun r9 =>
      gd (((if (if (r7.2 == 0)=true then (r8.2.2.2 == 0) else false)=true then (r9.2 == 0) else false)=true→(law39_row n r8.2.1.Extents 0 1).isSome=true)∧((if (if (if (if (r7.2 == 0)=true then (r8.2.2.2 == 0) else false)=true then (r9.2 == 0) else false)=true then ((law39_row n r8.2.1.Extents 0 1).getD default) else false)=true then (r8.2.1.Lines == 2) else false)=true→(law39_row n r8.1.Free 1 3).isSome=true)∧((if (if (if (if (if (r7.2 == 0)=true then (r8.2.2.2 == 0) else false)=true then (r9.2 == 0) else false)=true then ((law39_row n r8.2.1.Extents 0 1).getD default) else false)=true then (r8.2.1.Lines == 2) else false)=true then ((law39_row n r8.1.Free 1 3).getD default) else false)=true→(law39_row n r9.1.Free 0 4).isSome=true)) <|
      (spool_New n 0).bind fun r10 =>
      (law39_long n 8).bind fun r11 =>
      (spool_Put n r10.1 r11).bind fun r12 =>
      (spool_Lines n r1.1 2).bind fun r13 =>
      (spool_Lines n r1.1 1).bind fun r14 =>
      (spool_Lines n [] 0).bind fun r15 =>
      gd (((if (if (if (if (if (if (if (if (if (if (if (if (if (r2.2 == 0)=true then (((r2.1.length:Nat):Int) == 0) else false)=true then (r3.2 == 1) else false)=true then (r4.2 == 2) else false)=true then (r6.2 == 0) else false)=true then (((r6.1.length:Nat):Int) == 1) else false)=true then (((gt r6.1 0).length:Int) == 2) else false)=true then ((((gt (gt r6.1 0) 0).Data).length:Int) == 942) else false)=true then ((((gt (gt r6.1 0) 1).Data).length:Int) == 138) else false)=true then ((gt ((gt (gt r6.1 0) 1).Data) 3) == 7) else false)=true then (if (if (if (if (if (if (if (r7.2 == 0)=true then (r8.2.2.2 == 0) else false)=true then (r9.2 == 0) else false)=true then ((law39_row n r8.2.1.Extents 0 1).getD default) else false)=true then (r8.2.1.Lines == 2) else false)=true then ((law39_row n r8.1.Free 1 3).getD default) else false)=true then ((law39_row n r9.1.Free 0 4).getD default) else false)=true then (((r8.2.2.1.length:Nat):Int) == 1) else false) else false)=true then (r10.2 == 0) else false)=true then (r12.2.2.2 == 7) else false)=true then (r13.2 == 0) else false)=true→(law39_equal n r13.1 [(⟨1,[65,66]⟩:TLine),(⟨9,[]⟩:TLine)]).isSome=true)) <|
      some (if (if (if (if (if (if (if (if (if (if (if (if (if (if (if (if (if (r2.2 == 0)=true then (((r2.1.length:Nat):Int) == 0) else false)=true then (r3.2 == 1) else false)=true then (r4.2 == 2) else false)=true then (r6.2 == 0) else false)=true then (((r6.1.length:Nat):Int) == 1) else false)=true then (((gt r6.1 0).length:Int) == 2) else false)=true then ((((gt (gt r6.1 0) 0).Data).length:Int) == 942) else false)=true then ((((gt (gt r6.1 0) 1).Data).length:Int) == 138) else false)=true then ((gt ((gt (gt r6.1 0) 1).Data) 3) == 7) else false)=true then (if (if (if (if (if (if (if (r7.2 == 0)=true then (r8.2.2.2 == 0) else false)=true then (r9.2 == 0) else false)=true then ((law39_row n r8.2.1.Extents 0 1).getD default) else false)=true then (r8.2.1.Lines == 2) else false)=true then ((law39_row n r8.1.Free 1 3).getD default) else false)=true then ((law39_row n r9.1.Free 0 4).getD default) else false)=true then (((r8.2.2.1.length:Nat):Int) == 1) else false) else false)=true then (r10.2 == 0) else false)=true then (r12.2.2.2 == 7) else false)=true then (r13.2 == 0) else false)=true then ((law39_equal n r13.1 [(⟨1,[65,66]⟩:TLine),(⟨9,[]⟩:TLine)]).getD default) else false)=true then (r14.2 == 390) else false)=true then (r15.2 == 0) else false)=true then (((r15.1.length:Nat):Int) == 0) else false)
def xlaw39_works (n:Nat):Go.AE.Fn:=mkFn (A:=Unit) (R:=Bool) 12 [] false (fun xs=>()) (fun a=>[]) (fun a=>law39_works n) (fun r=>[.c .bool (.bool r)]) (fun r=>[])
theorem claw39_works (n:Nat):Contract Try.prog (xlaw39_works n):=by
  have hΓ:=g1 (cspool_Tracks n) (g1 (claw39_long n) (g1 (cspool_New n) (g1 (cspool_Put n) (g1 (cspool_Drop n) (g1 (claw39_row n) (g1 (cspool_Lines n) (g1 (claw39_equal n) (@g0 (Contract Try.prog)))))))))
  refine contract_f (Try.f12.body.getD .skip) h00 Try.func12 rfl Try.call12 (by decide) (by intro _ r;exact ⟨rfl,by simp⟩) ?_
  rintro ⟨⟩ r H
  try dsimp only at H
  unfold law39_works at H
  simp only [Try.f12,Option.getD]
  refine rA ?_
  refine rA ?_
  obtain ⟨r1,hr1,H⟩:=bind_some H
  have q:=And.intro @xspool_Tracks.eq_1 hr1
  refine rAq ?_
  refine Sm.seqK fun K4 hK4=>?_
  refine sX fun K5 hK5=>?_
  obtain ⟨⟨hg6,hg7,hg8,hg9,hg10,hg11,hg12,hg13⟩,H⟩:=gd_some H
  iterate 30 refine oX ?_
  refine bif_cases H (fun hs14 H=>?_) (fun hs14 H=>?_)
  · try simp only [hs14,Bool.not_false,Bool.not_true,Bool.false_eq_true,true_implies,false_implies,forall_const] at hg6
    try simp only [hs14,Bool.not_false,Bool.not_true,Bool.false_eq_true,true_implies,false_implies,forall_const] at hg7
    try simp only [hs14,Bool.not_false,Bool.not_true,Bool.false_eq_true,true_implies,false_implies,forall_const] at hg8
    try simp only [hs14,Bool.not_false,Bool.not_true,Bool.false_eq_true,true_implies,false_implies,forall_const] at hg9
    try simp only [hs14,Bool.not_false,Bool.not_true,Bool.false_eq_true,true_implies,false_implies,forall_const] at hg10
    try simp only [hs14,Bool.not_false,Bool.not_true,Bool.false_eq_true,true_implies,false_implies,forall_const] at hg11
    try simp only [hs14,Bool.not_false,Bool.not_true,Bool.false_eq_true,true_implies,false_implies,forall_const] at hg12
    try simp only [hs14,Bool.not_false,Bool.not_true,Bool.false_eq_true,true_implies,false_implies,forall_const] at hg13
    have q:=hs14
    refine oFq ?_
    refine oFq ?_
    refine oPl ?_
    refine hK5 _ ?_
    refine cndT ?_
    refine rA ?_
    refine Sm.ret ?_
    refine lf ?_
    obtain rfl:=Option.some.inj H
    exact rt []
  try simp only [hs14,Bool.not_false,Bool.not_true,Bool.false_eq_true,true_implies,false_implies,forall_const] at hg6
  try simp only [hs14,Bool.not_false,Bool.not_true,Bool.false_eq_true,true_implies,false_implies,forall_const] at hg7
  try simp only [hs14,Bool.not_false,Bool.not_true,Bool.false_eq_true,true_implies,false_implies,forall_const] at hg8
  try simp only [hs14,Bool.not_false,Bool.not_true,Bool.false_eq_true,true_implies,false_implies,forall_const] at hg9
  try simp only [hs14,Bool.not_false,Bool.not_true,Bool.false_eq_true,true_implies,false_implies,forall_const] at hg10
  try simp only [hs14,Bool.not_false,Bool.not_true,Bool.false_eq_true,true_implies,false_implies,forall_const] at hg11
  try simp only [hs14,Bool.not_false,Bool.not_true,Bool.false_eq_true,true_implies,false_implies,forall_const] at hg12
  try simp only [hs14,Bool.not_false,Bool.not_true,Bool.false_eq_true,true_implies,false_implies,forall_const] at hg13
  obtain ⟨hg17,H⟩:=gd_some H
  have q:=hs14
  refine oTE stepV_ok ?_
  refine oTG ?_
  refine oPr ?_
  refine hK5 _ ?_
  refine cnd H (fun h18 H=>?_) (fun h18 H=>?_)
  · refine rA ?_
    refine Sm.ret ?_
    refine lf ?_
    obtain rfl:=Option.some.inj H
    exact rt []
  refine Sm.skip ?_
  refine hK4 _ ?_
  obtain ⟨r2,hr2,H⟩:=bind_some H
  have q:=And.intro @xspool_Tracks.eq_1 hr2
  refine rAq ?_
  obtain ⟨r3,hr3,H⟩:=bind_some H
  have q:=And.intro @xspool_Tracks.eq_1 hr3
  refine rAq ?_
  refine sX fun K22 hK22=>?_
  obtain ⟨hg23,H⟩:=gd_some H
  obtain ⟨r4,hr4,H⟩:=bind_some H
  have q:=And.intro @xspool_Tracks.eq_1 hr4
  refine oYq ?_
  refine oEq stepV_ok ?_
  iterate 8 refine oXq ?_
  refine hK22 _ ?_
  obtain ⟨r5,hr5,H⟩:=bind_some H
  obtain ⟨r6,hr6,H⟩:=bind_some H
  have q:=And.intro @xspool_Tracks.eq_1 (And.intro @xlaw39_long.eq_1 (And.intro hr5 hr6))
  refine rAq ?_
  obtain ⟨⟨hg40,hg41,hg42,hg43,hg44,hg45,hg46,hg47,hg48,hg49,hg50,hg51⟩,H⟩:=gd_some H
  refine rA ?_
  obtain ⟨r7,hr7,H⟩:=bind_some H
  have q:=And.intro @xspool_Tracks.eq_1 (And.intro @xlaw39_long.eq_1 (And.intro @xspool_New.eq_1 hr7))
  refine rAq ?_
  obtain ⟨r8,hr8,H⟩:=bind_some H
  have q:=And.intro @xspool_Tracks.eq_1 (And.intro @xlaw39_long.eq_1 (And.intro @xspool_New.eq_1 (And.intro @xspool_Put.eq_1 hr8)))
  refine rAq ?_
  obtain ⟨r9,hr9,H⟩:=bind_some H
  have q:=And.intro @xspool_Tracks.eq_1 (And.intro @xlaw39_long.eq_1 (And.intro @xspool_New.eq_1 (And.intro @xspool_Put.eq_1 (And.intro @xspool_Drop.eq_1 hr9))))
  refine rAq ?_
  obtain ⟨⟨hg37,hg38,hg39⟩,H⟩:=gd_some H
  have q:=And.intro @xspool_Tracks.eq_1 (And.intro @xlaw39_long.eq_1 (And.intro @xspool_New.eq_1 (And.intro @xspool_Put.eq_1 (And.intro @xspool_Drop.eq_1 @xlaw39_row.eq_1))))
  refine rAq ?_
  obtain ⟨r10,hr10,H⟩:=bind_some H
  have q:=And.intro @xspool_Tracks.eq_1 (And.intro @xlaw39_long.eq_1 (And.intro @xspool_New.eq_1 hr10))
  refine rAq ?_
  obtain ⟨r11,hr11,H⟩:=bind_some H
  obtain ⟨r12,hr12,H⟩:=bind_some H
  refine sQ [0,1,2,3,4,5,6,7,8,9,10,11,12,13] [(none,[352],[]),(none,[],[3519,3518,3517,3516,3515,3514,3513,3512,3511,3510,3509,3508,3507,3506,3505,3504]),(none,[3424,3504],[3535,3534,3533,3532,3531,3530,3529,3528,3527,3526,3525,3524,3523,3522,3521,3520,3424,3504]),(none,[],[]),(none,[],[]),(none,[],[]),(none,[],[]),(none,[],[]),(none,[],[384]),(none,[],[400]),(none,[384],[384]),(none,[400,3520],[400]),(none,[],[]),(none,[],[])] fun K31 hK31=>?_
  have q:=And.intro @xspool_Tracks.eq_1 (And.intro @xlaw39_long.eq_1 (And.intro @xspool_New.eq_1 (And.intro @xspool_Put.eq_1 (And.intro @xspool_Drop.eq_1 (And.intro @xlaw39_row.eq_1 (And.intro @xspool_Lines.eq_1 (And.intro @xlaw39_equal.eq_1 (And.intro hr11 hr12))))))))
  iterate 14 refine oQq ?_
  refine opsQ0 ?_
  refine hK31 _ ?_
  obtain ⟨r13,hr13,H⟩:=bind_some H
  have q:=And.intro @xspool_Tracks.eq_1 (And.intro @xlaw39_long.eq_1 (And.intro @xspool_New.eq_1 (And.intro @xspool_Put.eq_1 (And.intro @xspool_Drop.eq_1 (And.intro @xlaw39_row.eq_1 (And.intro @xspool_Lines.eq_1 hr13))))))
  refine rAq ?_
  obtain ⟨r14,hr14,H⟩:=bind_some H
  have q:=And.intro @xspool_Tracks.eq_1 (And.intro @xlaw39_long.eq_1 (And.intro @xspool_New.eq_1 (And.intro @xspool_Put.eq_1 (And.intro @xspool_Drop.eq_1 (And.intro @xlaw39_row.eq_1 (And.intro @xspool_Lines.eq_1 hr14))))))
  refine rAq ?_
  obtain ⟨r15,hr15,H⟩:=bind_some H
  have q:=And.intro @xspool_Tracks.eq_1 (And.intro @xlaw39_long.eq_1 (And.intro @xspool_New.eq_1 (And.intro @xspool_Put.eq_1 (And.intro @xspool_Drop.eq_1 (And.intro @xlaw39_row.eq_1 (And.intro @xspool_Lines.eq_1 hr15))))))
  refine rAq ?_
  obtain ⟨hg36,H⟩:=gd_some H
  have q:=And.intro @xspool_Tracks.eq_1 (And.intro @xlaw39_long.eq_1 (And.intro @xspool_New.eq_1 (And.intro @xspool_Put.eq_1 (And.intro @xspool_Drop.eq_1 (And.intro @xlaw39_row.eq_1 (And.intro @xspool_Lines.eq_1 @xlaw39_equal.eq_1))))))
  refine rAq ?_
  refine Sm.ret ?_
  refine lf ?_
  obtain rfl:=Option.some.inj H
  exact rt []
abbrev law39_Few_s1 (out:List TLine):S:=stB [(3,.own 9000 [.int .i64,.str] 0 out.length)] [(9000,.row 48 (List.map e_TLine out))]
def law39_Few_k1 (n:Nat) (out:List TLine):Option (List TLine) :=
  some out
abbrev law39_Few_t2 (l:List TLine) (out_1:List TLine) (i:Int):S:=stB [(0,.c (.slice 48) (.slice (List.map e_TLine l))),(3,.own 9002 [.int .i64,.str] 0 out_1.length),(4,.c (.int .i64) (.int i))] [(9002,.row 48 (List.map e_TLine out_1))]
def law39_Few_b2 (n:Nat) (l:List TLine) (out_1:List TLine) (i:Int):Option (((List TLine)×Int) ⊕ (((List TLine)))) :=
  bif (if (decide (i < (l.length:Int)))=true then (decide (i < 300)) else false) then
    gd ((0≤i∧i < (l.length:Int))) <|
    gd ((0≤(if 140 < (((gt l (Int.toNat i)).Text).length:Int) then 140 else (((gt l (Int.toNat i)).Text).length:Int))∧(if 140 < (((gt l (Int.toNat i)).Text).length:Int) then 140 else (((gt l (Int.toNat i)).Text).length:Int))≤(((gt l (Int.toNat i)).Text).length:Int))) <|
    gd ((out_1.length+1)≤2147483648) <|
    some (.inl ((out_1 ++ [(⟨(gt l (Int.toNat i)).Ctl,(List.take (Int.toNat (if 140 < (((gt l (Int.toNat i)).Text).length:Int) then 140 else (((gt l (Int.toNat i)).Text).length:Int))) ((gt l (Int.toNat i)).Text))⟩:TLine)]),(IntKind.wrap .i64 (i+1))))
  else
    some (.inr out_1)
def law39_Few (n:Nat) (l:List TLine):Option (List TLine) :=
  (loopF (fun (x:(List TLine)×Int)=>law39_Few_b2 n l x.1 x.2) n ([],0)).bind fun y5 =>
  law39_Few_k1 n y5
def xlaw39_Few (n:Nat):Go.AE.Fn:=mkFn (A:=(List TLine)) (R:=(List TLine)) 10 [(false,[.slice 48])] false (fun xs=>((cg (xs.getD 0 []) 0).toSl.map d_TLine)) (fun a=>[[.slice (List.map e_TLine a)]]) (fun a=>law39_Few n a) (fun r=>[.own 0 [.int .i64,.str] 0 r.length]) (fun r=>[.row 48 (List.map e_TLine r)])
theorem claw39_Few (n:Nat):Contract Try.prog (xlaw39_Few n):=by
  have hΓ:=@g0 (Contract Try.prog)
  refine contract_f (Try.f10.body.getD .skip) h00 Try.func10 rfl Try.call10 (by decide) (fun _ r=>⟨rfl,m1 ⟨48,_,_,rfl,ty48,rfl⟩ m0⟩) ?_
  rintro l r H
  try dsimp only at H
  unfold law39_Few at H
  simp only [Try.f10,Option.getD]
  refine rA ?_
  refine rA ?_
  refine Sm.cut (fun (x:(List TLine))=>law39_Few_s1 x) (fun x=>law39_Few_k1 n x=some r) ?_ ?_
  · refine rA ?_
    refine Sm.block ?_
    obtain ⟨y5,hy5,Ho5⟩:=bind_some H
    refine Sm.loopB _ (fun x=>law39_Few_t2 l x.1 x.2) hy5 (wb [none]) ?_
    rintro ⟨out_1,i⟩ z5 H
    try dsimp only at H
    unfold law39_Few_b2 at H
    refine Sm.st (law39_Few_t2.eq_1 ..) ?_
    refine Sm.seqK fun K6 hK6=>?_
    refine rA ?_
    refine cnd H (fun h8 H=>?_) (fun h8 H=>?_)
    · refine Sm.skip ?_
      refine hK6 _ ?_
      refine Sm.seqK fun K9 hK9=>?_
      refine Sm.block ?_
      obtain ⟨hg14,H⟩:=gd_some H
      refine rA ?_
      obtain ⟨hg13,H⟩:=gd_some H
      refine rA ?_
      obtain ⟨hg12,H⟩:=gd_some H
      refine eA ?_
      refine hK9 _ ?_
      refine eA ?_
      refine lf ?_
      exact nx H (wb [some 496])
    refine Sm.exit ?_
    refine lf ?_
    refine lx H fun hyy=>?_
    subst hyy
    have H:=Ho5
    try dsimp only at H
    refine lf ?_
    exact ⟨_,H,wb [some 9002]⟩
  rintro out H
  try dsimp only at H
  unfold law39_Few_k1 at H
  refine Sm.st (law39_Few_s1.eq_1 ..) ?_
  refine rA ?_
  refine Sm.ret ?_
  refine lf ?_
  obtain rfl:=Option.some.inj H
  exact rto [some 9000]
abbrev law39_Valid_s1 (out:List TLine):S:=stB [(3,.own 9000 [.int .i64,.str] 0 out.length)] [(9000,.row 48 (List.map e_TLine out))]
def law39_Valid_k1 (n:Nat) (out:List TLine):Option (List TLine) :=
  some out
abbrev law39_Valid_t2 (v8:Int) (out_1:List TLine) (v9:Int):S:=stB [(3,.own 9002 [.int .i64,.str] 0 out_1.length),(8,.c (.int .i64) (.int v8)),(9,.c (.int .i64) (.int v9))] [(9002,.row 48 (List.map e_TLine out_1))]
def law39_Valid_b2 (n:Nat) (v8:Int) (out_1:List TLine) (v9:Int):Option (((List TLine)×Int) ⊕ (((List TLine)))) :=
  bif (decide (v9 < v8)) then
    gd ((0≤v9∧v9 < (out_1.length:Int))∧(Int.toNat v9) < out_1.length∧(0≤v9∧v9 < (out_1.length:Int))∧(Int.toNat v9) < out_1.length) <|
    gd ((0≤v9∧v9 < (out_1.length:Int))∧(Int.toNat v9) < out_1.length∧(0≤v9∧v9 < (out_1.length:Int))∧(Int.toNat v9) < out_1.length∧(0≤(if 132 < (((gt (List.set out_1 (Int.toNat v9) (⟨(IntKind.wrap .i64 ((Int.tmod (IntKind.wrap .u64 ((gt out_1 (Int.toNat v9)).Ctl)) 256))),(gt out_1 (Int.toNat v9)).Text⟩:TLine)) (Int.toNat v9)).Text).length:Int) then 132 else (((gt (List.set out_1 (Int.toNat v9) (⟨(IntKind.wrap .i64 ((Int.tmod (IntKind.wrap .u64 ((gt out_1 (Int.toNat v9)).Ctl)) 256))),(gt out_1 (Int.toNat v9)).Text⟩:TLine)) (Int.toNat v9)).Text).length:Int))∧(if 132 < (((gt (List.set out_1 (Int.toNat v9) (⟨(IntKind.wrap .i64 ((Int.tmod (IntKind.wrap .u64 ((gt out_1 (Int.toNat v9)).Ctl)) 256))),(gt out_1 (Int.toNat v9)).Text⟩:TLine)) (Int.toNat v9)).Text).length:Int) then 132 else (((gt (List.set out_1 (Int.toNat v9) (⟨(IntKind.wrap .i64 ((Int.tmod (IntKind.wrap .u64 ((gt out_1 (Int.toNat v9)).Ctl)) 256))),(gt out_1 (Int.toNat v9)).Text⟩:TLine)) (Int.toNat v9)).Text).length:Int))≤(((gt (List.set out_1 (Int.toNat v9) (⟨(IntKind.wrap .i64 ((Int.tmod (IntKind.wrap .u64 ((gt out_1 (Int.toNat v9)).Ctl)) 256))),(gt out_1 (Int.toNat v9)).Text⟩:TLine)) (Int.toNat v9)).Text).length:Int))∧(0≤v9∧v9 < (out_1.length:Int))∧(Int.toNat v9) < out_1.length) <|
    some (.inl ((List.set (List.set out_1 (Int.toNat v9) (⟨(IntKind.wrap .i64 ((Int.tmod (IntKind.wrap .u64 ((gt out_1 (Int.toNat v9)).Ctl)) 256))),(gt out_1 (Int.toNat v9)).Text⟩:TLine)) (Int.toNat v9) (⟨(gt (List.set out_1 (Int.toNat v9) (⟨(IntKind.wrap .i64 ((Int.tmod (IntKind.wrap .u64 ((gt out_1 (Int.toNat v9)).Ctl)) 256))),(gt out_1 (Int.toNat v9)).Text⟩:TLine)) (Int.toNat v9)).Ctl,(List.take (Int.toNat (if 132 < (((gt (List.set out_1 (Int.toNat v9) (⟨(IntKind.wrap .i64 ((Int.tmod (IntKind.wrap .u64 ((gt out_1 (Int.toNat v9)).Ctl)) 256))),(gt out_1 (Int.toNat v9)).Text⟩:TLine)) (Int.toNat v9)).Text).length:Int) then 132 else (((gt (List.set out_1 (Int.toNat v9) (⟨(IntKind.wrap .i64 ((Int.tmod (IntKind.wrap .u64 ((gt out_1 (Int.toNat v9)).Ctl)) 256))),(gt out_1 (Int.toNat v9)).Text⟩:TLine)) (Int.toNat v9)).Text).length:Int))) ((gt (List.set out_1 (Int.toNat v9) (⟨(IntKind.wrap .i64 ((Int.tmod (IntKind.wrap .u64 ((gt out_1 (Int.toNat v9)).Ctl)) 256))),(gt out_1 (Int.toNat v9)).Text⟩:TLine)) (Int.toNat v9)).Text))⟩:TLine)),(IntKind.wrap .i64 (v9+1))))
  else
    some (.inr out_1)
def law39_Valid (n:Nat) (l:List TLine):Option (List TLine) :=
  (law39_Few n l).bind fun r1 =>
  (loopF (fun (x:(List TLine)×Int)=>law39_Valid_b2 n ((r1.length:Nat):Int) x.1 x.2) n (r1,0)).bind fun y5 =>
  law39_Valid_k1 n y5
def xlaw39_Valid (n:Nat):Go.AE.Fn:=mkFn (A:=(List TLine)) (R:=(List TLine)) 11 [(false,[.slice 48])] false (fun xs=>((cg (xs.getD 0 []) 0).toSl.map d_TLine)) (fun a=>[[.slice (List.map e_TLine a)]]) (fun a=>law39_Valid n a) (fun r=>[.own 0 [.int .i64,.str] 0 r.length]) (fun r=>[.row 48 (List.map e_TLine r)])
theorem claw39_Valid (n:Nat):Contract Try.prog (xlaw39_Valid n):=by
  have hΓ:=g1 (claw39_Few n) (@g0 (Contract Try.prog))
  refine contract_f (Try.f11.body.getD .skip) h00 Try.func11 rfl Try.call11 (by decide) (fun _ r=>⟨rfl,m1 ⟨48,_,_,rfl,ty48,rfl⟩ m0⟩) ?_
  rintro l r H
  try dsimp only at H
  unfold law39_Valid at H
  simp only [Try.f11,Option.getD]
  refine rA ?_
  obtain ⟨r1,hr1,H⟩:=bind_some H
  have q:=And.intro @xlaw39_Few.eq_1 hr1
  refine rAq ?_
  refine Sm.cut (fun (x:(List TLine))=>law39_Valid_s1 x) (fun x=>law39_Valid_k1 n x=some r) ?_ ?_
  · refine rA ?_
    refine Sm.block ?_
    obtain ⟨y5,hy5,Ho5⟩:=bind_some H
    refine Sm.loopB _ (fun x=>law39_Valid_t2 ((r1.length:Nat):Int) x.1 x.2) hy5 (wb [some 96]) ?_
    rintro ⟨out_1,v9⟩ z5 H
    try dsimp only at H
    unfold law39_Valid_b2 at H
    refine Sm.st (law39_Valid_t2.eq_1 ..) ?_
    refine rA ?_
    refine Sm.seqK fun K7 hK7=>?_
    refine cnd H (fun h8 H=>?_) (fun h8 H=>?_)
    · refine Sm.skip ?_
      refine hK7 _ ?_
      refine Sm.seqK fun K9 hK9=>?_
      refine Sm.block ?_
      refine rA ?_
      obtain ⟨⟨hg19,hg20,hg21,hg22⟩,H⟩:=gd_some H
      refine rA ?_
      obtain ⟨⟨hg12,hg13,hg14,hg15,hg16,hg17,hg18⟩,H⟩:=gd_some H
      refine eD ?_
      refine hK9 _ ?_
      refine eA ?_
      refine lf ?_
      exact nx H (wb [some 9002])
    refine Sm.exit ?_
    refine lf ?_
    refine lx H fun hyy=>?_
    subst hyy
    have H:=Ho5
    try dsimp only at H
    refine lf ?_
    exact ⟨_,H,wb [some 9002]⟩
  rintro out H
  try dsimp only at H
  unfold law39_Valid_k1 at H
  refine Sm.st (law39_Valid_s1.eq_1 ..) ?_
  refine rA ?_
  refine Sm.ret ?_
  refine lf ?_
  obtain rfl:=Option.some.inj H
  exact rto [some 9000]
def track_valid (n:Nat) (r_:TRec):Option Bool :=
  some (if (if (decide (r_.R ≥ 1))=true then (decide (r_.R≤255)) else false)=true then (decide ((r_.Key.length:Int)≤255)) else false)
def xtrack_valid (n:Nat):Go.AE.Fn:=mkFn (A:=TRec) (R:=Bool) 56 [(true,[.int .i64,.slice 5,.slice 5,.bool])] false (fun xs=>(⟨(cg (xs.getD 0 []) 0).toInt,((cg (xs.getD 0 []) 1).toSl.map d_Int),((cg (xs.getD 0 []) 2).toSl.map d_Int),(cg (xs.getD 0 []) 3).toBool⟩:TRec)) (fun a=>[[.int a.R,.slice (List.map e_Int a.Key),.slice (List.map e_Int a.Data),.bool a.Bad]]) (fun a=>track_valid n a) (fun r=>[.c .bool (.bool r)]) (fun r=>[])
theorem ctrack_valid (n:Nat):Contract Try.prog (xtrack_valid n):=by
  have hΓ:=@g0 (Contract Try.prog)
  refine contract_f (Try.f56.body.getD .skip) h00 Try.func56 rfl Try.call56 (by decide) (by intro _ r;exact ⟨rfl,by simp⟩) ?_
  rintro r_ r H
  try dsimp only at H
  unfold track_valid at H
  simp only [Try.f56,Option.getD]
  refine rA ?_
  refine rA ?_
  refine Sm.ret ?_
  refine lf ?_
  obtain rfl:=Option.some.inj H
  exact rt []
end Go.Proofs.Ytkebegfopnlkhaa
