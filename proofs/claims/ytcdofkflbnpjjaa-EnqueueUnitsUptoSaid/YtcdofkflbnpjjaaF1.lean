/- Text. -/
import Derived.Test.YtcdofkflbnpjjaaT
import Derived.Test.YtcdofkflbnpjjaaN
set_option maxHeartbeats 8000000
set_option linter.unusedVariables false
set_option linter.unusedSimpArgs false
set_option maxRecDepth 100000
namespace Go.Proofs.Ytcdofkflbnpjjaa
open Go.AE
def law37_one (n:Nat) (name:List UInt8) (exclusive:Bool):Option (List TWant) :=
  some [(⟨name,exclusive⟩:TWant)]
def xlaw37_one (n:Nat):Go.AE.Fn:=mkFn (A:=(List UInt8)×Bool) (R:=(List TWant)) 32 [(false,[.str]),(false,[.bool])] false (fun xs=>((cg (xs.getD 0 []) 0).toStr,(cg (xs.getD 1 []) 0).toBool)) (fun a=>[[.str a.1],[.bool a.2]]) (fun a=>law37_one n a.1 a.2) (fun r=>[.own 0 [.str,.bool] 0 r.length]) (fun r=>[.row 92 (List.map e_TWant r)])
theorem claw37_one (n:Nat):Contract Try.prog (xlaw37_one n):=by
  have hΓ:=@g0 (Contract Try.prog)
  refine contract_f (Try.f32.body.getD .skip) h00 Try.func32 rfl Try.call32 (by decide) (fun _ r=>⟨rfl,m1 ⟨92,_,_,rfl,ty92,rfl⟩ m0⟩) ?_
  rintro ⟨name,exclusive⟩ r H
  try dsimp only at H
  unfold law37_one at H
  simp only [Try.f32,Option.getD]
  refine rA ?_
  refine rA ?_
  refine Sm.ret ?_
  refine lf ?_
  obtain rfl:=Option.some.inj H
  exact rto [some 128]
abbrev enqueue_Request__normal_s1 (r_:TRequest):S:=stB [(1,.box 9000 0)] [(9000,.box [.c (.int .i64) (.int r_.Job),.c (.slice 92) (.slice (List.map e_TWant r_.Wants))])]
def enqueue_Request__normal_k1 (n:Nat) (r_:TRequest):Option Bool :=
  some (decide ((r_.Wants.length:Int)≤512))
abbrev enqueue_Request__normal_t2 (r_:TRequest) (k:Int):S:=stB [(1,.box 9002 0),(3,.c (.int .i64) (.int k))] [(9002,.box [.c (.int .i64) (.int r_.Job),.c (.slice 92) (.slice (List.map e_TWant r_.Wants))])]
def enqueue_Request__normal_b2 (n:Nat) (r_:TRequest) (k:Int):Option ((Int) ⊕ (((Bool) ⊕ (Unit)))) :=
  bif (decide (k < (r_.Wants.length:Int))) then
    gd ((0≤(IntKind.wrap .i64 (k - 1))∧(IntKind.wrap .i64 (k - 1)) < (r_.Wants.length:Int))∧(0≤k∧k < (r_.Wants.length:Int))) <|
    bif (!Op.bytesLess ((gt r_.Wants (Int.toNat (IntKind.wrap .i64 (k - 1)))).Name) ((gt r_.Wants (Int.toNat k)).Name)) then
      some (.inr (.inl false))
    else
      some (.inl (IntKind.wrap .i64 (k+1)))
  else
    some (.inr (.inr ()))
def enqueue_Request__normal (n:Nat) (r_:TRequest):Option Bool :=
  (loopF (fun (x:Int)=>enqueue_Request__normal_b2 n r_ x) n 1).bind fun y4 =>
  match y4 with
  | .inl vv =>
    some vv
  | .inr vv =>
    enqueue_Request__normal_k1 n r_
def xenqueue_Request__normal (n:Nat):Go.AE.Fn:=mkFn (A:=TRequest) (R:=Bool) 45 [(true,[.int .i64,.slice 92])] false (fun xs=>(⟨(cg (xs.getD 0 []) 0).toInt,((cg (xs.getD 0 []) 1).toSl.map d_TWant)⟩:TRequest)) (fun a=>[[.int a.Job,.slice (List.map e_TWant a.Wants)]]) (fun a=>enqueue_Request__normal n a) (fun r=>[.c .bool (.bool r)]) (fun r=>[])
theorem cenqueue_Request__normal (n:Nat):Contract Try.prog (xenqueue_Request__normal n):=by
  have hΓ:=@g0 (Contract Try.prog)
  refine contract_f (Try.f45.body.getD .skip) h00 Try.func45 rfl Try.call45 (by decide) (by intro _ r;exact ⟨rfl,by simp⟩) ?_
  rintro r_ r H
  try dsimp only at H
  unfold enqueue_Request__normal at H
  simp only [Try.f45,Option.getD]
  refine rA ?_
  refine Sm.cut (fun (x:Unit)=>enqueue_Request__normal_s1 r_) (fun x=>enqueue_Request__normal_k1 n r_=some r) ?_ ?_
  · refine rA ?_
    refine Sm.block ?_
    obtain ⟨y4,hy4,Ho4⟩:=bind_some H
    refine Sm.loopB _ (fun x=>enqueue_Request__normal_t2 r_ x) hy4 (wb [some 16]) ?_
    rintro k z4 H
    try dsimp only at H
    unfold enqueue_Request__normal_b2 at H
    refine Sm.st (enqueue_Request__normal_t2.eq_1 ..) ?_
    refine Sm.seqK fun K5 hK5=>?_
    refine rA ?_
    refine cnd H (fun h7 H=>?_) (fun h7 H=>?_)
    · refine Sm.skip ?_
      refine hK5 _ ?_
      refine Sm.seqK fun K8 hK8=>?_
      refine Sm.block ?_
      obtain ⟨⟨hg12,hg13⟩,H⟩:=gd_some H
      refine rD ?_
      refine cnd H (fun h10 H=>?_) (fun h10 H=>?_)
      · refine rA ?_
        refine Sm.ret ?_
        refine lf ?_
        refine lx H fun hyy=>?_
        subst hyy
        have H:=Ho4
        try dsimp only at H
        refine lf ?_
        obtain rfl:=Option.some.inj H
        exact rt []
      refine Sm.skip ?_
      refine hK8 _ ?_
      refine eA ?_
      refine lf ?_
      exact nx H (wb [some 9002])
    refine Sm.exit ?_
    refine lf ?_
    refine lx H fun hyy=>?_
    subst hyy
    have H:=Ho4
    try dsimp only at H
    refine lf ?_
    exact ⟨(),H,wb [some 9002]⟩
  rintro ⟨⟩ H
  try dsimp only at H
  unfold enqueue_Request__normal_k1 at H
  refine Sm.st (enqueue_Request__normal_s1.eq_1 ..) ?_
  refine rA ?_
  refine Sm.ret ?_
  refine lf ?_
  obtain rfl:=Option.some.inj H
  exact rt []
def enqueue_Request__blocked_1_1_1_M1 (n:Nat) (b:TWant) (p1:List UInt8) (p1_:Bool):Option Bool :=
  gd ((((p1 == b.Name) && !p1_)=true→((p1 == b.Name) && (!p1_))=true)) <|
  some (if (p1 == b.Name)=true then (if p1_=true then true else b.Exclusive) else false)
theorem cenqueue_Request__blocked_1_1_1_M1 (n:Nat) (b:TWant) (p1:List UInt8) (p1_:Bool) (r:Bool) (H:enqueue_Request__blocked_1_1_1_M1 n b p1 p1_=some r):CallsM Try.prog 63 [.dat (true,[.str,.bool]) [.str b.Name,.bool b.Exclusive],.ref (.box 0 0)] [.box [.c .str (.str p1),.c .bool (.bool p1_)]] [.c .bool (.bool r)] [.box [.c .str (.str p1),.c .bool (.bool p1_)]]:=by
  have hΓ:=@g0 (Contract Try.prog)
  refine callsM_of (Try.f63.body.getD .skip) h00 Try.func63 rfl Try.call63 (Nat.le_of_ble_eq_true rfl) (Nat.le_of_ble_eq_true rfl) ?_
  unfold enqueue_Request__blocked_1_1_1_M1 at H
  simp only [Try.f63,Option.getD]
  refine rA ?_
  obtain ⟨hg3,H⟩:=gd_some H
  refine rA ?_
  refine Sm.ret ?_
  refine lf ?_
  obtain rfl:=Option.some.inj H
  exact rtM [some 0]
abbrev slices_IndexFunc_f80_M2_s1 (f:List UInt8) (f_:Bool):S:=stB [] [(0,.box [.c .str (.str f),.c .bool (.bool f_)])]
def slices_IndexFunc_f80_M2_k1 (n:Nat) (f:List UInt8) (f_:Bool):Option Int :=
  some (-1)
abbrev slices_IndexFunc_f80_M2_t2 (f:List UInt8) (f_:Bool) (s:List TWant) (v7:Int) (v8:Int):S:=stB [(0,.c (.slice 92) (.slice (List.map e_TWant s))),(1,.fnv 63 [.box 0 0]),(7,.c (.int .i64) (.int v7)),(8,.c (.int .i64) (.int v8))] [(0,.box [.c .str (.str f),.c .bool (.bool f_)])]
def slices_IndexFunc_f80_M2_b2 (n:Nat) (f:List UInt8) (f_:Bool) (s:List TWant) (v7:Int) (v8:Int):Option ((Int) ⊕ (((Int) ⊕ (Unit)))) :=
  bif (decide (v8 < v7)) then
    gd ((0≤v8∧v8 < (s.length:Int))) <|
    (enqueue_Request__blocked_1_1_1_M1 n (gt s (Int.toNat v8)) f f_).bind fun r1 =>
    bif r1 then
      some (.inr (.inl v8))
    else
      some (.inl (IntKind.wrap .i64 (v8+1)))
  else
    some (.inr (.inr ()))
def slices_IndexFunc_f80_M2 (n:Nat) (s:List TWant) (f:List UInt8) (f_:Bool):Option Int :=
  (loopF (fun (x:Int)=>slices_IndexFunc_f80_M2_b2 n f f_ s (s.length:Int) x) n 0).bind fun y4 =>
  match y4 with
  | .inl vv =>
    some vv
  | .inr vv =>
    slices_IndexFunc_f80_M2_k1 n f f_
theorem cslices_IndexFunc_f80_M2 (n:Nat) (s:List TWant) (f:List UInt8) (f_:Bool) (r:Int) (H:slices_IndexFunc_f80_M2 n s f f_=some r):CallsM Try.prog 80 [.dat (false,[.slice 92]) [.slice (List.map e_TWant s)],.ref (.fnv 63 [.box 0 0])] [.box [.c .str (.str f),.c .bool (.bool f_)]] [.c (.int .i64) (.int r)] [.box [.c .str (.str f),.c .bool (.bool f_)]]:=by
  have hΓ:=@g0 (Contract Try.prog)
  refine callsM_of (Try.f80.body.getD .skip) h00 Try.func80 rfl Try.call80 (Nat.le_of_ble_eq_true rfl) (Nat.le_of_ble_eq_true rfl) ?_
  unfold slices_IndexFunc_f80_M2 at H
  simp only [Try.f80,Option.getD]
  refine rA ?_
  refine Sm.cut (fun (x:Unit)=>slices_IndexFunc_f80_M2_s1 f f_) (fun x=>slices_IndexFunc_f80_M2_k1 n f f_=some r) ?_ ?_
  · refine rA ?_
    refine Sm.block ?_
    obtain ⟨y4,hy4,Ho4⟩:=bind_some H
    refine Sm.loopB _ (fun x=>slices_IndexFunc_f80_M2_t2 f f_ s (s.length:Int) x) hy4 (wb [some 0]) ?_
    rintro v8 z4 H
    try dsimp only at H
    unfold slices_IndexFunc_f80_M2_b2 at H
    refine Sm.st (slices_IndexFunc_f80_M2_t2.eq_1 ..) ?_
    refine rA ?_
    refine Sm.seqK fun K6 hK6=>?_
    refine cnd H (fun h7 H=>?_) (fun h7 H=>?_)
    · refine Sm.skip ?_
      refine hK6 _ ?_
      refine Sm.seqK fun K8 hK8=>?_
      refine Sm.block ?_
      refine rA ?_
      refine sX fun K10 hK10=>?_
      obtain ⟨hg11,H⟩:=gd_some H
      obtain ⟨r1,hr1,H⟩:=bind_some H
      have q:=hr1
      iterate 5 refine oX ?_
      refine oMq (cenqueue_Request__blocked_1_1_1_M1 n _ _ _ r1 hr1) [0] [] ?_
      refine hK10 _ ?_
      refine cnd H (fun h12 H=>?_) (fun h12 H=>?_)
      · refine rA ?_
        refine Sm.ret ?_
        refine lf ?_
        refine lx H fun hyy=>?_
        subst hyy
        have H:=Ho4
        try dsimp only at H
        refine lf ?_
        obtain rfl:=Option.some.inj H
        exact rtM [some 0]
      refine Sm.skip ?_
      refine hK8 _ ?_
      refine eA ?_
      refine lf ?_
      exact nx H (wb [some 0])
    refine Sm.exit ?_
    refine lf ?_
    refine lx H fun hyy=>?_
    subst hyy
    have H:=Ho4
    try dsimp only at H
    refine lf ?_
    exact ⟨(),H,wb [some 0]⟩
  rintro ⟨⟩ H
  try dsimp only at H
  unfold slices_IndexFunc_f80_M2_k1 at H
  refine Sm.st (slices_IndexFunc_f80_M2_s1.eq_1 ..) ?_
  refine rA ?_
  refine Sm.ret ?_
  refine lf ?_
  obtain rfl:=Option.some.inj H
  exact rtM [some 0]
def enqueue_some_f61_M2 (n:Nat) (l:List TWant) (has:List UInt8) (has_:Bool):Option Bool :=
  (slices_IndexFunc_f80_M2 n l has has_).bind fun r1 =>
  some (decide (r1 ≥ 0))
theorem cenqueue_some_f61_M2 (n:Nat) (l:List TWant) (has:List UInt8) (has_:Bool) (r:Bool) (H:enqueue_some_f61_M2 n l has has_=some r):CallsM Try.prog 61 [.dat (false,[.slice 92]) [.slice (List.map e_TWant l)],.ref (.fnv 63 [.box 0 0])] [.box [.c .str (.str has),.c .bool (.bool has_)]] [.c .bool (.bool r)] [.box [.c .str (.str has),.c .bool (.bool has_)]]:=by
  have hΓ:=@g0 (Contract Try.prog)
  refine callsM_of (Try.f61.body.getD .skip) h00 Try.func61 rfl Try.call61 (Nat.le_of_ble_eq_true rfl) (Nat.le_of_ble_eq_true rfl) ?_
  unfold enqueue_some_f61_M2 at H
  simp only [Try.f61,Option.getD]
  refine rA ?_
  refine sX fun K2 hK2=>?_
  obtain ⟨r1,hr1,H⟩:=bind_some H
  have q:=hr1
  iterate 2 refine oX ?_
  refine oMq (cslices_IndexFunc_f80_M2 n _ _ _ r1 hr1) [0] [] ?_
  iterate 2 refine oXq ?_
  refine hK2 _ ?_
  refine Sm.ret ?_
  refine lf ?_
  obtain rfl:=Option.some.inj H
  exact rtM [some 0]
def enqueue_Request__blocked_1_1_M1 (n:Nat) (a:TWant) (p1:Int) (p1_:List TWant):Option Bool :=
  (enqueue_some_f61_M2 n p1_ a.Name a.Exclusive).bind fun r1 =>
  some r1
theorem cenqueue_Request__blocked_1_1_M1 (n:Nat) (a:TWant) (p1:Int) (p1_:List TWant) (r:Bool) (H:enqueue_Request__blocked_1_1_M1 n a p1 p1_=some r):CallsM Try.prog 62 [.dat (true,[.str,.bool]) [.str a.Name,.bool a.Exclusive],.ref (.box 0 0)] [.box [.c (.int .i64) (.int p1),.c (.slice 92) (.slice (List.map e_TWant p1_))]] [.c .bool (.bool r)] [.box [.c (.int .i64) (.int p1),.c (.slice 92) (.slice (List.map e_TWant p1_))]]:=by
  have hΓ:=@g0 (Contract Try.prog)
  refine callsM_of (Try.f62.body.getD .skip) h00 Try.func62 rfl Try.call62 (Nat.le_of_ble_eq_true rfl) (Nat.le_of_ble_eq_true rfl) ?_
  unfold enqueue_Request__blocked_1_1_M1 at H
  simp only [Try.f62,Option.getD]
  refine rA ?_
  refine sX fun K2 hK2=>?_
  obtain ⟨r1,hr1,H⟩:=bind_some H
  have q:=hr1
  iterate 2 refine oX ?_
  refine oY ?_
  refine oMq (cenqueue_some_f61_M2 n _ _ _ r1 hr1) [32] [] ?_
  refine oXq ?_
  refine hK2 _ ?_
  refine Sm.ret ?_
  refine lf ?_
  obtain rfl:=Option.some.inj H
  exact rtM [some 0]
abbrev slices_IndexFunc_f80_M1_s1 (f:Int) (f_:List TWant):S:=stB [] [(0,.box [.c (.int .i64) (.int f),.c (.slice 92) (.slice (List.map e_TWant f_))])]
def slices_IndexFunc_f80_M1_k1 (n:Nat) (f:Int) (f_:List TWant):Option Int :=
  some (-1)
abbrev slices_IndexFunc_f80_M1_t2 (f:Int) (f_:List TWant) (s:List TWant) (v7:Int) (v8:Int):S:=stB [(0,.c (.slice 92) (.slice (List.map e_TWant s))),(1,.fnv 62 [.box 0 0]),(7,.c (.int .i64) (.int v7)),(8,.c (.int .i64) (.int v8))] [(0,.box [.c (.int .i64) (.int f),.c (.slice 92) (.slice (List.map e_TWant f_))])]
def slices_IndexFunc_f80_M1_b2 (n:Nat) (f:Int) (f_:List TWant) (s:List TWant) (v7:Int) (v8:Int):Option ((Int) ⊕ (((Int) ⊕ (Unit)))) :=
  bif (decide (v8 < v7)) then
    gd ((0≤v8∧v8 < (s.length:Int))) <|
    (enqueue_Request__blocked_1_1_M1 n (gt s (Int.toNat v8)) f f_).bind fun r1 =>
    bif r1 then
      some (.inr (.inl v8))
    else
      some (.inl (IntKind.wrap .i64 (v8+1)))
  else
    some (.inr (.inr ()))
def slices_IndexFunc_f80_M1 (n:Nat) (s:List TWant) (f:Int) (f_:List TWant):Option Int :=
  (loopF (fun (x:Int)=>slices_IndexFunc_f80_M1_b2 n f f_ s (s.length:Int) x) n 0).bind fun y4 =>
  match y4 with
  | .inl vv =>
    some vv
  | .inr vv =>
    slices_IndexFunc_f80_M1_k1 n f f_
theorem cslices_IndexFunc_f80_M1 (n:Nat) (s:List TWant) (f:Int) (f_:List TWant) (r:Int) (H:slices_IndexFunc_f80_M1 n s f f_=some r):CallsM Try.prog 80 [.dat (false,[.slice 92]) [.slice (List.map e_TWant s)],.ref (.fnv 62 [.box 0 0])] [.box [.c (.int .i64) (.int f),.c (.slice 92) (.slice (List.map e_TWant f_))]] [.c (.int .i64) (.int r)] [.box [.c (.int .i64) (.int f),.c (.slice 92) (.slice (List.map e_TWant f_))]]:=by
  have hΓ:=@g0 (Contract Try.prog)
  refine callsM_of (Try.f80.body.getD .skip) h00 Try.func80 rfl Try.call80 (Nat.le_of_ble_eq_true rfl) (Nat.le_of_ble_eq_true rfl) ?_
  unfold slices_IndexFunc_f80_M1 at H
  simp only [Try.f80,Option.getD]
  refine rA ?_
  refine Sm.cut (fun (x:Unit)=>slices_IndexFunc_f80_M1_s1 f f_) (fun x=>slices_IndexFunc_f80_M1_k1 n f f_=some r) ?_ ?_
  · refine rA ?_
    refine Sm.block ?_
    obtain ⟨y4,hy4,Ho4⟩:=bind_some H
    refine Sm.loopB _ (fun x=>slices_IndexFunc_f80_M1_t2 f f_ s (s.length:Int) x) hy4 (wb [some 0]) ?_
    rintro v8 z4 H
    try dsimp only at H
    unfold slices_IndexFunc_f80_M1_b2 at H
    refine Sm.st (slices_IndexFunc_f80_M1_t2.eq_1 ..) ?_
    refine rA ?_
    refine Sm.seqK fun K6 hK6=>?_
    refine cnd H (fun h7 H=>?_) (fun h7 H=>?_)
    · refine Sm.skip ?_
      refine hK6 _ ?_
      refine Sm.seqK fun K8 hK8=>?_
      refine Sm.block ?_
      refine rA ?_
      refine sX fun K10 hK10=>?_
      obtain ⟨hg11,H⟩:=gd_some H
      obtain ⟨r1,hr1,H⟩:=bind_some H
      have q:=hr1
      iterate 5 refine oX ?_
      refine oMq (cenqueue_Request__blocked_1_1_M1 n _ _ _ r1 hr1) [0] [] ?_
      refine hK10 _ ?_
      refine cnd H (fun h12 H=>?_) (fun h12 H=>?_)
      · refine rA ?_
        refine Sm.ret ?_
        refine lf ?_
        refine lx H fun hyy=>?_
        subst hyy
        have H:=Ho4
        try dsimp only at H
        refine lf ?_
        obtain rfl:=Option.some.inj H
        exact rtM [some 0]
      refine Sm.skip ?_
      refine hK8 _ ?_
      refine eA ?_
      refine lf ?_
      exact nx H (wb [some 0])
    refine Sm.exit ?_
    refine lf ?_
    refine lx H fun hyy=>?_
    subst hyy
    have H:=Ho4
    try dsimp only at H
    refine lf ?_
    exact ⟨(),H,wb [some 0]⟩
  rintro ⟨⟩ H
  try dsimp only at H
  unfold slices_IndexFunc_f80_M1_k1 at H
  refine Sm.st (slices_IndexFunc_f80_M1_s1.eq_1 ..) ?_
  refine rA ?_
  refine Sm.ret ?_
  refine lf ?_
  obtain rfl:=Option.some.inj H
  exact rtM [some 0]
def enqueue_some_f61_M1 (n:Nat) (l:List TWant) (has:Int) (has_:List TWant):Option Bool :=
  (slices_IndexFunc_f80_M1 n l has has_).bind fun r1 =>
  some (decide (r1 ≥ 0))
theorem cenqueue_some_f61_M1 (n:Nat) (l:List TWant) (has:Int) (has_:List TWant) (r:Bool) (H:enqueue_some_f61_M1 n l has has_=some r):CallsM Try.prog 61 [.dat (false,[.slice 92]) [.slice (List.map e_TWant l)],.ref (.fnv 62 [.box 0 0])] [.box [.c (.int .i64) (.int has),.c (.slice 92) (.slice (List.map e_TWant has_))]] [.c .bool (.bool r)] [.box [.c (.int .i64) (.int has),.c (.slice 92) (.slice (List.map e_TWant has_))]]:=by
  have hΓ:=@g0 (Contract Try.prog)
  refine callsM_of (Try.f61.body.getD .skip) h00 Try.func61 rfl Try.call61 (Nat.le_of_ble_eq_true rfl) (Nat.le_of_ble_eq_true rfl) ?_
  unfold enqueue_some_f61_M1 at H
  simp only [Try.f61,Option.getD]
  refine rA ?_
  refine sX fun K2 hK2=>?_
  obtain ⟨r1,hr1,H⟩:=bind_some H
  have q:=hr1
  iterate 2 refine oX ?_
  refine oMq (cslices_IndexFunc_f80_M1 n _ _ _ r1 hr1) [0] [] ?_
  iterate 2 refine oXq ?_
  refine hK2 _ ?_
  refine Sm.ret ?_
  refine lf ?_
  obtain rfl:=Option.some.inj H
  exact rtM [some 0]
def enqueue_Request__blocked_1_M1 (n:Nat) (q:TRequest) (p1:Int) (p1_:List TWant):Option Bool :=
  (enqueue_some_f61_M1 n p1_ q.Job q.Wants).bind fun r1 =>
  some r1
theorem cenqueue_Request__blocked_1_M1 (n:Nat) (q:TRequest) (p1:Int) (p1_:List TWant) (r:Bool) (H:enqueue_Request__blocked_1_M1 n q p1 p1_=some r):CallsM Try.prog 60 [.dat (true,[.int .i64,.slice 92]) [.int q.Job,.slice (List.map e_TWant q.Wants)],.ref (.box 0 0)] [.box [.c (.int .i64) (.int p1),.c (.slice 92) (.slice (List.map e_TWant p1_))]] [.c .bool (.bool r)] [.box [.c (.int .i64) (.int p1),.c (.slice 92) (.slice (List.map e_TWant p1_))]]:=by
  have hΓ:=@g0 (Contract Try.prog)
  refine callsM_of (Try.f60.body.getD .skip) h00 Try.func60 rfl Try.call60 (Nat.le_of_ble_eq_true rfl) (Nat.le_of_ble_eq_true rfl) ?_
  unfold enqueue_Request__blocked_1_M1 at H
  simp only [Try.f60,Option.getD]
  refine rA ?_
  refine sX fun K2 hK2=>?_
  obtain ⟨r1,hr1,H⟩:=bind_some H
  have q:=hr1
  iterate 2 refine oX ?_
  refine oY ?_
  refine oMq (cenqueue_some_f61_M1 n _ _ _ r1 hr1) [32] [] ?_
  refine oXq ?_
  refine hK2 _ ?_
  refine Sm.ret ?_
  refine lf ?_
  obtain rfl:=Option.some.inj H
  exact rtM [some 0]
abbrev slices_IndexFunc_f57_M1_s1 (f:Int) (f_:List TWant):S:=stB [] [(0,.box [.c (.int .i64) (.int f),.c (.slice 92) (.slice (List.map e_TWant f_))])]
def slices_IndexFunc_f57_M1_k1 (n:Nat) (f:Int) (f_:List TWant):Option Int :=
  some (-1)
abbrev slices_IndexFunc_f57_M1_t2 (f:Int) (f_:List TWant) (s:List TRequest) (v7:Int) (v8:Int):S:=stB [(0,.c (.slice 61) (.slice (List.map e_TRequest s))),(1,.fnv 60 [.box 0 0]),(7,.c (.int .i64) (.int v7)),(8,.c (.int .i64) (.int v8))] [(0,.box [.c (.int .i64) (.int f),.c (.slice 92) (.slice (List.map e_TWant f_))])]
def slices_IndexFunc_f57_M1_b2 (n:Nat) (f:Int) (f_:List TWant) (s:List TRequest) (v7:Int) (v8:Int):Option ((Int) ⊕ (((Int) ⊕ (Unit)))) :=
  bif (decide (v8 < v7)) then
    gd ((0≤v8∧v8 < (s.length:Int))) <|
    (enqueue_Request__blocked_1_M1 n (gt s (Int.toNat v8)) f f_).bind fun r1 =>
    bif r1 then
      some (.inr (.inl v8))
    else
      some (.inl (IntKind.wrap .i64 (v8+1)))
  else
    some (.inr (.inr ()))
def slices_IndexFunc_f57_M1 (n:Nat) (s:List TRequest) (f:Int) (f_:List TWant):Option Int :=
  (loopF (fun (x:Int)=>slices_IndexFunc_f57_M1_b2 n f f_ s (s.length:Int) x) n 0).bind fun y4 =>
  match y4 with
  | .inl vv =>
    some vv
  | .inr vv =>
    slices_IndexFunc_f57_M1_k1 n f f_
theorem cslices_IndexFunc_f57_M1 (n:Nat) (s:List TRequest) (f:Int) (f_:List TWant) (r:Int) (H:slices_IndexFunc_f57_M1 n s f f_=some r):CallsM Try.prog 57 [.dat (false,[.slice 61]) [.slice (List.map e_TRequest s)],.ref (.fnv 60 [.box 0 0])] [.box [.c (.int .i64) (.int f),.c (.slice 92) (.slice (List.map e_TWant f_))]] [.c (.int .i64) (.int r)] [.box [.c (.int .i64) (.int f),.c (.slice 92) (.slice (List.map e_TWant f_))]]:=by
  have hΓ:=@g0 (Contract Try.prog)
  refine callsM_of (Try.f57.body.getD .skip) h00 Try.func57 rfl Try.call57 (Nat.le_of_ble_eq_true rfl) (Nat.le_of_ble_eq_true rfl) ?_
  unfold slices_IndexFunc_f57_M1 at H
  simp only [Try.f57,Option.getD]
  refine rA ?_
  refine Sm.cut (fun (x:Unit)=>slices_IndexFunc_f57_M1_s1 f f_) (fun x=>slices_IndexFunc_f57_M1_k1 n f f_=some r) ?_ ?_
  · refine rA ?_
    refine Sm.block ?_
    obtain ⟨y4,hy4,Ho4⟩:=bind_some H
    refine Sm.loopB _ (fun x=>slices_IndexFunc_f57_M1_t2 f f_ s (s.length:Int) x) hy4 (wb [some 0]) ?_
    rintro v8 z4 H
    try dsimp only at H
    unfold slices_IndexFunc_f57_M1_b2 at H
    refine Sm.st (slices_IndexFunc_f57_M1_t2.eq_1 ..) ?_
    refine rA ?_
    refine Sm.seqK fun K6 hK6=>?_
    refine cnd H (fun h7 H=>?_) (fun h7 H=>?_)
    · refine Sm.skip ?_
      refine hK6 _ ?_
      refine Sm.seqK fun K8 hK8=>?_
      refine Sm.block ?_
      refine rA ?_
      refine sX fun K10 hK10=>?_
      obtain ⟨hg11,H⟩:=gd_some H
      obtain ⟨r1,hr1,H⟩:=bind_some H
      have q:=hr1
      iterate 5 refine oX ?_
      refine oMq (cenqueue_Request__blocked_1_M1 n _ _ _ r1 hr1) [0] [] ?_
      refine hK10 _ ?_
      refine cnd H (fun h12 H=>?_) (fun h12 H=>?_)
      · refine rA ?_
        refine Sm.ret ?_
        refine lf ?_
        refine lx H fun hyy=>?_
        subst hyy
        have H:=Ho4
        try dsimp only at H
        refine lf ?_
        obtain rfl:=Option.some.inj H
        exact rtM [some 0]
      refine Sm.skip ?_
      refine hK8 _ ?_
      refine eA ?_
      refine lf ?_
      exact nx H (wb [some 0])
    refine Sm.exit ?_
    refine lf ?_
    refine lx H fun hyy=>?_
    subst hyy
    have H:=Ho4
    try dsimp only at H
    refine lf ?_
    exact ⟨(),H,wb [some 0]⟩
  rintro ⟨⟩ H
  try dsimp only at H
  unfold slices_IndexFunc_f57_M1_k1 at H
  refine Sm.st (slices_IndexFunc_f57_M1_s1.eq_1 ..) ?_
  refine rA ?_
  refine Sm.ret ?_
  refine lf ?_
  obtain rfl:=Option.some.inj H
  exact rtM [some 0]
def enqueue_some_f59_M1 (n:Nat) (l:List TRequest) (has:Int) (has_:List TWant):Option Bool :=
  (slices_IndexFunc_f57_M1 n l has has_).bind fun r1 =>
  some (decide (r1 ≥ 0))
theorem cenqueue_some_f59_M1 (n:Nat) (l:List TRequest) (has:Int) (has_:List TWant) (r:Bool) (H:enqueue_some_f59_M1 n l has has_=some r):CallsM Try.prog 59 [.dat (false,[.slice 61]) [.slice (List.map e_TRequest l)],.ref (.fnv 60 [.box 0 0])] [.box [.c (.int .i64) (.int has),.c (.slice 92) (.slice (List.map e_TWant has_))]] [.c .bool (.bool r)] [.box [.c (.int .i64) (.int has),.c (.slice 92) (.slice (List.map e_TWant has_))]]:=by
  have hΓ:=@g0 (Contract Try.prog)
  refine callsM_of (Try.f59.body.getD .skip) h00 Try.func59 rfl Try.call59 (Nat.le_of_ble_eq_true rfl) (Nat.le_of_ble_eq_true rfl) ?_
  unfold enqueue_some_f59_M1 at H
  simp only [Try.f59,Option.getD]
  refine rA ?_
  refine sX fun K2 hK2=>?_
  obtain ⟨r1,hr1,H⟩:=bind_some H
  have q:=hr1
  iterate 2 refine oX ?_
  refine oMq (cslices_IndexFunc_f57_M1 n _ _ _ r1 hr1) [0] [] ?_
  iterate 2 refine oXq ?_
  refine hK2 _ ?_
  refine Sm.ret ?_
  refine lf ?_
  obtain rfl:=Option.some.inj H
  exact rtM [some 0]
def enqueue_Request__blocked (n:Nat) (r_:TRequest) (l:List TRequest):Option Bool :=
  (enqueue_some_f59_M1 n l r_.Job r_.Wants).bind fun r1 =>
  some r1
def xenqueue_Request__blocked (n:Nat):Go.AE.Fn:=mkFn (A:=TRequest×(List TRequest)) (R:=Bool) 37 [(true,[.int .i64,.slice 92]),(false,[.slice 61])] false (fun xs=>((⟨(cg (xs.getD 0 []) 0).toInt,((cg (xs.getD 0 []) 1).toSl.map d_TWant)⟩:TRequest),((cg (xs.getD 1 []) 0).toSl.map d_TRequest))) (fun a=>[[.int a.1.Job,.slice (List.map e_TWant a.1.Wants)],[.slice (List.map e_TRequest a.2)]]) (fun a=>enqueue_Request__blocked n a.1 a.2) (fun r=>[.c .bool (.bool r)]) (fun r=>[])
theorem cenqueue_Request__blocked (n:Nat):Contract Try.prog (xenqueue_Request__blocked n):=by
  have hΓ:=@g0 (Contract Try.prog)
  refine contract_f (Try.f37.body.getD .skip) h00 Try.func37 rfl Try.call37 (by decide) (by intro _ r;exact ⟨rfl,by simp⟩) ?_
  rintro ⟨r_,l⟩ r H
  try dsimp only at H
  unfold enqueue_Request__blocked at H
  simp only [Try.f37,Option.getD]
  refine rA ?_
  refine sX fun K2 hK2=>?_
  obtain ⟨r1,hr1,H⟩:=bind_some H
  have q:=hr1
  refine oX ?_
  refine oY ?_
  refine oMq (cenqueue_some_f59_M1 n _ _ _ r1 hr1) [32] [] ?_
  refine oXq ?_
  refine hK2 _ ?_
  refine Sm.ret ?_
  refine lf ?_
  obtain rfl:=Option.some.inj H
  exact rt []
abbrev enqueue_Check_s2:S:=stB [] []
def enqueue_Check_k2 (n:Nat):Option Int :=
  some 0
abbrev enqueue_Check_t3 (t:TTable) (v40:Int) (seen_1:List (Int×Bool)) (v41:Int):S:=stB [(1,.box 9004 0),(3,.mref 9005),(39,.c (.slice 61) (.slice (List.map e_TRequest t.Waiting))),(40,.c (.int .i64) (.int v40)),(41,.c (.int .i64) (.int v41))] [(9004,.box [.c (.slice 61) (.slice (List.map e_TRequest t.Held)),.c (.slice 61) (.slice (List.map e_TRequest t.Waiting))]),(9005,.mp (.int .i64) (false,[.bool]) (List.map em_Int_Bool seen_1))]
def enqueue_Check_b3 (n:Nat) (t:TTable) (v40:Int) (seen_1:List (Int×Bool)) (v41:Int):Option (((List (Int×Bool))×Int) ⊕ (((Int) ⊕ (Unit)))) :=
  bif (decide (v41 < v40)) then
    gd ((0≤v41∧v41 < (t.Waiting.length:Int))) <|
    gd (((!((tget ((gt t.Waiting (Int.toNat v41)).Job) seen_1).getD default))=true→(enqueue_Request__normal n (gt t.Waiting (Int.toNat v41))).isSome=true)∧((!(if ((tget ((gt t.Waiting (Int.toNat v41)).Job) seen_1).getD default)=true then true else (!((enqueue_Request__normal n (gt t.Waiting (Int.toNat v41))).getD default))))=true→(enqueue_Request__blocked n (gt t.Waiting (Int.toNat v41)) t.Held).isSome=true)∧(((!(if ((tget ((gt t.Waiting (Int.toNat v41)).Job) seen_1).getD default)=true then true else (!((enqueue_Request__normal n (gt t.Waiting (Int.toNat v41))).getD default)))) && (!((enqueue_Request__blocked n (gt t.Waiting (Int.toNat v41)) t.Held).getD default)))=true→(0≤v41∧v41≤(t.Waiting.length:Int)))∧(((!(if ((tget ((gt t.Waiting (Int.toNat v41)).Job) seen_1).getD default)=true then true else (!((enqueue_Request__normal n (gt t.Waiting (Int.toNat v41))).getD default)))) && (!((enqueue_Request__blocked n (gt t.Waiting (Int.toNat v41)) t.Held).getD default)))=true→(enqueue_Request__blocked n (gt t.Waiting (Int.toNat v41)) (List.take (Int.toNat v41) t.Waiting)).isSome=true)) <|
    bif (if (if ((tget ((gt t.Waiting (Int.toNat v41)).Job) seen_1).getD default)=true then true else (!((enqueue_Request__normal n (gt t.Waiting (Int.toNat v41))).getD default)))=true then true else (if (!((enqueue_Request__blocked n (gt t.Waiting (Int.toNat v41)) t.Held).getD default))=true then (!((enqueue_Request__blocked n (gt t.Waiting (Int.toNat v41)) (List.take (Int.toNat v41) t.Waiting)).getD default)) else false)) then
      some (.inr (.inl 5))
    else
      some (.inl ((tset ((gt t.Waiting (Int.toNat v41)).Job) true seen_1),(IntKind.wrap .i64 (v41+1))))
  else
    some (.inr (.inr ()))
abbrev enqueue_Check_s1 (t:TTable) (seen:List (Int×Bool)):S:=stB [(1,.box 9000 0),(3,.mref 9001)] [(9000,.box [.c (.slice 61) (.slice (List.map e_TRequest t.Held)),.c (.slice 61) (.slice (List.map e_TRequest t.Waiting))]),(9001,.mp (.int .i64) (false,[.bool]) (List.map em_Int_Bool seen))]
def enqueue_Check_k1 (n:Nat) (t:TTable) (seen:List (Int×Bool)):Option Int :=
  (loopF (fun (x:(List (Int×Bool))×Int)=>enqueue_Check_b3 n t (t.Waiting.length:Int) x.1 x.2) n (seen,0)).bind fun y5 =>
  match y5 with
  | .inl vv =>
    some vv
  | .inr vv =>
    enqueue_Check_k2 n
abbrev enqueue_Check_t4 (t:TTable) (v11:Int) (seen_2:List (Int×Bool)) (v12:Int):S:=stB [(1,.box 9008 0),(3,.mref 9009),(10,.c (.slice 61) (.slice (List.map e_TRequest t.Held))),(11,.c (.int .i64) (.int v11)),(12,.c (.int .i64) (.int v12))] [(9008,.box [.c (.slice 61) (.slice (List.map e_TRequest t.Held)),.c (.slice 61) (.slice (List.map e_TRequest t.Waiting))]),(9009,.mp (.int .i64) (false,[.bool]) (List.map em_Int_Bool seen_2))]
def enqueue_Check_b4 (n:Nat) (t:TTable) (v11:Int) (seen_2:List (Int×Bool)) (v12:Int):Option (((List (Int×Bool))×Int) ⊕ (((Int) ⊕ ((List (Int×Bool)))))) :=
  bif (decide (v12 < v11)) then
    gd ((0≤v12∧v12 < (t.Held.length:Int))) <|
    gd (((!((tget ((gt t.Held (Int.toNat v12)).Job) seen_2).getD default))=true→(enqueue_Request__normal n (gt t.Held (Int.toNat v12))).isSome=true)∧((!(if ((tget ((gt t.Held (Int.toNat v12)).Job) seen_2).getD default)=true then true else (!((enqueue_Request__normal n (gt t.Held (Int.toNat v12))).getD default))))=true→(0≤v12∧v12≤(t.Held.length:Int)))∧((!(if ((tget ((gt t.Held (Int.toNat v12)).Job) seen_2).getD default)=true then true else (!((enqueue_Request__normal n (gt t.Held (Int.toNat v12))).getD default))))=true→(enqueue_Request__blocked n (gt t.Held (Int.toNat v12)) (List.take (Int.toNat v12) t.Held)).isSome=true)) <|
    bif (if (if ((tget ((gt t.Held (Int.toNat v12)).Job) seen_2).getD default)=true then true else (!((enqueue_Request__normal n (gt t.Held (Int.toNat v12))).getD default)))=true then true else ((enqueue_Request__blocked n (gt t.Held (Int.toNat v12)) (List.take (Int.toNat v12) t.Held)).getD default)) then
      some (.inr (.inl 5))
    else
      some (.inl ((tset ((gt t.Held (Int.toNat v12)).Job) true seen_2),(IntKind.wrap .i64 (v12+1))))
  else
    some (.inr (.inr seen_2))
def enqueue_Check (n:Nat) (t:TTable):Option Int :=
  (loopF (fun (x:(List (Int×Bool))×Int)=>enqueue_Check_b4 n t (t.Held.length:Int) x.1 x.2) n ([],0)).bind fun y21 =>
  match y21 with
  | .inl vv =>
    some vv
  | .inr vv =>
    enqueue_Check_k1 n t vv
def xenqueue_Check (n:Nat):Go.AE.Fn:=mkFn (A:=TTable) (R:=Int) 23 [(true,[.slice 61,.slice 61])] false (fun xs=>(⟨((cg (xs.getD 0 []) 0).toSl.map d_TRequest),((cg (xs.getD 0 []) 1).toSl.map d_TRequest)⟩:TTable)) (fun a=>[[.slice (List.map e_TRequest a.Held),.slice (List.map e_TRequest a.Waiting)]]) (fun a=>enqueue_Check n a) (fun r=>[.c (.int .i64) (.int r)]) (fun r=>[])
theorem cenqueue_Check (n:Nat):Contract Try.prog (xenqueue_Check n):=by
  have hΓ:=g1 (cenqueue_Request__normal n) (g1 (cenqueue_Request__blocked n) (@g0 (Contract Try.prog)))
  refine contract_f (Try.f23.body.getD .skip) h00 Try.func23 rfl Try.call23 (by decide) (by intro _ r;exact ⟨rfl,by simp⟩) ?_
  rintro t r H
  try dsimp only at H
  unfold enqueue_Check at H
  simp only [Try.f23,Option.getD]
  refine rA ?_
  refine rA ?_
  refine Sm.cut (fun (x:(List (Int×Bool)))=>enqueue_Check_s1 t x) (fun x=>enqueue_Check_k1 n t x=some r) ?_ ?_
  · refine rA ?_
    refine Sm.block ?_
    obtain ⟨y21,hy21,Ho21⟩:=bind_some H
    refine Sm.loopB _ (fun x=>enqueue_Check_t4 t (t.Held.length:Int) x.1 x.2) hy21 (wb [some 16,some 128]) ?_
    rintro ⟨seen_2,v12⟩ z21 H
    try dsimp only at H
    unfold enqueue_Check_b4 at H
    refine Sm.st (enqueue_Check_t4.eq_1 ..) ?_
    refine rA ?_
    refine Sm.seqK fun K23 hK23=>?_
    refine cnd H (fun h24 H=>?_) (fun h24 H=>?_)
    · refine Sm.skip ?_
      refine hK23 _ ?_
      refine Sm.seqK fun K25 hK25=>?_
      refine Sm.block ?_
      obtain ⟨hg34,H⟩:=gd_some H
      refine rA ?_
      refine Sm.seqK fun K27 hK27=>?_
      obtain ⟨⟨hg31,hg32,hg33⟩,H⟩:=gd_some H
      have q:=And.intro @xenqueue_Request__normal.eq_1 @xenqueue_Request__blocked.eq_1
      refine rDq ?_
      refine cnd H (fun h29 H=>?_) (fun h29 H=>?_)
      · refine rA ?_
        refine Sm.ret ?_
        refine lf ?_
        refine lx H fun hyy=>?_
        subst hyy
        have H:=Ho21
        try dsimp only at H
        refine lf ?_
        obtain rfl:=Option.some.inj H
        exact rt []
      refine Sm.skip ?_
      refine hK27 _ ?_
      refine eA ?_
      refine hK25 _ ?_
      refine eA ?_
      refine lf ?_
      exact nx H (wb [some 9008,some 9009])
    refine Sm.exit ?_
    refine lf ?_
    refine lx H fun hyy=>?_
    subst hyy
    have H:=Ho21
    try dsimp only at H
    refine lf ?_
    exact ⟨_,H,wb [some 9008,some 9009]⟩
  rintro seen H
  try dsimp only at H
  unfold enqueue_Check_k1 at H
  refine Sm.st (enqueue_Check_s1.eq_1 ..) ?_
  refine Sm.cut (fun (x:Unit)=>enqueue_Check_s2) (fun x=>enqueue_Check_k2 n=some r) ?_ ?_
  · refine rA ?_
    refine Sm.block ?_
    obtain ⟨y5,hy5,Ho5⟩:=bind_some H
    refine Sm.loopB _ (fun x=>enqueue_Check_t3 t (t.Waiting.length:Int) x.1 x.2) hy5 (wb [some 9000,some 9001]) ?_
    rintro ⟨seen_1,v41⟩ z5 H
    try dsimp only at H
    unfold enqueue_Check_b3 at H
    refine Sm.st (enqueue_Check_t3.eq_1 ..) ?_
    refine rA ?_
    refine Sm.seqK fun K7 hK7=>?_
    refine cnd H (fun h8 H=>?_) (fun h8 H=>?_)
    · refine Sm.skip ?_
      refine hK7 _ ?_
      refine Sm.seqK fun K9 hK9=>?_
      refine Sm.block ?_
      obtain ⟨hg19,H⟩:=gd_some H
      refine rA ?_
      refine Sm.seqK fun K11 hK11=>?_
      obtain ⟨⟨hg15,hg16,hg17,hg18⟩,H⟩:=gd_some H
      have q:=And.intro @xenqueue_Request__normal.eq_1 @xenqueue_Request__blocked.eq_1
      refine rDq ?_
      refine cnd H (fun h13 H=>?_) (fun h13 H=>?_)
      · refine rA ?_
        refine Sm.ret ?_
        refine lf ?_
        refine lx H fun hyy=>?_
        subst hyy
        have H:=Ho5
        try dsimp only at H
        refine lf ?_
        obtain rfl:=Option.some.inj H
        exact rt []
      refine Sm.skip ?_
      refine hK11 _ ?_
      refine eA ?_
      refine hK9 _ ?_
      refine eA ?_
      refine lf ?_
      exact nx H (wb [some 9004,some 9005])
    refine Sm.exit ?_
    refine lf ?_
    refine lx H fun hyy=>?_
    subst hyy
    have H:=Ho5
    try dsimp only at H
    refine lf ?_
    exact ⟨(),H,wb []⟩
  rintro ⟨⟩ H
  try dsimp only at H
  unfold enqueue_Check_k2 at H
  refine Sm.st (enqueue_Check_s2.eq_1 ..) ?_
  refine rA ?_
  refine Sm.ret ?_
  refine lf ?_
  obtain rfl:=Option.some.inj H
  exact rt []
def enqueue_index_1_M1 (n:Nat) (r_:TRequest) (p1:Int):Option Bool :=
  some (r_.Job == p1)
theorem cenqueue_index_1_M1 (n:Nat) (r_:TRequest) (p1:Int) (r:Bool) (H:enqueue_index_1_M1 n r_ p1=some r):CallsM Try.prog 58 [.dat (true,[.int .i64,.slice 92]) [.int r_.Job,.slice (List.map e_TWant r_.Wants)],.ref (.box 0 0)] [.box [.c (.int .i64) (.int p1)]] [.c .bool (.bool r)] [.box [.c (.int .i64) (.int p1)]]:=by
  have hΓ:=@g0 (Contract Try.prog)
  refine callsM_of (Try.f58.body.getD .skip) h00 Try.func58 rfl Try.call58 (Nat.le_of_ble_eq_true rfl) (Nat.le_of_ble_eq_true rfl) ?_
  unfold enqueue_index_1_M1 at H
  simp only [Try.f58,Option.getD]
  refine rA ?_
  refine rA ?_
  refine Sm.ret ?_
  refine lf ?_
  obtain rfl:=Option.some.inj H
  exact rtM [some 0]
abbrev slices_IndexFunc_f57_M2_s1 (f:Int):S:=stB [] [(0,.box [.c (.int .i64) (.int f)])]
def slices_IndexFunc_f57_M2_k1 (n:Nat) (f:Int):Option Int :=
  some (-1)
abbrev slices_IndexFunc_f57_M2_t2 (f:Int) (s:List TRequest) (v7:Int) (v8:Int):S:=stB [(0,.c (.slice 61) (.slice (List.map e_TRequest s))),(1,.fnv 58 [.box 0 0]),(7,.c (.int .i64) (.int v7)),(8,.c (.int .i64) (.int v8))] [(0,.box [.c (.int .i64) (.int f)])]
def slices_IndexFunc_f57_M2_b2 (n:Nat) (f:Int) (s:List TRequest) (v7:Int) (v8:Int):Option ((Int) ⊕ (((Int) ⊕ (Unit)))) :=
  bif (decide (v8 < v7)) then
    gd ((0≤v8∧v8 < (s.length:Int))) <|
    (enqueue_index_1_M1 n (gt s (Int.toNat v8)) f).bind fun r1 =>
    bif r1 then
      some (.inr (.inl v8))
    else
      some (.inl (IntKind.wrap .i64 (v8+1)))
  else
    some (.inr (.inr ()))
def slices_IndexFunc_f57_M2 (n:Nat) (s:List TRequest) (f:Int):Option Int :=
  (loopF (fun (x:Int)=>slices_IndexFunc_f57_M2_b2 n f s (s.length:Int) x) n 0).bind fun y4 =>
  match y4 with
  | .inl vv =>
    some vv
  | .inr vv =>
    slices_IndexFunc_f57_M2_k1 n f
theorem cslices_IndexFunc_f57_M2 (n:Nat) (s:List TRequest) (f:Int) (r:Int) (H:slices_IndexFunc_f57_M2 n s f=some r):CallsM Try.prog 57 [.dat (false,[.slice 61]) [.slice (List.map e_TRequest s)],.ref (.fnv 58 [.box 0 0])] [.box [.c (.int .i64) (.int f)]] [.c (.int .i64) (.int r)] [.box [.c (.int .i64) (.int f)]]:=by
  have hΓ:=@g0 (Contract Try.prog)
  refine callsM_of (Try.f57.body.getD .skip) h00 Try.func57 rfl Try.call57 (Nat.le_of_ble_eq_true rfl) (Nat.le_of_ble_eq_true rfl) ?_
  unfold slices_IndexFunc_f57_M2 at H
  simp only [Try.f57,Option.getD]
  refine rA ?_
  refine Sm.cut (fun (x:Unit)=>slices_IndexFunc_f57_M2_s1 f) (fun x=>slices_IndexFunc_f57_M2_k1 n f=some r) ?_ ?_
  · refine rA ?_
    refine Sm.block ?_
    obtain ⟨y4,hy4,Ho4⟩:=bind_some H
    refine Sm.loopB _ (fun x=>slices_IndexFunc_f57_M2_t2 f s (s.length:Int) x) hy4 (wb [some 0]) ?_
    rintro v8 z4 H
    try dsimp only at H
    unfold slices_IndexFunc_f57_M2_b2 at H
    refine Sm.st (slices_IndexFunc_f57_M2_t2.eq_1 ..) ?_
    refine rA ?_
    refine Sm.seqK fun K6 hK6=>?_
    refine cnd H (fun h7 H=>?_) (fun h7 H=>?_)
    · refine Sm.skip ?_
      refine hK6 _ ?_
      refine Sm.seqK fun K8 hK8=>?_
      refine Sm.block ?_
      refine rA ?_
      refine sX fun K10 hK10=>?_
      obtain ⟨hg11,H⟩:=gd_some H
      obtain ⟨r1,hr1,H⟩:=bind_some H
      have q:=hr1
      iterate 5 refine oX ?_
      refine oMq (cenqueue_index_1_M1 n _ _ r1 hr1) [0] [] ?_
      refine hK10 _ ?_
      refine cnd H (fun h12 H=>?_) (fun h12 H=>?_)
      · refine rA ?_
        refine Sm.ret ?_
        refine lf ?_
        refine lx H fun hyy=>?_
        subst hyy
        have H:=Ho4
        try dsimp only at H
        refine lf ?_
        obtain rfl:=Option.some.inj H
        exact rtM [some 0]
      refine Sm.skip ?_
      refine hK8 _ ?_
      refine eA ?_
      refine lf ?_
      exact nx H (wb [some 0])
    refine Sm.exit ?_
    refine lf ?_
    refine lx H fun hyy=>?_
    subst hyy
    have H:=Ho4
    try dsimp only at H
    refine lf ?_
    exact ⟨(),H,wb [some 0]⟩
  rintro ⟨⟩ H
  try dsimp only at H
  unfold slices_IndexFunc_f57_M2_k1 at H
  refine Sm.st (slices_IndexFunc_f57_M2_s1.eq_1 ..) ?_
  refine rA ?_
  refine Sm.ret ?_
  refine lf ?_
  obtain rfl:=Option.some.inj H
  exact rtM [some 0]
def enqueue_index (n:Nat) (l:List TRequest) (job:Int):Option Int :=
  (slices_IndexFunc_f57_M2 n l job).bind fun r1 =>
  some r1
def xenqueue_index (n:Nat):Go.AE.Fn:=mkFn (A:=(List TRequest)×Int) (R:=Int) 35 [(false,[.slice 61]),(false,[.int .i64])] false (fun xs=>(((cg (xs.getD 0 []) 0).toSl.map d_TRequest),(cg (xs.getD 1 []) 0).toInt)) (fun a=>[[.slice (List.map e_TRequest a.1)],[.int a.2]]) (fun a=>enqueue_index n a.1 a.2) (fun r=>[.c (.int .i64) (.int r)]) (fun r=>[])
theorem cenqueue_index (n:Nat):Contract Try.prog (xenqueue_index n):=by
  have hΓ:=@g0 (Contract Try.prog)
  refine contract_f (Try.f35.body.getD .skip) h00 Try.func35 rfl Try.call35 (by decide) (by intro _ r;exact ⟨rfl,by simp⟩) ?_
  rintro ⟨l,job⟩ r H
  try dsimp only at H
  unfold enqueue_index at H
  simp only [Try.f35,Option.getD]
  refine rA ?_
  refine sX fun K2 hK2=>?_
  obtain ⟨r1,hr1,H⟩:=bind_some H
  have q:=hr1
  refine oX ?_
  refine oY ?_
  refine oMq (cslices_IndexFunc_f57_M2 n _ _ r1 hr1) [48] [] ?_
  refine oXq ?_
  refine hK2 _ ?_
  refine Sm.ret ?_
  refine lf ?_
  obtain rfl:=Option.some.inj H
  exact rt []
def slices_SortFunc_f67_c68 (n:Nat) (s:List TWant):Option (List TWant):=sortG (fun x y=>enqueue_normalize_1 n x y) s
theorem cslices_SortFunc_f67_c68 (n:Nat) (s:List TWant) (r:List TWant) (H:slices_SortFunc_f67_c68 n s=some r):CallsM Try.prog 67 [.ref (.own 0 [.str,.bool] 0 s.length),.ref (.fnv 68 [])] [.row 92 (List.map e_TWant s)] [] [.row 92 (List.map e_TWant r)] :=
  callsM_sortG lay67 ty92 Try.isAgg92 Try.sizeOf92 (by decide) (by decide) (by intro args w;exact Try.call68 args w) e_TWant (fun _=>rfl) (fun x y=>enqueue_normalize_1 n x y) (fun x y c h=>raw68 x y c h) s r H
abbrev enqueue_normalize_s2 (out:List TWant):S:=stB [(6,.own 9001 [.str,.bool] 0 out.length)] [(9001,.row 92 (List.map e_TWant out))]
def enqueue_normalize_k2 (n:Nat) (out:List TWant):Option (List TWant) :=
  (slices_SortFunc_f67_c68 n out).bind fun r1 =>
  some (List.take out.length r1)
abbrev enqueue_normalize_t3 (out_1:List TWant) (rest:List (List UInt8×Bool)):S:=stB [(6,.own 9005 [.str,.bool] 0 out_1.length),(29,.mref 9006)] [(9005,.row 92 (List.map e_TWant out_1)),(9006,.it .str (false,[.bool]) none (List.map em_Str_Bool rest))]
def enqueue_normalize_b3 (n:Nat) (out_1:List TWant) (oo:Option ((List UInt8)×Bool)):Option (((List TWant)) ⊕ (((List TWant)))) :=
  match oo with
  | none =>
    some (.inr out_1)
  | some e9 =>
    gd ((out_1.length+1)≤2147483648) <|
    some (.inl (out_1 ++ [(⟨e9.1,e9.2⟩:TWant)]))
abbrev enqueue_normalize_s1 (exclusive:List (List UInt8×Bool)):S:=stB [(3,.mref 9000)] [(9000,.mp .str (false,[.bool]) (List.map em_Str_Bool exclusive))]
def enqueue_normalize_k1 (n:Nat) (exclusive:List (List UInt8×Bool)):Option (List TWant) :=
  allP exclusive fun q=>(loopE (fun (x:(List TWant)) oo=>enqueue_normalize_b3 n x oo) n [] q).bind fun y7 =>
  enqueue_normalize_k2 n y7
abbrev enqueue_normalize_t4 (l:List TWant) (v11:Int) (exclusive_1:List (List UInt8×Bool)) (v12:Int):S:=stB [(3,.mref 9008),(10,.c (.slice 92) (.slice (List.map e_TWant l))),(11,.c (.int .i64) (.int v11)),(12,.c (.int .i64) (.int v12))] [(9008,.mp .str (false,[.bool]) (List.map em_Str_Bool exclusive_1))]
def enqueue_normalize_b4 (n:Nat) (l:List TWant) (v11:Int) (exclusive_1:List (List UInt8×Bool)) (v12:Int):Option (((List (List UInt8×Bool))×Int) ⊕ (((List (List UInt8×Bool))))) :=
  bif (decide (v12 < v11)) then
    gd ((0≤v12∧v12 < (l.length:Int))) <|
    some (.inl ((tset ((gt l (Int.toNat v12)).Name) (if ((tget ((gt l (Int.toNat v12)).Name) exclusive_1).getD default)=true then true else (gt l (Int.toNat v12)).Exclusive) exclusive_1),(IntKind.wrap .i64 (v12+1))))
  else
    some (.inr exclusive_1)
def enqueue_normalize (n:Nat) (l:List TWant):Option (List TWant) :=
  (loopF (fun (x:(List (List UInt8×Bool))×Int)=>enqueue_normalize_b4 n l (l.length:Int) x.1 x.2) n ([],0)).bind fun y17 =>
  enqueue_normalize_k1 n y17
def xenqueue_normalize (n:Nat):Go.AE.Fn:=mkFn (A:=(List TWant)) (R:=(List TWant)) 43 [(false,[.slice 92])] true (fun xs=>((cg (xs.getD 0 []) 0).toSl.map d_TWant)) (fun a=>[[.slice (List.map e_TWant a)]]) (fun a=>enqueue_normalize n a) (fun r=>[.c (.slice 92) (.slice (List.map e_TWant r))]) (fun r=>[])
theorem cenqueue_normalize (n:Nat):Contract Try.prog (xenqueue_normalize n):=by
  have hΓ:=@g0 (Contract Try.prog)
  refine contract_f (Try.f43.body.getD .skip) h00 Try.func43 rfl Try.call43 (by decide) (by intro h;cases h) ?_
  rintro l r H
  try dsimp only at H
  unfold enqueue_normalize at H
  simp only [Try.f43,Option.getD]
  refine rA ?_
  refine rA ?_
  refine Sm.cut (fun (x:(List (List UInt8×Bool)))=>enqueue_normalize_s1 x) (fun x=>enqueue_normalize_k1 n x=some r) ?_ ?_
  · refine rA ?_
    refine Sm.block ?_
    obtain ⟨y17,hy17,Ho17⟩:=bind_some H
    refine Sm.loopB _ (fun x=>enqueue_normalize_t4 l (l.length:Int) x.1 x.2) hy17 (wb [some 144]) ?_
    rintro ⟨exclusive_1,v12⟩ z17 H
    try dsimp only at H
    unfold enqueue_normalize_b4 at H
    refine Sm.st (enqueue_normalize_t4.eq_1 ..) ?_
    refine rA ?_
    refine Sm.seqK fun K19 hK19=>?_
    refine cnd H (fun h20 H=>?_) (fun h20 H=>?_)
    · refine Sm.skip ?_
      refine hK19 _ ?_
      refine Sm.seqK fun K21 hK21=>?_
      refine Sm.block ?_
      obtain ⟨hg23,H⟩:=gd_some H
      refine rA ?_
      refine eA ?_
      refine hK21 _ ?_
      refine eA ?_
      refine lf ?_
      exact nx H (wb [some 9008])
    refine Sm.exit ?_
    refine lf ?_
    refine lx H fun hyy=>?_
    subst hyy
    have H:=Ho17
    try dsimp only at H
    refine lf ?_
    exact ⟨_,H,wb [some 9008]⟩
  rintro exclusive H
  try dsimp only at H
  unfold enqueue_normalize_k1 at H
  refine Sm.st (enqueue_normalize_s1.eq_1 ..) ?_
  refine rA ?_
  refine Sm.cut (fun (x:(List TWant))=>enqueue_normalize_s2 x) (fun x=>enqueue_normalize_k2 n x=some r) ?_ ?_
  · refine sX fun K6 hK6=>?_
    refine oX ?_
    refine oE stepZ_ok ?_
    refine hK6 _ ?_
    refine Sm.block ?_
    refine Sm.loopE (fun (x:(List TWant)) oo=>enqueue_normalize_b3 n x oo) (fun x l=>enqueue_normalize_t3 x l) _ (allP_some H) ?_ ?_
    · exact wb [none,some 464]
    rintro out_1 rest hdef_b3
    refine Sm.st (enqueue_normalize_t3.eq_1 ..) ?_
    refine sX fun K8 hK8=>?_
    refine opsE (stepLT_ok em_Str_Bool rest) fun K hK=>?_;simp only [z,seval];(repeat (first | refine gcI ?_ | refine fun (_:_≤_)=>?_));refine ⟨fun hl9=>hK _ ?_,fun e9 L9 hp9=>hK _ ?_⟩ <;> clear hK K
    · obtain ⟨z7,Hz9⟩:=hdef_b3 none [] ⟨hl9,rfl⟩
      have H:=Hz9
      try dsimp only at H
      unfold enqueue_normalize_b3 at H
      try dsimp only at H
      refine oX ?_
      refine hK8 _ ?_
      refine Sm.seqK fun K10 hK10=>?_
      refine cndF ?_
      refine Sm.exit ?_
      refine ⟨none,[],_,⟨hl9,rfl⟩,Hz9,?_⟩
      refine lf ?_
      refine ⟨⟨_,(Option.some.inj H).symm⟩,fun y7 hz Ho7=>?_⟩
      have hyy:=Sum.inr.inj ((Option.some.inj H).trans hz)
      subst hyy
      have H:=Ho7
      try dsimp only at H
      refine lf ?_
      exact ⟨_,H,wb [some 9005]⟩
    · obtain ⟨z7,Hz9⟩:=hdef_b3 (some e9) L9 hp9
      have H:=Hz9
      try dsimp only at H
      unfold enqueue_normalize_b3 at H
      try dsimp only at H
      refine oX ?_
      refine hK8 _ ?_
      refine Sm.seqK fun K12 hK12=>?_
      refine cndT ?_
      refine Sm.skip ?_
      refine hK12 _ ?_
      refine Sm.block ?_
      refine sX fun K14 hK14=>?_
      refine oE stepZ_ok ?_
      iterate 4 refine oX ?_
      refine hK14 _ ?_
      obtain ⟨hg15,H⟩:=gd_some H
      refine eA ?_
      refine ⟨some e9,L9,_,hp9,Hz9,?_⟩
      refine lf ?_
      exact nx H (wb [some 640,some 9006])
  rintro out H
  try dsimp only at H
  unfold enqueue_normalize_k2 at H
  refine Sm.st (enqueue_normalize_s2.eq_1 ..) ?_
  refine sX fun K4 hK4=>?_
  obtain ⟨r1,hr1,H⟩:=bind_some H
  have q:=hr1
  refine oX ?_
  refine oMq (cslices_SortFunc_f67_c68 n _ r1 hr1) [9001] [] ?_
  refine hK4 _ ?_
  refine rA ?_
  refine Sm.ret ?_
  refine lf ?_
  obtain rfl:=Option.some.inj H
  exact rt []
def slices_Clone_f79 (n:Nat) (s:List TWant):Option (List TWant) :=
  uniB s fun nb1 =>
  bif nb1 then
    some []
  else
    gd (s.length≤2147483648) <|
    some s
def xslices_Clone_f79 (n:Nat):Go.AE.Fn:=mkFn (A:=(List TWant)) (R:=(List TWant)) 79 [(false,[.slice 92])] false (fun xs=>((cg (xs.getD 0 []) 0).toSl.map d_TWant)) (fun a=>[[.slice (List.map e_TWant a)]]) (fun a=>slices_Clone_f79 n a) (fun r=>[.own 0 [.str,.bool] 0 r.length]) (fun r=>[.row 92 (List.map e_TWant r)])
theorem cslices_Clone_f79 (n:Nat):Contract Try.prog (xslices_Clone_f79 n):=by
  have hΓ:=@g0 (Contract Try.prog)
  refine contract_f (Try.f79.body.getD .skip) h00 Try.func79 rfl Try.call79 (by decide) (fun _ r=>⟨rfl,m1 ⟨92,_,_,rfl,ty92,rfl⟩ m0⟩) ?_
  rintro s r H
  try dsimp only at H
  unfold slices_Clone_f79 at H
  simp only [Try.f79,Option.getD]
  refine rA ?_
  refine Sm.seqK fun K2 hK2=>?_
  refine sX fun K3 hK3=>?_
  refine oX ?_
  refine opsN fun K hK=>?_;simp only [z,seval];(repeat (first | refine gcI ?_ | refine fun (_:_≤_)=>?_));intro nb1 hnb1;refine hK _ ?_;clear hK K
  replace H:=uniB_some H nb1 (fun hb=>by simpa using hnb1 hb)
  refine hK3 _ ?_
  refine cnd H (fun h4 H=>?_) (fun h4 H=>?_)
  · refine rA ?_
    refine Sm.ret ?_
    refine lf ?_
    obtain rfl:=Option.some.inj H
    exact rto [none]
  refine Sm.skip ?_
  refine hK2 _ ?_
  obtain ⟨hg7,H⟩:=gd_some H
  refine rA ?_
  refine Sm.ret ?_
  refine lf ?_
  obtain rfl:=Option.some.inj H
  exact rto [some 112]
abbrev enqueue_copied_s1 (out:List TRequest):S:=stB [(3,.own 9000 [.int .i64,.slice 92] 0 out.length)] [(9000,.row 61 (List.map e_TRequest out))]
def enqueue_copied_k1 (n:Nat) (out:List TRequest):Option (List TRequest) :=
  some out
abbrev enqueue_copied_t2 (l:List TRequest) (v7:Int) (out_1:List TRequest) (v8:Int):S:=stB [(3,.own 9002 [.int .i64,.slice 92] 0 out_1.length),(6,.c (.slice 61) (.slice (List.map e_TRequest l))),(7,.c (.int .i64) (.int v7)),(8,.c (.int .i64) (.int v8))] [(9002,.row 61 (List.map e_TRequest out_1))]
def enqueue_copied_b2 (n:Nat) (l:List TRequest) (v7:Int) (out_1:List TRequest) (v8:Int):Option (((List TRequest)×Int) ⊕ (((List TRequest)))) :=
  bif (decide (v8 < v7)) then
    gd ((0≤v8∧v8 < (l.length:Int))) <|
    (slices_Clone_f79 n ((gt l (Int.toNat v8)).Wants)).bind fun r1 =>
    gd ((out_1.length+1)≤2147483648) <|
    some (.inl ((out_1 ++ [(⟨(gt l (Int.toNat v8)).Job,r1⟩:TRequest)]),(IntKind.wrap .i64 (v8+1))))
  else
    some (.inr out_1)
def enqueue_copied (n:Nat) (l:List TRequest):Option (List TRequest) :=
  (loopF (fun (x:(List TRequest)×Int)=>enqueue_copied_b2 n l (l.length:Int) x.1 x.2) n ([],0)).bind fun y5 =>
  enqueue_copied_k1 n y5
def xenqueue_copied (n:Nat):Go.AE.Fn:=mkFn (A:=(List TRequest)) (R:=(List TRequest)) 56 [(false,[.slice 61])] true (fun xs=>((cg (xs.getD 0 []) 0).toSl.map d_TRequest)) (fun a=>[[.slice (List.map e_TRequest a)]]) (fun a=>enqueue_copied n a) (fun r=>[.own 0 [.int .i64,.slice 92] 0 r.length]) (fun r=>[.row 61 (List.map e_TRequest r)])
theorem cenqueue_copied (n:Nat):Contract Try.prog (xenqueue_copied n):=by
  have hΓ:=g1 (cslices_Clone_f79 n) (@g0 (Contract Try.prog))
  refine contract_f (Try.f56.body.getD .skip) h00 Try.func56 rfl Try.call56 (by decide) (by intro h;cases h) ?_
  rintro l r H
  try dsimp only at H
  unfold enqueue_copied at H
  simp only [Try.f56,Option.getD]
  refine rA ?_
  refine rA ?_
  refine Sm.cut (fun (x:(List TRequest))=>enqueue_copied_s1 x) (fun x=>enqueue_copied_k1 n x=some r) ?_ ?_
  · refine rA ?_
    refine Sm.block ?_
    obtain ⟨y5,hy5,Ho5⟩:=bind_some H
    refine Sm.loopB _ (fun x=>enqueue_copied_t2 l (l.length:Int) x.1 x.2) hy5 (wb [none]) ?_
    rintro ⟨out_1,v8⟩ z5 H
    try dsimp only at H
    unfold enqueue_copied_b2 at H
    refine Sm.st (enqueue_copied_t2.eq_1 ..) ?_
    refine rA ?_
    refine Sm.seqK fun K7 hK7=>?_
    refine cnd H (fun h8 H=>?_) (fun h8 H=>?_)
    · refine Sm.skip ?_
      refine hK7 _ ?_
      refine Sm.seqK fun K9 hK9=>?_
      refine Sm.block ?_
      obtain ⟨hg12,H⟩:=gd_some H
      refine rA ?_
      obtain ⟨r1,hr1,H⟩:=bind_some H
      obtain ⟨hg11,H⟩:=gd_some H
      refine eQ [0,1,2,3,4,5,6,7,8,9] [(none,[],[]),(none,[80],[]),(none,[80],[]),(none,[80],[]),(none,[80],[]),(none,[],[287,286,285,284,283,282,281,280,279,278,277,276,275,274,273,272]),(none,[272],[]),(none,[272],[304,272]),(none,[304,9002],[320,9002]),(none,[],[])] ?_
      have q:=And.intro @xslices_Clone_f79.eq_1 hr1
      iterate 10 refine oQq ?_
      refine opsQ0 ?_
      refine hK9 _ ?_
      refine eA ?_
      refine lf ?_
      exact nx H (wb [some 320])
    refine Sm.exit ?_
    refine lf ?_
    refine lx H fun hyy=>?_
    subst hyy
    have H:=Ho5
    try dsimp only at H
    refine lf ?_
    exact ⟨_,H,wb [some 9002]⟩
  rintro out H
  try dsimp only at H
  unfold enqueue_copied_k1 at H
  refine Sm.st (enqueue_copied_s1.eq_1 ..) ?_
  refine rA ?_
  refine Sm.ret ?_
  refine lf ?_
  obtain rfl:=Option.some.inj H
  exact rto [some 9000]
def enqueue_Table__copied (n:Nat) (t:TTable):Option TTable :=
  (enqueue_copied n t.Held).bind fun r1 =>
  (enqueue_copied n t.Waiting).bind fun r2 =>
  some (⟨r1,r2⟩:TTable)
def xenqueue_Table__copied (n:Nat):Go.AE.Fn:=mkFn (A:=TTable) (R:=TTable) 34 [(true,[.slice 61,.slice 61])] true (fun xs=>(⟨((cg (xs.getD 0 []) 0).toSl.map d_TRequest),((cg (xs.getD 0 []) 1).toSl.map d_TRequest)⟩:TTable)) (fun a=>[[.slice (List.map e_TRequest a.Held),.slice (List.map e_TRequest a.Waiting)]]) (fun a=>enqueue_Table__copied n a) (fun r=>[.agg [.own 0 [.int .i64,.slice 92] 0 r.Held.length,.own 1 [.int .i64,.slice 92] 0 r.Waiting.length]]) (fun r=>[.row 61 (List.map e_TRequest r.Held),.row 61 (List.map e_TRequest r.Waiting)])
theorem cenqueue_Table__copied (n:Nat):Contract Try.prog (xenqueue_Table__copied n):=by
  have hΓ:=g1 (cenqueue_copied n) (@g0 (Contract Try.prog))
  refine contract_f (Try.f34.body.getD .skip) h00 Try.func34 rfl Try.call34 (by decide) (by intro h;cases h) ?_
  rintro t r H
  try dsimp only at H
  unfold enqueue_Table__copied at H
  simp only [Try.f34,Option.getD]
  refine rA ?_
  obtain ⟨r1,hr1,H⟩:=bind_some H
  obtain ⟨r2,hr2,H⟩:=bind_some H
  refine sQ [0,1,2,3,4,5,6,7] [(none,[16],[]),(none,[16],[]),(none,[],[95,94,93,92,91,90,89,88,87,86,85,84,83,82,81,80]),(none,[16],[]),(none,[16],[]),(none,[],[143,142,141,140,139,138,137,136,135,134,133,132,131,130,129,128]),(none,[80,128],[]),(none,[32,80,128],[32])] fun K2 hK2=>?_
  have q:=And.intro @xenqueue_copied.eq_1 (And.intro hr1 hr2)
  iterate 8 refine oQq ?_
  refine opsQ0 ?_
  refine hK2 _ ?_
  refine Sm.ret ?_
  refine lf ?_
  obtain rfl:=Option.some.inj H
  exact rto [some 80,some 128]
def enqueue_Ask (n:Nat) (t:TTable) (job:Int) (wants:List TWant):Option (TTable×Bool×Int) :=
  (enqueue_Check n t).bind fun r1 =>
  bif (r1 != 0) then
    some ((⟨[],[]⟩:TTable),false,r1)
  else
    (enqueue_index n t.Held job).bind fun r2 =>
    gd (((!(decide (r2 ≥ 0)))=true→(enqueue_index n t.Waiting job).isSome=true)) <|
    bif (if (decide (r2 ≥ 0))=true then true else (decide (((enqueue_index n t.Waiting job).getD default) ≥ 0))) then
      some ((⟨[],[]⟩:TTable),false,4)
    else
      (enqueue_normalize n wants).bind fun r3 =>
      bif (decide ((r3.length:Int) > 512)) then
        some ((⟨[],[]⟩:TTable),false,2)
      else
        (enqueue_Table__copied n t).bind fun r4 =>
        (enqueue_Request__blocked n (⟨job,r3⟩:TRequest) t.Held).bind fun r5 =>
        gd (((!r5)=true→(enqueue_Request__blocked n (⟨job,r3⟩:TRequest) t.Waiting).isSome=true)) <|
        bif (if r5=true then true else ((enqueue_Request__blocked n (⟨job,r3⟩:TRequest) t.Waiting).getD default)) then
          gd ((r4.Waiting.length+1)≤2147483648) <|
          some ((⟨r4.Held,(r4.Waiting ++ [(⟨job,r3⟩:TRequest)])⟩:TTable),false,0)
        else
          gd ((r4.Held.length+1)≤2147483648) <|
          some ((⟨(r4.Held ++ [(⟨job,r3⟩:TRequest)]),r4.Waiting⟩:TTable),true,0)
def xenqueue_Ask (n:Nat):Go.AE.Fn:=mkFn (A:=TTable×Int×(List TWant)) (R:=TTable×Bool×Int) 20 [(true,[.slice 61,.slice 61]),(false,[.int .i64]),(false,[.slice 92])] true (fun xs=>((⟨((cg (xs.getD 0 []) 0).toSl.map d_TRequest),((cg (xs.getD 0 []) 1).toSl.map d_TRequest)⟩:TTable),(cg (xs.getD 1 []) 0).toInt,((cg (xs.getD 2 []) 0).toSl.map d_TWant))) (fun a=>[[.slice (List.map e_TRequest a.1.Held),.slice (List.map e_TRequest a.1.Waiting)],[.int a.2.1],[.slice (List.map e_TWant a.2.2)]]) (fun a=>enqueue_Ask n a.1 a.2.1 a.2.2) (fun r=>[.agg [.own 0 [.int .i64,.slice 92] 0 r.1.Held.length,.own 1 [.int .i64,.slice 92] 0 r.1.Waiting.length],.c .bool (.bool r.2.1),.c (.int .i64) (.int r.2.2)]) (fun r=>[.row 61 (List.map e_TRequest r.1.Held),.row 61 (List.map e_TRequest r.1.Waiting)])
theorem cenqueue_Ask (n:Nat):Contract Try.prog (xenqueue_Ask n):=by
  have hΓ:=g1 (cenqueue_Check n) (g1 (cenqueue_index n) (g1 (cenqueue_normalize n) (g1 (cenqueue_Table__copied n) (g1 (cenqueue_Request__blocked n) (@g0 (Contract Try.prog))))))
  refine contract_f (Try.f20.body.getD .skip) h00 Try.func20 rfl Try.call20 (by decide) (by intro h;cases h) ?_
  rintro ⟨t,job,wants⟩ r H
  try dsimp only at H
  unfold enqueue_Ask at H
  simp only [Try.f20,Option.getD]
  refine rA ?_
  refine Sm.seqK fun K2 hK2=>?_
  obtain ⟨r1,hr1,H⟩:=bind_some H
  have q:=And.intro @xenqueue_Check.eq_1 hr1
  refine rAq ?_
  refine rA ?_
  refine cnd H (fun h5 H=>?_) (fun h5 H=>?_)
  · refine rA ?_
    refine Sm.ret ?_
    refine lf ?_
    obtain rfl:=Option.some.inj H
    exact rto [none,none]
  refine Sm.skip ?_
  refine hK2 _ ?_
  refine Sm.seqK fun K7 hK7=>?_
  obtain ⟨r2,hr2,H⟩:=bind_some H
  obtain ⟨hg27,H⟩:=gd_some H
  have q:=And.intro @xenqueue_Check.eq_1 (And.intro @xenqueue_index.eq_1 hr2)
  refine rAq ?_
  refine cnd H (fun h9 H=>?_) (fun h9 H=>?_)
  · refine rA ?_
    refine Sm.ret ?_
    refine lf ?_
    obtain rfl:=Option.some.inj H
    exact rto [none,none]
  refine Sm.skip ?_
  refine hK7 _ ?_
  obtain ⟨r3,hr3,H⟩:=bind_some H
  have q:=And.intro @xenqueue_Check.eq_1 (And.intro @xenqueue_index.eq_1 (And.intro @xenqueue_normalize.eq_1 hr3))
  refine rAq ?_
  refine Sm.seqK fun K12 hK12=>?_
  refine rA ?_
  refine cnd H (fun h14 H=>?_) (fun h14 H=>?_)
  · refine rA ?_
    refine Sm.ret ?_
    refine lf ?_
    obtain rfl:=Option.some.inj H
    exact rto [none,none]
  refine Sm.skip ?_
  refine hK12 _ ?_
  obtain ⟨r4,hr4,H⟩:=bind_some H
  have q:=And.intro @xenqueue_Check.eq_1 (And.intro @xenqueue_index.eq_1 (And.intro @xenqueue_normalize.eq_1 (And.intro @xenqueue_Table__copied.eq_1 hr4)))
  refine rAq ?_
  refine Sm.seqK fun K17 hK17=>?_
  obtain ⟨r5,hr5,H⟩:=bind_some H
  obtain ⟨hg26,H⟩:=gd_some H
  have q:=And.intro @xenqueue_Check.eq_1 (And.intro @xenqueue_index.eq_1 (And.intro @xenqueue_normalize.eq_1 (And.intro @xenqueue_Table__copied.eq_1 (And.intro @xenqueue_Request__blocked.eq_1 hr5))))
  refine rAq ?_
  refine cnd H (fun h19 H=>?_) (fun h19 H=>?_)
  · obtain ⟨hg22,H⟩:=gd_some H
    refine rA ?_
    refine rA ?_
    refine Sm.ret ?_
    refine lf ?_
    obtain rfl:=Option.some.inj H
    exact rto [some 656,some 896]
  refine Sm.skip ?_
  refine hK17 _ ?_
  obtain ⟨hg25,H⟩:=gd_some H
  refine rA ?_
  refine rA ?_
  refine Sm.ret ?_
  refine lf ?_
  obtain rfl:=Option.some.inj H
  exact rto [some 1008,some 657]
def slices_Delete_f36_M1 (n:Nat) (s:List TRequest) (i:Int) (j:Int):Option (Nat×(List TRequest)) :=
  gd ((0≤i∧i≤j∧j≤((s.length:Nat):Int)∧((s.length:Nat):Int)≤(s.length:Int))) <|
  bif (i == j) then
    some (s.length,s)
  else
    gd ((0≤i∧i≤(s.length:Int))∧(0≤j∧j≤(s.length:Int)∧(s.length:Int)≤(s.length:Int))∧((Int.toNat (i - 0))+(List.take (Int.toNat ((s.length:Int) - j)) (List.drop (Int.toNat j) s)).length)≤s.length) <|
    gd ((0≤((((Int.toNat (i - 0))+(List.take (Int.toNat ((s.length:Int) - j)) (List.drop (Int.toNat j) s)).length):Nat):Int)∧((((Int.toNat (i - 0))+(List.take (Int.toNat ((s.length:Int) - j)) (List.drop (Int.toNat j) s)).length):Nat):Int)≤((s.length:Nat):Int)∧((s.length:Nat):Int)≤(s.length:Int))∧(((Int.toNat (i - 0))+(List.take (Int.toNat ((s.length:Int) - j)) (List.drop (Int.toNat j) s)).length)+(Int.toNat (((s.length:Nat):Int) - ((((Int.toNat (i - 0))+(List.take (Int.toNat ((s.length:Int) - j)) (List.drop (Int.toNat j) s)).length):Nat):Int))))≤s.length) <|
    some (((Int.toNat (i - 0))+(List.take (Int.toNat ((s.length:Int) - j)) (List.drop (Int.toNat j) s)).length),(overL (overL s (Int.toNat (i - 0)) (List.take (Int.toNat ((s.length:Int) - j)) (List.drop (Int.toNat j) s))) ((Int.toNat (i - 0))+(List.take (Int.toNat ((s.length:Int) - j)) (List.drop (Int.toNat j) s)).length) (zreps (Int.toNat (((s.length:Nat):Int) - ((((Int.toNat (i - 0))+(List.take (Int.toNat ((s.length:Int) - j)) (List.drop (Int.toNat j) s)).length):Nat):Int))) (⟨0,[]⟩:TRequest))))
theorem cslices_Delete_f36_M1 (n:Nat) (s:List TRequest) (i:Int) (j:Int) (r:Nat×(List TRequest)) (H:slices_Delete_f36_M1 n s i j=some r):CallsM Try.prog 36 [.ref (.own 0 [.int .i64,.slice 92] 0 s.length),.dat (false,[.int .i64]) [.int i],.dat (false,[.int .i64]) [.int j]] [.row 61 (List.map e_TRequest s)] [.own 0 [.int .i64,.slice 92] 0 r.1] [.row 61 (List.map e_TRequest r.2)]:=by
  have hΓ:=@g0 (Contract Try.prog)
  refine callsM_of (Try.f36.body.getD .skip) h00 Try.func36 rfl Try.call36 (Nat.le_of_ble_eq_true rfl) (Nat.le_of_ble_eq_true rfl) ?_
  unfold slices_Delete_f36_M1 at H
  simp only [Try.f36,Option.getD]
  refine rA ?_
  refine sX fun K2 hK2=>?_
  obtain ⟨hg3,H⟩:=gd_some H
  iterate 5 refine oX ?_
  refine oY ?_
  refine hK2 _ ?_
  refine Sm.seqK fun K4 hK4=>?_
  refine rA ?_
  refine cnd H (fun h6 H=>?_) (fun h6 H=>?_)
  · refine rA ?_
    refine Sm.ret ?_
    refine lf ?_
    obtain rfl:=Option.some.inj H
    exact rtM [some 0]
  refine Sm.skip ?_
  refine hK4 _ ?_
  refine rA ?_
  obtain ⟨⟨hg14,hg15,hg16⟩,H⟩:=gd_some H
  refine rD ?_
  refine sX fun K10 hK10=>?_
  obtain ⟨⟨hg11,hg12⟩,H⟩:=gd_some H
  iterate 5 refine oX ?_
  refine oY ?_
  refine hK10 _ ?_
  refine rA ?_
  refine Sm.ret ?_
  refine lf ?_
  obtain rfl:=Option.some.inj H
  exact rtM [some 0]
abbrev enqueue_Release_s2 (out_4:List TRequest) (out_5:Nat) (out_6:List TRequest) (jobs:List Int):S:=stB [(4,.box 9004 0),(8,.box 9005 0),(11,.own 9008 [.int .i64] 0 jobs.length)] [(9004,.box [.nilsl,.nilsl]),(9005,.box [.own 9006 [.int .i64,.slice 92] 0 out_5,.own 9007 [.int .i64,.slice 92] 0 out_6.length]),(9006,.row 61 (List.map e_TRequest out_4)),(9007,.row 61 (List.map e_TRequest out_6)),(9008,.row 3 (List.map e_Int jobs))]
def enqueue_Release_k2 (n:Nat) (out_4:List TRequest) (out_5:Nat) (out_6:List TRequest) (jobs:List Int):Option (TTable×(List Int)×Int) :=
  some ((⟨(List.take out_5 out_4),out_6⟩:TTable),jobs,0)
abbrev enqueue_Release_s4 (out_10:List TRequest) (out_11:Nat) (out_12:List TRequest) (jobs_2:List Int) (out_2:List TRequest) (v53_1:Nat) (v54:Int) (v55:Int):S:=stB [(4,.box 9025 0),(8,.box 9026 0),(11,.own 9029 [.int .i64] 0 jobs_2.length),(53,.own 9030 [.int .i64,.slice 92] 0 v53_1),(54,.c (.int .i64) (.int v54)),(55,.c (.int .i64) (.int v55))] [(9025,.box [.nilsl,.nilsl]),(9026,.box [.own 9027 [.int .i64,.slice 92] 0 out_11,.own 9028 [.int .i64,.slice 92] 0 out_12.length]),(9027,.row 61 (List.map e_TRequest out_10)),(9028,.row 61 (List.map e_TRequest out_12)),(9029,.row 3 (List.map e_Int jobs_2)),(9030,.row 61 (List.map e_TRequest out_2))]
def enqueue_Release_k4 (n:Nat) (out_10:List TRequest) (out_11:Nat) (out_12:List TRequest) (jobs_2:List Int) (out_2:List TRequest) (v53_1:Nat) (v54:Int) (v55:Int):Option (((List TRequest)×Nat×(List TRequest)×(List Int)×Nat×Int) ⊕ (((List TRequest)×Nat×(List TRequest)×(List Int)))) :=
  some (.inl (out_10,out_11,out_12,jobs_2,v53_1,(IntKind.wrap .i64 (v55+1))))
abbrev enqueue_Release_t3 (out_2:List TRequest) (v54:Int) (out_7:List TRequest) (out_8:Nat) (out_9:List TRequest) (jobs_1:List Int) (v53:Nat) (v55:Int):S:=stB [(4,.box 9019 0),(8,.box 9020 0),(11,.own 9023 [.int .i64] 0 jobs_1.length),(53,.own 9024 [.int .i64,.slice 92] 0 v53),(54,.c (.int .i64) (.int v54)),(55,.c (.int .i64) (.int v55))] [(9019,.box [.nilsl,.nilsl]),(9020,.box [.own 9021 [.int .i64,.slice 92] 0 out_8,.own 9022 [.int .i64,.slice 92] 0 out_9.length]),(9021,.row 61 (List.map e_TRequest out_7)),(9022,.row 61 (List.map e_TRequest out_9)),(9023,.row 3 (List.map e_Int jobs_1)),(9024,.row 61 (List.map e_TRequest out_2))]
def enqueue_Release_b3 (n:Nat) (out_2:List TRequest) (v54:Int) (out_7:List TRequest) (out_8:Nat) (out_9:List TRequest) (jobs_1:List Int) (v53:Nat) (v55:Int):Option (((List TRequest)×Nat×(List TRequest)×(List Int)×Nat×Int) ⊕ (((List TRequest)×Nat×(List TRequest)×(List Int)))) :=
  bif (decide (v55 < v54)) then
    gd ((0≤v55∧v55 < (v53:Int))∧(Int.toNat v55) < out_2.length) <|
    (enqueue_Request__blocked n (gt out_2 (Int.toNat v55)) (List.take out_8 out_7)).bind fun r3 =>
    gd (((!r3)=true→(enqueue_Request__blocked n (gt out_2 (Int.toNat v55)) out_9).isSome=true)) <|
    bif (if r3=true then true else ((enqueue_Request__blocked n (gt out_2 (Int.toNat v55)) out_9).getD default)) then
      gd ((out_9.length+1)≤2147483648) <|
      enqueue_Release_k4 n out_7 out_8 (out_9 ++ [(gt out_2 (Int.toNat v55))]) jobs_1 out_2 v53 v54 v55
    else
      gd (out_8≤out_7.length∧(out_8+1)≤2147483648) <|
      gd ((jobs_1.length+1)≤2147483648) <|
      enqueue_Release_k4 n ((List.take out_8 out_7) ++ [(gt out_2 (Int.toNat v55))]) (out_8+1) out_9 (jobs_1 ++ [(gt out_2 (Int.toNat v55)).Job]) out_2 v53 v54 v55
  else
    some (.inr (out_7,out_8,out_9,jobs_1))
abbrev enqueue_Release_s1 (out:List TRequest) (out_1:Nat) (out_2:List TRequest) (out_3:Nat):S:=stB [(4,.box 9000 0),(8,.box 9001 0)] [(9000,.box [.nilsl,.nilsl]),(9001,.box [.own 9002 [.int .i64,.slice 92] 0 out_1,.own 9003 [.int .i64,.slice 92] 0 out_3]),(9002,.row 61 (List.map e_TRequest out)),(9003,.row 61 (List.map e_TRequest out_2))]
def enqueue_Release_k1 (n:Nat) (out:List TRequest) (out_1:Nat) (out_2:List TRequest) (out_3:Nat):Option (TTable×(List Int)×Int) :=
  (loopF (fun (x:(List TRequest)×Nat×(List TRequest)×(List Int)×Nat×Int)=>enqueue_Release_b3 n out_2 ((out_3:Nat):Int) x.1 x.2.1 x.2.2.1 x.2.2.2.1 x.2.2.2.2.1 x.2.2.2.2.2) n (out,out_1,[],[],out_3,0)).bind fun y13 =>
  enqueue_Release_k2 n y13.1 y13.2.1 y13.2.2.1 y13.2.2.2
def enqueue_Release (n:Nat) (t:TTable) (job:Int):Option (TTable×(List Int)×Int) :=
  (enqueue_Check n t).bind fun r1 =>
  bif (r1 != 0) then
    some ((⟨[],[]⟩:TTable),[],r1)
  else
    (enqueue_Table__copied n t).bind fun r2 =>
    (enqueue_index n r2.Held job).bind fun r4 =>
    bif (decide (r4 ≥ 0)) then
      (slices_Delete_f36_M1 n r2.Held r4 (IntKind.wrap .i64 (r4+1))).bind fun r5 =>
      enqueue_Release_k1 n r5.2 r5.1 r2.Waiting r2.Waiting.length
    else
      (enqueue_index n r2.Waiting job).bind fun r6 =>
      bif (decide (r6 ≥ 0)) then
        (slices_Delete_f36_M1 n r2.Waiting r6 (IntKind.wrap .i64 (r6+1))).bind fun r7 =>
        enqueue_Release_k1 n r2.Held r2.Held.length r7.2 r7.1
      else
        some ((⟨[],[]⟩:TTable),[],3)
def xenqueue_Release (n:Nat):Go.AE.Fn:=mkFn (A:=TTable×Int) (R:=TTable×(List Int)×Int) 14 [(true,[.slice 61,.slice 61]),(false,[.int .i64])] true (fun xs=>((⟨((cg (xs.getD 0 []) 0).toSl.map d_TRequest),((cg (xs.getD 0 []) 1).toSl.map d_TRequest)⟩:TTable),(cg (xs.getD 1 []) 0).toInt)) (fun a=>[[.slice (List.map e_TRequest a.1.Held),.slice (List.map e_TRequest a.1.Waiting)],[.int a.2]]) (fun a=>enqueue_Release n a.1 a.2) (fun r=>[.agg [.c (.slice 61) (.slice (List.map e_TRequest r.1.Held)),.own 0 [.int .i64,.slice 92] 0 r.1.Waiting.length],.own 1 [.int .i64] 0 r.2.1.length,.c (.int .i64) (.int r.2.2)]) (fun r=>[.row 61 (List.map e_TRequest r.1.Waiting),.row 3 (List.map e_Int r.2.1)])
theorem cenqueue_Release (n:Nat):Contract Try.prog (xenqueue_Release n):=by
  have hΓ:=g1 (cenqueue_Check n) (g1 (cenqueue_Table__copied n) (g1 (cenqueue_index n) (g1 (cenqueue_Request__blocked n) (@g0 (Contract Try.prog)))))
  refine contract_f (Try.f14.body.getD .skip) h00 Try.func14 rfl Try.call14 (by decide) (by intro h;cases h) ?_
  rintro ⟨t,job⟩ r H
  try dsimp only at H
  unfold enqueue_Release at H
  simp only [Try.f14,Option.getD]
  refine rA ?_
  refine Sm.seqK fun K2 hK2=>?_
  obtain ⟨r1,hr1,H⟩:=bind_some H
  have q:=And.intro @xenqueue_Check.eq_1 hr1
  refine rAq ?_
  refine rA ?_
  refine cnd H (fun h5 H=>?_) (fun h5 H=>?_)
  · refine rA ?_
    refine Sm.ret ?_
    refine lf ?_
    obtain rfl:=Option.some.inj H
    exact rto [none,none]
  refine Sm.skip ?_
  refine hK2 _ ?_
  obtain ⟨r2,hr2,H⟩:=bind_some H
  have q:=And.intro @xenqueue_Check.eq_1 (And.intro @xenqueue_Table__copied.eq_1 hr2)
  refine rAq ?_
  refine Sm.cut (fun (x:(List TRequest)×Nat×(List TRequest)×Nat)=>enqueue_Release_s1 x.1 x.2.1 x.2.2.1 x.2.2.2) (fun x=>enqueue_Release_k1 n x.1 x.2.1 x.2.2.1 x.2.2.2=some r) ?_ ?_
  · obtain ⟨r4,hr4,H⟩:=bind_some H
    have q:=And.intro @xenqueue_Check.eq_1 (And.intro @xenqueue_Table__copied.eq_1 (And.intro @xenqueue_index.eq_1 hr4))
    refine rAq ?_
    refine rA ?_
    refine cnd H (fun h32 H=>?_) (fun h32 H=>?_)
    · refine eX ?_
      obtain ⟨r5,hr5,H⟩:=bind_some H
      have q:=hr5
      iterate 5 refine oX ?_
      refine oMq (cslices_Delete_f36_M1 n _ _ _ r5 hr5) [352] [] ?_
      iterate 2 refine oXq ?_
      refine opsX0 ?_
      refine lf ?_
      exact ⟨(r5.2,r5.1,r2.Waiting,r2.Waiting.length),H,wb [some 64,some 128,some 352,some 353]⟩
    obtain ⟨r6,hr6,H⟩:=bind_some H
    have q:=And.intro @xenqueue_Check.eq_1 (And.intro @xenqueue_Table__copied.eq_1 (And.intro @xenqueue_index.eq_1 hr6))
    refine rAq ?_
    refine rA ?_
    refine cnd H (fun h35 H=>?_) (fun h35 H=>?_)
    · refine eX ?_
      obtain ⟨r7,hr7,H⟩:=bind_some H
      have q:=hr7
      iterate 5 refine oX ?_
      refine oMq (cslices_Delete_f36_M1 n _ _ _ r7 hr7) [353] [] ?_
      iterate 2 refine oXq ?_
      refine opsX0 ?_
      refine lf ?_
      exact ⟨(r2.Held,r2.Held.length,r7.2,r7.1),H,wb [some 64,some 128,some 352,some 353]⟩
    refine rA ?_
    refine Sm.ret ?_
    refine lf ?_
    obtain rfl:=Option.some.inj H
    exact rto [none,none]
  rintro ⟨out,out_1,out_2,out_3⟩ H
  try dsimp only at H
  unfold enqueue_Release_k1 at H
  refine Sm.st (enqueue_Release_s1.eq_1 ..) ?_
  refine rA ?_
  refine rA ?_
  refine rA ?_
  refine Sm.cut (fun (x:(List TRequest)×Nat×(List TRequest)×(List Int))=>enqueue_Release_s2 x.1 x.2.1 x.2.2.1 x.2.2.2) (fun x=>enqueue_Release_k2 n x.1 x.2.1 x.2.2.1 x.2.2.2=some r) ?_ ?_
  · refine rA ?_
    refine Sm.block ?_
    obtain ⟨y13,hy13,Ho13⟩:=bind_some H
    refine Sm.loopB _ (fun x=>enqueue_Release_t3 out_2 ((out_3:Nat):Int) x.1 x.2.1 x.2.2.1 x.2.2.2.1 x.2.2.2.2.1 x.2.2.2.2.2) hy13 (wb [some 9000,some 9001,some 9002,none,none,some 9003]) ?_
    rintro ⟨out_7,out_8,out_9,jobs_1,v53,v55⟩ z13 H
    try dsimp only at H
    unfold enqueue_Release_b3 at H
    refine Sm.st (enqueue_Release_t3.eq_1 ..) ?_
    refine rA ?_
    refine Sm.seqK fun K15 hK15=>?_
    refine cnd H (fun h16 H=>?_) (fun h16 H=>?_)
    · refine Sm.skip ?_
      refine hK15 _ ?_
      refine Sm.cut (fun (x:(List TRequest)×Nat×(List TRequest)×(List Int))=>enqueue_Release_s4 x.1 x.2.1 x.2.2.1 x.2.2.2 out_2 v53 ((out_3:Nat):Int) v55) (fun x=>enqueue_Release_k4 n x.1 x.2.1 x.2.2.1 x.2.2.2 out_2 v53 ((out_3:Nat):Int) v55=some z13) ?_ ?_
      · refine Sm.block ?_
        obtain ⟨⟨hg28,hg29⟩,H⟩:=gd_some H
        refine rA ?_
        refine Sm.seqK fun K18 hK18=>?_
        obtain ⟨r3,hr3,H⟩:=bind_some H
        obtain ⟨hg27,H⟩:=gd_some H
        have q:=And.intro @xenqueue_Check.eq_1 (And.intro @xenqueue_Table__copied.eq_1 (And.intro @xenqueue_index.eq_1 (And.intro @xenqueue_Request__blocked.eq_1 hr3)))
        refine rAq ?_
        refine cnd H (fun h20 H=>?_) (fun h20 H=>?_)
        · obtain ⟨hg22,H⟩:=gd_some H
          refine rA ?_
          refine Sm.exit ?_
          refine lf ?_
          exact ⟨(out_7,out_8,(out_9 ++ [(gt out_2 (Int.toNat v55))]),jobs_1),H,wb [some 9019,some 9020,some 9021,some 1168,some 9023,some 9024]⟩
        refine Sm.skip ?_
        refine hK18 _ ?_
        obtain ⟨⟨hg25,hg26⟩,H⟩:=gd_some H
        refine rA ?_
        obtain ⟨hg24,H⟩:=gd_some H
        refine eA ?_
        refine lf ?_
        exact ⟨(((List.take out_8 out_7) ++ [(gt out_2 (Int.toNat v55))]),(out_8+1),out_9,(jobs_1 ++ [(gt out_2 (Int.toNat v55)).Job])),H,wb [some 9019,some 9020,some 1264,some 9022,some 1360,some 9024]⟩
      rintro ⟨out_10,out_11,out_12,jobs_2⟩ H
      try dsimp only at H
      unfold enqueue_Release_k4 at H
      refine Sm.st (enqueue_Release_s4.eq_1 ..) ?_
      refine eA ?_
      refine lf ?_
      exact nx H (wb [some 9025,some 9026,some 9027,some 9028,some 9029,some 9030])
    refine Sm.exit ?_
    refine lf ?_
    refine lx H fun hyy=>?_
    subst hyy
    have H:=Ho13
    try dsimp only at H
    refine lf ?_
    exact ⟨(out_7,out_8,out_9,jobs_1),H,wb [some 9019,some 9020,some 9021,some 9022,some 9023]⟩
  rintro ⟨out_4,out_5,out_6,jobs⟩ H
  try dsimp only at H
  unfold enqueue_Release_k2 at H
  refine Sm.st (enqueue_Release_s2.eq_1 ..) ?_
  refine rA ?_
  refine Sm.ret ?_
  refine lf ?_
  obtain rfl:=Option.some.inj H
  exact rto [some 9007,some 9008]
abbrev law37_ints_s1:S:=stB [] []
def law37_ints_k1 (n:Nat):Option Bool :=
  some true
abbrev law37_ints_t2 (a:List Int) (b:List Int) (k:Int):S:=stB [(0,.c (.slice 3) (.slice (List.map e_Int a))),(1,.c (.slice 3) (.slice (List.map e_Int b))),(5,.c (.int .i64) (.int k))] []
def law37_ints_b2 (n:Nat) (a:List Int) (b:List Int) (k:Int):Option ((Int) ⊕ (((Bool) ⊕ (Unit)))) :=
  bif (decide (k < (a.length:Int))) then
    gd ((0≤k∧k < (a.length:Int))∧(0≤k∧k < (b.length:Int))) <|
    bif ((gt a (Int.toNat k)) != (gt b (Int.toNat k))) then
      some (.inr (.inl false))
    else
      some (.inl (IntKind.wrap .i64 (k+1)))
  else
    some (.inr (.inr ()))
def law37_ints (n:Nat) (a:List Int) (b:List Int):Option Bool :=
  bif ((a.length:Int) != (b.length:Int)) then
    some false
  else
    (loopF (fun (x:Int)=>law37_ints_b2 n a b x) n 0).bind fun y8 =>
    match y8 with
    | .inl vv =>
      some vv
    | .inr vv =>
      law37_ints_k1 n
def xlaw37_ints (n:Nat):Go.AE.Fn:=mkFn (A:=(List Int)×(List Int)) (R:=Bool) 16 [(false,[.slice 3]),(false,[.slice 3])] false (fun xs=>(((cg (xs.getD 0 []) 0).toSl.map d_Int),((cg (xs.getD 1 []) 0).toSl.map d_Int))) (fun a=>[[.slice (List.map e_Int a.1)],[.slice (List.map e_Int a.2)]]) (fun a=>law37_ints n a.1 a.2) (fun r=>[.c .bool (.bool r)]) (fun r=>[])
theorem claw37_ints (n:Nat):Contract Try.prog (xlaw37_ints n):=by
  have hΓ:=@g0 (Contract Try.prog)
  refine contract_f (Try.f16.body.getD .skip) h00 Try.func16 rfl Try.call16 (by decide) (by intro _ r;exact ⟨rfl,by simp⟩) ?_
  rintro ⟨a,b⟩ r H
  try dsimp only at H
  unfold law37_ints at H
  simp only [Try.f16,Option.getD]
  refine rA ?_
  refine Sm.seqK fun K2 hK2=>?_
  refine rA ?_
  refine cnd H (fun h4 H=>?_) (fun h4 H=>?_)
  · refine rA ?_
    refine Sm.ret ?_
    refine lf ?_
    obtain rfl:=Option.some.inj H
    exact rt []
  refine Sm.skip ?_
  refine hK2 _ ?_
  refine Sm.cut (fun (x:Unit)=>law37_ints_s1) (fun x=>law37_ints_k1 n=some r) ?_ ?_
  · refine rA ?_
    refine Sm.block ?_
    obtain ⟨y8,hy8,Ho8⟩:=bind_some H
    refine Sm.loopB _ (fun x=>law37_ints_t2 a b x) hy8 (wb []) ?_
    rintro k z8 H
    try dsimp only at H
    unfold law37_ints_b2 at H
    refine Sm.st (law37_ints_t2.eq_1 ..) ?_
    refine Sm.seqK fun K9 hK9=>?_
    refine rA ?_
    refine cnd H (fun h11 H=>?_) (fun h11 H=>?_)
    · refine Sm.skip ?_
      refine hK9 _ ?_
      refine Sm.seqK fun K12 hK12=>?_
      refine Sm.block ?_
      obtain ⟨⟨hg16,hg17⟩,H⟩:=gd_some H
      refine rD ?_
      refine cnd H (fun h14 H=>?_) (fun h14 H=>?_)
      · refine rA ?_
        refine Sm.ret ?_
        refine lf ?_
        refine lx H fun hyy=>?_
        subst hyy
        have H:=Ho8
        try dsimp only at H
        refine lf ?_
        obtain rfl:=Option.some.inj H
        exact rt []
      refine Sm.skip ?_
      refine hK12 _ ?_
      refine eA ?_
      refine lf ?_
      exact nx H (wb [])
    refine Sm.exit ?_
    refine lf ?_
    refine lx H fun hyy=>?_
    subst hyy
    have H:=Ho8
    try dsimp only at H
    refine lf ?_
    exact ⟨(),H,wb []⟩
  rintro ⟨⟩ H
  try dsimp only at H
  unfold law37_ints_k1 at H
  refine Sm.st (law37_ints_s1.eq_1 ..) ?_
  refine rA ?_
  refine Sm.ret ?_
  refine lf ?_
  obtain rfl:=Option.some.inj H
  exact rt []
def law37_works (n:Nat):Option Bool :=
  (law37_one n [65] false).bind fun r1 =>
  (enqueue_Ask n (⟨[],[]⟩:TTable) 1 r1).bind fun r2 =>
  (law37_one n [65] true).bind fun r3 =>
  (enqueue_Ask n r2.1 2 r3).bind fun r4 =>
  (law37_one n [65] false).bind fun r5 =>
  (enqueue_Ask n r4.1 3 r5).bind fun r6 =>
  (enqueue_Release n r6.1 1).bind fun r7 =>
  bif (if (if (if (if (if (if (r2.2.2 == 0)=true then (r4.2.2 == 0) else false)=true then (r6.2.2 == 0) else false)=true then (r7.2.2 == 0) else false)=true then r2.2.1 else false)=true then (!r4.2.1) else false)=true then (!r6.2.1) else false) then
    gd ((if (if (if (if (if (if (r2.2.2 == 0)=true then (r4.2.2 == 0) else false)=true then (r6.2.2 == 0) else false)=true then (r7.2.2 == 0) else false)=true then r2.2.1 else false)=true then (!r4.2.1) else false)=true then (!r6.2.1) else false)=true) <|
    (law37_ints n r7.2.1 [2]).bind fun r8 =>
    some (if (if r8=true then ((r7.1.Held.length:Int) == 1) else false)=true then (((r7.1.Waiting.length:Nat):Int) == 1) else false)
  else
    some false
def xlaw37_works (n:Nat):Go.AE.Fn:=mkFn (A:=Unit) (R:=Bool) 11 [] false (fun xs=>()) (fun a=>[]) (fun a=>law37_works n) (fun r=>[.c .bool (.bool r)]) (fun r=>[])
theorem claw37_works (n:Nat):Contract Try.prog (xlaw37_works n):=by
  have hΓ:=g1 (claw37_one n) (g1 (cenqueue_Ask n) (g1 (cenqueue_Release n) (g1 (claw37_ints n) (@g0 (Contract Try.prog)))))
  refine contract_f (Try.f11.body.getD .skip) h00 Try.func11 rfl Try.call11 (by decide) (by intro _ r;exact ⟨rfl,by simp⟩) ?_
  rintro ⟨⟩ r H
  try dsimp only at H
  unfold law37_works at H
  simp only [Try.f11,Option.getD]
  refine rA ?_
  obtain ⟨r1,hr1,H⟩:=bind_some H
  obtain ⟨r2,hr2,H⟩:=bind_some H
  have q:=And.intro @xlaw37_one.eq_1 (And.intro @xenqueue_Ask.eq_1 (And.intro hr1 hr2))
  refine rAq ?_
  obtain ⟨r3,hr3,H⟩:=bind_some H
  obtain ⟨r4,hr4,H⟩:=bind_some H
  refine sQ [0,1,2,3,4,5,6,7,8,9] [(none,[16],[]),(none,[],[335,334,333,332,331,330,329,328,327,326,325,324,323,322,321,320]),(none,[224,225,320],[351,350,349,348,347,346,345,344,343,342,341,340,339,338,337,336,224,225,320]),(none,[],[]),(none,[],[]),(none,[],[]),(none,[],[]),(none,[16,336,337],[16]),(none,[],[]),(none,[],[])] fun K3 hK3=>?_
  have q:=And.intro @xlaw37_one.eq_1 (And.intro @xenqueue_Ask.eq_1 (And.intro @xenqueue_Release.eq_1 (And.intro @xlaw37_ints.eq_1 (And.intro hr3 hr4))))
  iterate 10 refine oQq ?_
  refine opsQ0 ?_
  refine hK3 _ ?_
  obtain ⟨r5,hr5,H⟩:=bind_some H
  obtain ⟨r6,hr6,H⟩:=bind_some H
  refine sQ [0,1,2,3,4,5,6,7,8,9] [(none,[16],[]),(none,[],[447,446,445,444,443,442,441,440,439,438,437,436,435,434,433,432]),(none,[336,337,432],[463,462,461,460,459,458,457,456,455,454,453,452,451,450,449,448,336,337,432]),(none,[],[]),(none,[],[]),(none,[],[]),(none,[],[]),(none,[16,448,449],[16]),(none,[],[]),(none,[],[])] fun K4 hK4=>?_
  have q:=And.intro @xlaw37_one.eq_1 (And.intro @xenqueue_Ask.eq_1 (And.intro @xenqueue_Release.eq_1 (And.intro @xlaw37_ints.eq_1 (And.intro hr5 hr6))))
  iterate 10 refine oQq ?_
  refine opsQ0 ?_
  refine hK4 _ ?_
  obtain ⟨r7,hr7,H⟩:=bind_some H
  have q:=And.intro @xlaw37_one.eq_1 (And.intro @xenqueue_Ask.eq_1 (And.intro @xenqueue_Release.eq_1 hr7))
  refine rAq ?_
  refine sX fun K6 hK6=>?_
  have q:=And.intro @xlaw37_one.eq_1 (And.intro @xenqueue_Ask.eq_1 (And.intro @xenqueue_Release.eq_1 @xlaw37_ints.eq_1))
  iterate 27 refine oXq ?_
  refine bif_cases H (fun hs7 H=>?_) (fun hs7 H=>?_)
  · obtain ⟨hg8,H⟩:=gd_some H
    obtain ⟨r8,hr8,H⟩:=bind_some H
    have q:=And.intro @xlaw37_one.eq_1 (And.intro @xenqueue_Ask.eq_1 (And.intro @xenqueue_Release.eq_1 (And.intro @xlaw37_ints.eq_1 (And.intro hs7 hr8))))
    refine oTG ?_
    refine oTG ?_
    refine oPl ?_
    iterate 13 refine oXq ?_
    refine hK6 _ ?_
    refine Sm.ret ?_
    refine lf ?_
    obtain rfl:=Option.some.inj H
    exact rt []
  have q:=And.intro @xlaw37_one.eq_1 (And.intro @xenqueue_Ask.eq_1 (And.intro @xenqueue_Release.eq_1 (And.intro @xlaw37_ints.eq_1 hs7)))
  refine oFq ?_
  refine oFq ?_
  refine oPr ?_
  refine oXq ?_
  refine oFq ?_
  refine oFq ?_
  refine oFq ?_
  refine oFq ?_
  refine oPr ?_
  refine oXq ?_
  refine oFq ?_
  refine oFq ?_
  refine oFq ?_
  refine oFq ?_
  refine oPr ?_
  refine oXq ?_
  refine hK6 _ ?_
  refine Sm.ret ?_
  refine lf ?_
  obtain rfl:=Option.some.inj H
  exact rt []
def enqueue_Assign_1_M1 (n:Nat) (v:TUnitConf) (p1:Int) (p1_:Int) (p1__:List UInt8) (p1___:Int) (p1____:Int):Option Bool :=
  some (v.Addr == p1)
theorem cenqueue_Assign_1_M1 (n:Nat) (v:TUnitConf) (p1:Int) (p1_:Int) (p1__:List UInt8) (p1___:Int) (p1____:Int) (r:Bool) (H:enqueue_Assign_1_M1 n v p1 p1_ p1__ p1___ p1____=some r):CallsM Try.prog 48 [.dat (true,[.int .i64,.int .i64,.str,.int .i64,.int .i64]) [.int v.Addr,.int v.Kind,.str v.Serial,.int v.Cyls,.int v.Heads],.ref (.box 0 0)] [.box [.c (.int .i64) (.int p1),.c (.int .i64) (.int p1_),.c .str (.str p1__),.c (.int .i64) (.int p1___),.c (.int .i64) (.int p1____)]] [.c .bool (.bool r)] [.box [.c (.int .i64) (.int p1),.c (.int .i64) (.int p1_),.c .str (.str p1__),.c (.int .i64) (.int p1___),.c (.int .i64) (.int p1____)]]:=by
  have hΓ:=@g0 (Contract Try.prog)
  refine callsM_of (Try.f48.body.getD .skip) h00 Try.func48 rfl Try.call48 (Nat.le_of_ble_eq_true rfl) (Nat.le_of_ble_eq_true rfl) ?_
  unfold enqueue_Assign_1_M1 at H
  simp only [Try.f48,Option.getD]
  refine rA ?_
  refine rA ?_
  refine Sm.ret ?_
  refine lf ?_
  obtain rfl:=Option.some.inj H
  exact rtM [some 0]
abbrev slices_IndexFunc_f71_M2_s1 (s:List TUnitConf) (f:Int) (f_:Int) (f__:List UInt8) (f___:Int) (f____:Int):S:=stB [] [(0,.row 77 (List.map e_TUnitConf s)),(1,.box [.c (.int .i64) (.int f),.c (.int .i64) (.int f_),.c .str (.str f__),.c (.int .i64) (.int f___),.c (.int .i64) (.int f____)])]
def slices_IndexFunc_f71_M2_k1 (n:Nat) (s:List TUnitConf) (f:Int) (f_:Int) (f__:List UInt8) (f___:Int) (f____:Int):Option Int :=
  some (-1)
abbrev slices_IndexFunc_f71_M2_t2 (s:List TUnitConf) (f:Int) (f_:Int) (f__:List UInt8) (f___:Int) (f____:Int) (v7:Int) (v8:Int):S:=stB [(0,.own 0 [.int .i64,.int .i64,.str,.int .i64,.int .i64] 0 s.length),(1,.fnv 48 [.box 1 0]),(7,.c (.int .i64) (.int v7)),(8,.c (.int .i64) (.int v8))] [(0,.row 77 (List.map e_TUnitConf s)),(1,.box [.c (.int .i64) (.int f),.c (.int .i64) (.int f_),.c .str (.str f__),.c (.int .i64) (.int f___),.c (.int .i64) (.int f____)])]
def slices_IndexFunc_f71_M2_b2 (n:Nat) (s:List TUnitConf) (f:Int) (f_:Int) (f__:List UInt8) (f___:Int) (f____:Int) (v7:Int) (v8:Int):Option ((Int) ⊕ (((Int) ⊕ (Unit)))) :=
  bif (decide (v8 < v7)) then
    gd ((0≤v8∧v8 < (s.length:Int))∧(Int.toNat v8) < s.length) <|
    (enqueue_Assign_1_M1 n (gt s (Int.toNat v8)) f f_ f__ f___ f____).bind fun r1 =>
    bif r1 then
      some (.inr (.inl v8))
    else
      some (.inl (IntKind.wrap .i64 (v8+1)))
  else
    some (.inr (.inr ()))
def slices_IndexFunc_f71_M2 (n:Nat) (s:List TUnitConf) (f:Int) (f_:Int) (f__:List UInt8) (f___:Int) (f____:Int):Option Int :=
  (loopF (fun (x:Int)=>slices_IndexFunc_f71_M2_b2 n s f f_ f__ f___ f____ ((s.length:Nat):Int) x) n 0).bind fun y4 =>
  match y4 with
  | .inl vv =>
    some vv
  | .inr vv =>
    slices_IndexFunc_f71_M2_k1 n s f f_ f__ f___ f____
theorem cslices_IndexFunc_f71_M2 (n:Nat) (s:List TUnitConf) (f:Int) (f_:Int) (f__:List UInt8) (f___:Int) (f____:Int) (r:Int) (H:slices_IndexFunc_f71_M2 n s f f_ f__ f___ f____=some r):CallsM Try.prog 71 [.ref (.own 0 [.int .i64,.int .i64,.str,.int .i64,.int .i64] 0 s.length),.ref (.fnv 48 [.box 1 0])] [.row 77 (List.map e_TUnitConf s),.box [.c (.int .i64) (.int f),.c (.int .i64) (.int f_),.c .str (.str f__),.c (.int .i64) (.int f___),.c (.int .i64) (.int f____)]] [.c (.int .i64) (.int r)] [.row 77 (List.map e_TUnitConf s),.box [.c (.int .i64) (.int f),.c (.int .i64) (.int f_),.c .str (.str f__),.c (.int .i64) (.int f___),.c (.int .i64) (.int f____)]]:=by
  have hΓ:=@g0 (Contract Try.prog)
  refine callsM_of (Try.f71.body.getD .skip) h00 Try.func71 rfl Try.call71 (Nat.le_of_ble_eq_true rfl) (Nat.le_of_ble_eq_true rfl) ?_
  unfold slices_IndexFunc_f71_M2 at H
  simp only [Try.f71,Option.getD]
  refine rA ?_
  refine Sm.cut (fun (x:Unit)=>slices_IndexFunc_f71_M2_s1 s f f_ f__ f___ f____) (fun x=>slices_IndexFunc_f71_M2_k1 n s f f_ f__ f___ f____=some r) ?_ ?_
  · refine rA ?_
    refine Sm.block ?_
    obtain ⟨y4,hy4,Ho4⟩:=bind_some H
    refine Sm.loopB _ (fun x=>slices_IndexFunc_f71_M2_t2 s f f_ f__ f___ f____ ((s.length:Nat):Int) x) hy4 (wb [some 0,some 1]) ?_
    rintro v8 z4 H
    try dsimp only at H
    unfold slices_IndexFunc_f71_M2_b2 at H
    refine Sm.st (slices_IndexFunc_f71_M2_t2.eq_1 ..) ?_
    refine rA ?_
    refine Sm.seqK fun K6 hK6=>?_
    refine cnd H (fun h7 H=>?_) (fun h7 H=>?_)
    · refine Sm.skip ?_
      refine hK6 _ ?_
      refine Sm.seqK fun K8 hK8=>?_
      refine Sm.block ?_
      refine rA ?_
      refine sX fun K10 hK10=>?_
      obtain ⟨⟨hg11,hg12⟩,H⟩:=gd_some H
      obtain ⟨r1,hr1,H⟩:=bind_some H
      have q:=hr1
      iterate 5 refine oX ?_
      refine oMq (cenqueue_Assign_1_M1 n _ _ _ _ _ _ r1 hr1) [1] [] ?_
      refine hK10 _ ?_
      refine cnd H (fun h13 H=>?_) (fun h13 H=>?_)
      · refine rA ?_
        refine Sm.ret ?_
        refine lf ?_
        refine lx H fun hyy=>?_
        subst hyy
        have H:=Ho4
        try dsimp only at H
        refine lf ?_
        obtain rfl:=Option.some.inj H
        exact rtM [some 0,some 1]
      refine Sm.skip ?_
      refine hK8 _ ?_
      refine eA ?_
      refine lf ?_
      exact nx H (wb [some 0,some 1])
    refine Sm.exit ?_
    refine lf ?_
    refine lx H fun hyy=>?_
    subst hyy
    have H:=Ho4
    try dsimp only at H
    refine lf ?_
    exact ⟨(),H,wb [some 0,some 1]⟩
  rintro ⟨⟩ H
  try dsimp only at H
  unfold slices_IndexFunc_f71_M2_k1 at H
  refine Sm.st (slices_IndexFunc_f71_M2_s1.eq_1 ..) ?_
  refine rA ?_
  refine Sm.ret ?_
  refine lf ?_
  obtain rfl:=Option.some.inj H
  exact rtM [some 0,some 1]
def enqueue_some_f47_M2 (n:Nat) (l:List TUnitConf) (has:Int) (has_:Int) (has__:List UInt8) (has___:Int) (has____:Int):Option Bool :=
  (slices_IndexFunc_f71_M2 n l has has_ has__ has___ has____).bind fun r1 =>
  some (decide (r1 ≥ 0))
theorem cenqueue_some_f47_M2 (n:Nat) (l:List TUnitConf) (has:Int) (has_:Int) (has__:List UInt8) (has___:Int) (has____:Int) (r:Bool) (H:enqueue_some_f47_M2 n l has has_ has__ has___ has____=some r):CallsM Try.prog 47 [.ref (.own 0 [.int .i64,.int .i64,.str,.int .i64,.int .i64] 0 l.length),.ref (.fnv 48 [.box 1 0])] [.row 77 (List.map e_TUnitConf l),.box [.c (.int .i64) (.int has),.c (.int .i64) (.int has_),.c .str (.str has__),.c (.int .i64) (.int has___),.c (.int .i64) (.int has____)]] [.c .bool (.bool r)] [.row 77 (List.map e_TUnitConf l),.box [.c (.int .i64) (.int has),.c (.int .i64) (.int has_),.c .str (.str has__),.c (.int .i64) (.int has___),.c (.int .i64) (.int has____)]]:=by
  have hΓ:=@g0 (Contract Try.prog)
  refine callsM_of (Try.f47.body.getD .skip) h00 Try.func47 rfl Try.call47 (Nat.le_of_ble_eq_true rfl) (Nat.le_of_ble_eq_true rfl) ?_
  unfold enqueue_some_f47_M2 at H
  simp only [Try.f47,Option.getD]
  refine rA ?_
  refine sX fun K2 hK2=>?_
  obtain ⟨r1,hr1,H⟩:=bind_some H
  have q:=hr1
  iterate 2 refine oX ?_
  refine oMq (cslices_IndexFunc_f71_M2 n _ _ _ _ _ _ r1 hr1) [0,1] [] ?_
  iterate 2 refine oXq ?_
  refine hK2 _ ?_
  refine Sm.ret ?_
  refine lf ?_
  obtain rfl:=Option.some.inj H
  exact rtM [some 0,some 1]
abbrev math_bits_Len64_s3 (x__3:Int) (n__2:Int):S:=stB [(0,.c (.int .u64) (.int x__3)),(2,.c (.int .i64) (.int n__2))] []
def math_bits_Len64_k3 (n:Nat) (x__3:Int) (n__2:Int):Option Int :=
  gd ((0≤(IntKind.wrap .u8 (x__3))∧(IntKind.wrap .u8 (x__3)) < ([0,1,2,2,3,3,3,3,4,4,4,4,4,4,4,4,5,5,5,5,5,5,5,5,5,5,5,5,5,5,5,5,6,6,6,6,6,6,6,6,6,6,6,6,6,6,6,6,6,6,6,6,6,6,6,6,6,6,6,6,6,6,6,6,7,7,7,7,7,7,7,7,7,7,7,7,7,7,7,7,7,7,7,7,7,7,7,7,7,7,7,7,7,7,7,7,7,7,7,7,7,7,7,7,7,7,7,7,7,7,7,7,7,7,7,7,7,7,7,7,7,7,7,7,7,7,7,7,8,8,8,8,8,8,8,8,8,8,8,8,8,8,8,8,8,8,8,8,8,8,8,8,8,8,8,8,8,8,8,8,8,8,8,8,8,8,8,8,8,8,8,8,8,8,8,8,8,8,8,8,8,8,8,8,8,8,8,8,8,8,8,8,8,8,8,8,8,8,8,8,8,8,8,8,8,8,8,8,8,8,8,8,8,8,8,8,8,8,8,8,8,8,8,8,8,8,8,8,8,8,8,8,8,8,8,8,8,8,8,8,8,8,8,8,8,8,8,8,8,8,8,8,8,8,8,8].length:Int))) <|
  some (IntKind.wrap .i64 (n__2+(IntKind.wrap .i64 ((((([0,1,2,2,3,3,3,3,4,4,4,4,4,4,4,4,5,5,5,5,5,5,5,5,5,5,5,5,5,5,5,5,6,6,6,6,6,6,6,6,6,6,6,6,6,6,6,6,6,6,6,6,6,6,6,6,6,6,6,6,6,6,6,6,7,7,7,7,7,7,7,7,7,7,7,7,7,7,7,7,7,7,7,7,7,7,7,7,7,7,7,7,7,7,7,7,7,7,7,7,7,7,7,7,7,7,7,7,7,7,7,7,7,7,7,7,7,7,7,7,7,7,7,7,7,7,7,7,8,8,8,8,8,8,8,8,8,8,8,8,8,8,8,8,8,8,8,8,8,8,8,8,8,8,8,8,8,8,8,8,8,8,8,8,8,8,8,8,8,8,8,8,8,8,8,8,8,8,8,8,8,8,8,8,8,8,8,8,8,8,8,8,8,8,8,8,8,8,8,8,8,8,8,8,8,8,8,8,8,8,8,8,8,8,8,8,8,8,8,8,8,8,8,8,8,8,8,8,8,8,8,8,8,8,8,8,8,8,8,8,8,8,8,8,8,8,8,8,8,8,8,8,8,8,8,8]:List UInt8).getD (Int.toNat (IntKind.wrap .u8 (x__3))) 0).toNat:Nat):Int)))))
abbrev math_bits_Len64_s2 (x__2:Int) (n__1:Int):S:=stB [(0,.c (.int .u64) (.int x__2)),(2,.c (.int .i64) (.int n__1))] []
def math_bits_Len64_k2 (n:Nat) (x__2:Int) (n__1:Int):Option Int :=
  bif (decide (x__2 ≥ 256)) then
    math_bits_Len64_k3 n (Int.fdiv x__2 (2 ^ min 8 (IntKind.bits .u64))) (IntKind.wrap .i64 (n__1+8))
  else
    math_bits_Len64_k3 n x__2 n__1
abbrev math_bits_Len64_s1 (x__1:Int) (n_:Int):S:=stB [(0,.c (.int .u64) (.int x__1)),(2,.c (.int .i64) (.int n_))] []
def math_bits_Len64_k1 (n:Nat) (x__1:Int) (n_:Int):Option Int :=
  bif (decide (x__1 ≥ 65536)) then
    math_bits_Len64_k2 n (Int.fdiv x__1 (2 ^ min 16 (IntKind.bits .u64))) (IntKind.wrap .i64 (n_+16))
  else
    math_bits_Len64_k2 n x__1 n_
def math_bits_Len64 (n:Nat) (x_:Int):Option Int :=
  bif (decide (x_ ≥ 4294967296)) then
    math_bits_Len64_k1 n (Int.fdiv x_ (2 ^ min 32 (IntKind.bits .u64))) 32
  else
    math_bits_Len64_k1 n x_ 0
def xmath_bits_Len64 (n:Nat):Go.AE.Fn:=mkFn (A:=Int) (R:=Int) 92 [(false,[.int .u64])] false (fun xs=>(cg (xs.getD 0 []) 0).toInt) (fun a=>[[.int a]]) (fun a=>math_bits_Len64 n a) (fun r=>[.c (.int .i64) (.int r)]) (fun r=>[])
theorem cmath_bits_Len64 (n:Nat):Contract Try.prog (xmath_bits_Len64 n):=by
  have hΓ:=@g0 (Contract Try.prog)
  refine contract_f (Try.f92.body.getD .skip) h00 Try.func92 rfl Try.call92 (by decide) (by intro _ r;exact ⟨rfl,by simp⟩) ?_
  rintro x_ r H
  try dsimp only at H
  unfold math_bits_Len64 at H
  simp only [Try.f92,Option.getD]
  refine rA ?_
  refine Sm.cut (fun (x:Int×Int)=>math_bits_Len64_s1 x.1 x.2) (fun x=>math_bits_Len64_k1 n x.1 x.2=some r) ?_ ?_
  · refine rA ?_
    refine cnd H (fun h11 H=>?_) (fun h11 H=>?_)
    · refine sX fun K12 hK12=>?_
      refine oX ?_
      refine oE stepV_ok ?_
      refine oX ?_
      refine hK12 _ ?_
      refine eA ?_
      refine lf ?_
      exact ⟨((Int.fdiv x_ (2 ^ min 32 (IntKind.bits .u64))),32),H,wb []⟩
    refine Sm.skip ?_
    refine lf ?_
    exact ⟨(x_,0),H,wb []⟩
  rintro ⟨x__1,n_⟩ H
  try dsimp only at H
  unfold math_bits_Len64_k1 at H
  refine Sm.st (math_bits_Len64_s1.eq_1 ..) ?_
  refine Sm.cut (fun (x:Int×Int)=>math_bits_Len64_s2 x.1 x.2) (fun x=>math_bits_Len64_k2 n x.1 x.2=some r) ?_ ?_
  · refine rA ?_
    refine cnd H (fun h8 H=>?_) (fun h8 H=>?_)
    · refine sX fun K9 hK9=>?_
      refine oX ?_
      refine oE stepV_ok ?_
      refine oX ?_
      refine hK9 _ ?_
      refine eA ?_
      refine lf ?_
      exact ⟨((Int.fdiv x__1 (2 ^ min 16 (IntKind.bits .u64))),(IntKind.wrap .i64 (n_+16))),H,wb []⟩
    refine Sm.skip ?_
    refine lf ?_
    exact ⟨(x__1,n_),H,wb []⟩
  rintro ⟨x__2,n__1⟩ H
  try dsimp only at H
  unfold math_bits_Len64_k2 at H
  refine Sm.st (math_bits_Len64_s2.eq_1 ..) ?_
  refine Sm.cut (fun (x:Int×Int)=>math_bits_Len64_s3 x.1 x.2) (fun x=>math_bits_Len64_k3 n x.1 x.2=some r) ?_ ?_
  · refine rA ?_
    refine cnd H (fun h5 H=>?_) (fun h5 H=>?_)
    · refine sX fun K6 hK6=>?_
      refine oX ?_
      refine oE stepV_ok ?_
      refine oX ?_
      refine hK6 _ ?_
      refine eA ?_
      refine lf ?_
      exact ⟨((Int.fdiv x__2 (2 ^ min 8 (IntKind.bits .u64))),(IntKind.wrap .i64 (n__1+8))),H,wb []⟩
    refine Sm.skip ?_
    refine lf ?_
    exact ⟨(x__2,n__1),H,wb []⟩
  rintro ⟨x__3,n__2⟩ H
  try dsimp only at H
  unfold math_bits_Len64_k3 at H
  refine Sm.st (math_bits_Len64_s3.eq_1 ..) ?_
  obtain ⟨hg3,H⟩:=gd_some H
  refine rA ?_
  refine Sm.ret ?_
  refine lf ?_
  obtain rfl:=Option.some.inj H
  exact rt []
def math_bits_Len (n:Nat) (x_:Int):Option Int :=
  (math_bits_Len64 n x_).bind fun r1 =>
  some r1
def xmath_bits_Len (n:Nat):Go.AE.Fn:=mkFn (A:=Int) (R:=Int) 73 [(false,[.int .u64])] false (fun xs=>(cg (xs.getD 0 []) 0).toInt) (fun a=>[[.int a]]) (fun a=>math_bits_Len n a) (fun r=>[.c (.int .i64) (.int r)]) (fun r=>[])
theorem cmath_bits_Len (n:Nat):Contract Try.prog (xmath_bits_Len n):=by
  have hΓ:=g1 (cmath_bits_Len64 n) (@g0 (Contract Try.prog))
  refine contract_f (Try.f73.body.getD .skip) h00 Try.func73 rfl Try.call73 (by decide) (by intro _ r;exact ⟨rfl,by simp⟩) ?_
  rintro x_ r H
  try dsimp only at H
  unfold math_bits_Len at H
  simp only [Try.f73,Option.getD]
  refine rA ?_
  refine Sm.seqK fun K2 hK2=>?_
  refine cndF ?_
  refine Sm.skip ?_
  refine hK2 _ ?_
  obtain ⟨r1,hr1,H⟩:=bind_some H
  have q:=And.intro @xmath_bits_Len64.eq_1 hr1
  refine rAq ?_
  refine Sm.ret ?_
  refine lf ?_
  obtain rfl:=Option.some.inj H
  exact rt []
def cmp_isNaN_f93 (n:Nat) (x_:Int):Option Bool :=
  some (x_ != x_)
def xcmp_isNaN_f93 (n:Nat):Go.AE.Fn:=mkFn (A:=Int) (R:=Bool) 93 [(false,[.int .i64])] false (fun xs=>(cg (xs.getD 0 []) 0).toInt) (fun a=>[[.int a]]) (fun a=>cmp_isNaN_f93 n a) (fun r=>[.c .bool (.bool r)]) (fun r=>[])
theorem ccmp_isNaN_f93 (n:Nat):Contract Try.prog (xcmp_isNaN_f93 n):=by
  have hΓ:=@g0 (Contract Try.prog)
  refine contract_f (Try.f93.body.getD .skip) h00 Try.func93 rfl Try.call93 (by decide) (by intro _ r;exact ⟨rfl,by simp⟩) ?_
  rintro x_ r H
  try dsimp only at H
  unfold cmp_isNaN_f93 at H
  simp only [Try.f93,Option.getD]
  refine rA ?_
  refine rA ?_
  refine Sm.ret ?_
  refine lf ?_
  obtain rfl:=Option.some.inj H
  exact rt []
def cmp_Compare_f74 (n:Nat) (x_:Int) (y:Int):Option Int :=
  (cmp_isNaN_f93 n x_).bind fun r1 =>
  (cmp_isNaN_f93 n y).bind fun r2 =>
  bif r1 then
    bif r2 then
      some 0
    else
      some (-1)
  else
    bif r2 then
      some 1
    else
      bif (decide (x_ < y)) then
        some (-1)
      else
        bif (decide (x_ > y)) then
          some 1
        else
          some 0
def xcmp_Compare_f74 (n:Nat):Go.AE.Fn:=mkFn (A:=Int×Int) (R:=Int) 74 [(false,[.int .i64]),(false,[.int .i64])] false (fun xs=>((cg (xs.getD 0 []) 0).toInt,(cg (xs.getD 1 []) 0).toInt)) (fun a=>[[.int a.1],[.int a.2]]) (fun a=>cmp_Compare_f74 n a.1 a.2) (fun r=>[.c (.int .i64) (.int r)]) (fun r=>[])
theorem ccmp_Compare_f74 (n:Nat):Contract Try.prog (xcmp_Compare_f74 n):=by
  have hΓ:=g1 (ccmp_isNaN_f93 n) (@g0 (Contract Try.prog))
  refine contract_f (Try.f74.body.getD .skip) h00 Try.func74 rfl Try.call74 (by decide) (by intro _ r;exact ⟨rfl,by simp⟩) ?_
  rintro ⟨x_,y⟩ r H
  try dsimp only at H
  unfold cmp_Compare_f74 at H
  simp only [Try.f74,Option.getD]
  refine rA ?_
  obtain ⟨r1,hr1,H⟩:=bind_some H
  have q:=And.intro @xcmp_isNaN_f93.eq_1 hr1
  refine rAq ?_
  obtain ⟨r2,hr2,H⟩:=bind_some H
  have q:=And.intro @xcmp_isNaN_f93.eq_1 hr2
  refine rAq ?_
  refine Sm.seqK fun K4 hK4=>?_
  refine rA ?_
  refine cnd H (fun h6 H=>?_) (fun h6 H=>?_)
  · refine Sm.seqK fun K7 hK7=>?_
    refine rA ?_
    refine cnd H (fun h9 H=>?_) (fun h9 H=>?_)
    · refine rA ?_
      refine Sm.ret ?_
      refine lf ?_
      obtain rfl:=Option.some.inj H
      exact rt []
    refine Sm.skip ?_
    refine hK7 _ ?_
    refine rA ?_
    refine Sm.ret ?_
    refine lf ?_
    obtain rfl:=Option.some.inj H
    exact rt []
  refine Sm.skip ?_
  refine hK4 _ ?_
  refine Sm.seqK fun K12 hK12=>?_
  refine rA ?_
  refine cnd H (fun h14 H=>?_) (fun h14 H=>?_)
  · refine rA ?_
    refine Sm.ret ?_
    refine lf ?_
    obtain rfl:=Option.some.inj H
    exact rt []
  refine Sm.skip ?_
  refine hK12 _ ?_
  refine Sm.seqK fun K16 hK16=>?_
  refine rA ?_
  refine cnd H (fun h18 H=>?_) (fun h18 H=>?_)
  · refine rA ?_
    refine Sm.ret ?_
    refine lf ?_
    obtain rfl:=Option.some.inj H
    exact rt []
  refine Sm.skip ?_
  refine hK16 _ ?_
  refine Sm.seqK fun K20 hK20=>?_
  refine rA ?_
  refine cnd H (fun h22 H=>?_) (fun h22 H=>?_)
  · refine rA ?_
    refine Sm.ret ?_
    refine lf ?_
    obtain rfl:=Option.some.inj H
    exact rt []
  refine Sm.skip ?_
  refine hK20 _ ?_
  refine rA ?_
  refine Sm.ret ?_
  refine lf ?_
  obtain rfl:=Option.some.inj H
  exact rt []
def enqueue_pool__byAddr_M1 (n:Nat) (a:TUnitConf) (b:TUnitConf):Option Int :=
  (cmp_Compare_f74 n a.Addr b.Addr).bind fun r1 =>
  some r1
theorem cenqueue_pool__byAddr_M1 (n:Nat) (a:TUnitConf) (b:TUnitConf) (r:Int) (H:enqueue_pool__byAddr_M1 n a b=some r):CallsM Try.prog 50 [.ref (.unk),.dat (true,[.int .i64,.int .i64,.str,.int .i64,.int .i64]) [.int a.Addr,.int a.Kind,.str a.Serial,.int a.Cyls,.int a.Heads],.dat (true,[.int .i64,.int .i64,.str,.int .i64,.int .i64]) [.int b.Addr,.int b.Kind,.str b.Serial,.int b.Cyls,.int b.Heads]] [] [.c (.int .i64) (.int r)] []:=by
  have hΓ:=g1 (ccmp_Compare_f74 n) (@g0 (Contract Try.prog))
  refine callsM_of (Try.f50.body.getD .skip) h00 Try.func50 rfl Try.call50 (Nat.le_of_ble_eq_true rfl) (Nat.le_of_ble_eq_true rfl) ?_
  unfold enqueue_pool__byAddr_M1 at H
  simp only [Try.f50,Option.getD]
  refine rA ?_
  obtain ⟨r1,hr1,H⟩:=bind_some H
  have q:=And.intro @xcmp_Compare_f74.eq_1 hr1
  refine rAq ?_
  refine Sm.ret ?_
  refine lf ?_
  obtain rfl:=Option.some.inj H
  exact rtM []
abbrev slices_insertionSortCmpFunc_f83_M1_s2 (b0_1:List TUnitConf) (a:Int) (b:Int) (i:Int):S:=stB [(0,.own 0 [.int .i64,.int .i64,.str,.int .i64,.int .i64] 0 b0_1.length),(1,.c (.int .i64) (.int a)),(2,.c (.int .i64) (.int b)),(3,.fnb 50 [.unk]),(8,.c (.int .i64) (.int i))] [(0,.row 77 (List.map e_TUnitConf b0_1))]
def slices_insertionSortCmpFunc_f83_M1_k2 (n:Nat) (b0_1:List TUnitConf) (a:Int) (b:Int) (i:Int):Option (((List TUnitConf)×Int) ⊕ (((List TUnitConf)))) :=
  some (.inl (b0_1,(IntKind.wrap .i64 (i+1))))
abbrev slices_insertionSortCmpFunc_f83_M1_t3 (a:Int) (b:Int) (i:Int) (b0_2:List TUnitConf) (j:Int):S:=stB [(0,.own 0 [.int .i64,.int .i64,.str,.int .i64,.int .i64] 0 b0_2.length),(1,.c (.int .i64) (.int a)),(2,.c (.int .i64) (.int b)),(3,.fnb 50 [.unk]),(8,.c (.int .i64) (.int i)),(9,.c (.int .i64) (.int j))] [(0,.row 77 (List.map e_TUnitConf b0_2))]
def slices_insertionSortCmpFunc_f83_M1_b3 (n:Nat) (a:Int) (b:Int) (i:Int) (b0_2:List TUnitConf) (j:Int):Option (((List TUnitConf)×Int) ⊕ (((List TUnitConf)))) :=
  gd (((decide (j > a))=true→(0≤j∧j < (b0_2.length:Int)))∧((decide (j > a))=true→(Int.toNat j) < b0_2.length)∧((decide (j > a))=true→(0≤(IntKind.wrap .i64 (j - 1))∧(IntKind.wrap .i64 (j - 1)) < (b0_2.length:Int)))∧((decide (j > a))=true→(Int.toNat (IntKind.wrap .i64 (j - 1))) < b0_2.length)) <|
  bif (decide (j > a)) then
    gd ((decide (j > a))=true) <|
    (enqueue_pool__byAddr_M1 n (gt b0_2 (Int.toNat j)) (gt b0_2 (Int.toNat (IntKind.wrap .i64 (j - 1))))).bind fun r1 =>
    bif (decide (r1 < 0)) then
      gd ((0≤(IntKind.wrap .i64 (j - 1))∧(IntKind.wrap .i64 (j - 1)) < (b0_2.length:Int))∧(Int.toNat (IntKind.wrap .i64 (j - 1))) < b0_2.length∧(0≤j∧j < (b0_2.length:Int))∧(Int.toNat j) < b0_2.length∧(0≤j∧j < (b0_2.length:Int))∧(Int.toNat j) < b0_2.length∧(0≤(IntKind.wrap .i64 (j - 1))∧(IntKind.wrap .i64 (j - 1)) < (b0_2.length:Int))∧(Int.toNat (IntKind.wrap .i64 (j - 1))) < b0_2.length) <|
      some (.inl ((List.set (List.set b0_2 (Int.toNat j) (gt b0_2 (Int.toNat (IntKind.wrap .i64 (j - 1))))) (Int.toNat (IntKind.wrap .i64 (j - 1))) (gt b0_2 (Int.toNat j))),(IntKind.wrap .i64 (j - 1))))
    else
      some (.inr b0_2)
  else
    some (.inr b0_2)
abbrev slices_insertionSortCmpFunc_f83_M1_t1 (a:Int) (b:Int) (b0:List TUnitConf) (i:Int):S:=stB [(0,.own 0 [.int .i64,.int .i64,.str,.int .i64,.int .i64] 0 b0.length),(1,.c (.int .i64) (.int a)),(2,.c (.int .i64) (.int b)),(3,.fnb 50 [.unk]),(8,.c (.int .i64) (.int i))] [(0,.row 77 (List.map e_TUnitConf b0))]
def slices_insertionSortCmpFunc_f83_M1_b1 (n:Nat) (a:Int) (b:Int) (b0:List TUnitConf) (i:Int):Option (((List TUnitConf)×Int) ⊕ (((List TUnitConf)))) :=
  bif (decide (i < b)) then
    (loopF (fun (x:(List TUnitConf)×Int)=>slices_insertionSortCmpFunc_f83_M1_b3 n a b i x.1 x.2) n (b0,i)).bind fun y7 =>
    slices_insertionSortCmpFunc_f83_M1_k2 n y7 a b i
  else
    some (.inr b0)
def slices_insertionSortCmpFunc_f83_M1 (n:Nat) (data:List TUnitConf) (a:Int) (b:Int):Option (List TUnitConf) :=
  (loopF (fun (x:(List TUnitConf)×Int)=>slices_insertionSortCmpFunc_f83_M1_b1 n a b x.1 x.2) n (data,(IntKind.wrap .i64 (a+1)))).bind fun y2 =>
  some y2
theorem cslices_insertionSortCmpFunc_f83_M1 (n:Nat) (data:List TUnitConf) (a:Int) (b:Int) (r:(List TUnitConf)) (H:slices_insertionSortCmpFunc_f83_M1 n data a b=some r):CallsM Try.prog 83 [.ref (.own 0 [.int .i64,.int .i64,.str,.int .i64,.int .i64] 0 data.length),.dat (false,[.int .i64]) [.int a],.dat (false,[.int .i64]) [.int b],.ref (.fnb 50 [.unk])] [.row 77 (List.map e_TUnitConf data)] [] [.row 77 (List.map e_TUnitConf r)]:=by
  have hΓ:=@g0 (Contract Try.prog)
  refine callsM_of (Try.f83.body.getD .skip) h00 Try.func83 rfl Try.call83 (Nat.le_of_ble_eq_true rfl) (Nat.le_of_ble_eq_true rfl) ?_
  unfold slices_insertionSortCmpFunc_f83_M1 at H
  simp only [Try.f83,Option.getD]
  refine rA ?_
  refine Sm.block ?_
  obtain ⟨y2,hy2,Ho2⟩:=bind_some H
  refine Sm.loopB _ (fun x=>slices_insertionSortCmpFunc_f83_M1_t1 a b x.1 x.2) hy2 (wb [some 0]) ?_
  rintro ⟨b0,i⟩ z2 H
  try dsimp only at H
  unfold slices_insertionSortCmpFunc_f83_M1_b1 at H
  refine Sm.st (slices_insertionSortCmpFunc_f83_M1_t1.eq_1 ..) ?_
  refine Sm.seqK fun K3 hK3=>?_
  refine rA ?_
  refine cnd H (fun h5 H=>?_) (fun h5 H=>?_)
  · refine Sm.skip ?_
    refine hK3 _ ?_
    refine Sm.cut (fun (x:(List TUnitConf))=>slices_insertionSortCmpFunc_f83_M1_s2 x a b i) (fun x=>slices_insertionSortCmpFunc_f83_M1_k2 n x a b i=some z2) ?_ ?_
    · refine Sm.block ?_
      refine rA ?_
      refine Sm.block ?_
      obtain ⟨y7,hy7,Ho7⟩:=bind_some H
      refine Sm.loopB _ (fun x=>slices_insertionSortCmpFunc_f83_M1_t3 a b i x.1 x.2) hy7 (wb [some 0]) ?_
      rintro ⟨b0_2,j⟩ z7 H
      try dsimp only at H
      unfold slices_insertionSortCmpFunc_f83_M1_b3 at H
      refine Sm.st (slices_insertionSortCmpFunc_f83_M1_t3.eq_1 ..) ?_
      refine Sm.seqK fun K8 hK8=>?_
      obtain ⟨⟨hg10,hg11,hg12,hg13⟩,H⟩:=gd_some H
      refine bif_cases H (fun hs14 H=>?_) (fun hs14 H=>?_)
      · try simp only [hs14,Bool.not_false,Bool.not_true,Bool.false_eq_true,true_implies,false_implies,forall_const] at hg10
        try simp only [hs14,Bool.not_false,Bool.not_true,Bool.false_eq_true,true_implies,false_implies,forall_const] at hg11
        try simp only [hs14,Bool.not_false,Bool.not_true,Bool.false_eq_true,true_implies,false_implies,forall_const] at hg12
        try simp only [hs14,Bool.not_false,Bool.not_true,Bool.false_eq_true,true_implies,false_implies,forall_const] at hg13
        obtain ⟨hg15,H⟩:=gd_some H
        obtain ⟨r1,hr1,H⟩:=bind_some H
        refine sE [0,1,2,3,4,5,6,7,8,9,10,11,12,13,14,15,16] [(none,[],[]),(none,[],[]),(none,[],[]),(none,[],[]),(none,[],[]),(none,[],[]),(none,[],[]),(none,[0],[]),(none,[0],[]),(none,[],[]),(none,[],[]),(none,[],[]),(none,[0],[]),(none,[0],[]),(none,[],[]),(some true,[],[]),(some true,[],[])] [(14,(⟨_,_,_,_,_,[],[],cenqueue_pool__byAddr_M1 n _ _ r1 hr1⟩:MT Try.prog))] fun K9 hK9=>?_
        have q:=And.intro hs14 hr1
        iterate 14 refine eQq ?_
        refine eB ?_
        iterate 2 refine eQq ?_
        refine opsE0 ?_
        refine hK9 _ ?_
        refine cnd H (fun h16 H=>?_) (fun h16 H=>?_)
        · refine Sm.skip ?_
          refine hK8 _ ?_
          refine Sm.seqK fun K17 hK17=>?_
          refine Sm.block ?_
          obtain ⟨⟨hg18,hg19,hg20,hg21,hg22,hg23,hg24,hg25⟩,H⟩:=gd_some H
          refine eD ?_
          refine hK17 _ ?_
          refine eA ?_
          refine lf ?_
          exact nx H (wb [some 0])
        refine Sm.exit ?_
        refine lf ?_
        refine lx H fun hyy=>?_
        subst hyy
        have H:=Ho7
        try dsimp only at H
        refine lf ?_
        exact ⟨_,H,wb [some 0]⟩
      try simp only [hs14,Bool.not_false,Bool.not_true,Bool.false_eq_true,true_implies,false_implies,forall_const] at hg10
      try simp only [hs14,Bool.not_false,Bool.not_true,Bool.false_eq_true,true_implies,false_implies,forall_const] at hg11
      try simp only [hs14,Bool.not_false,Bool.not_true,Bool.false_eq_true,true_implies,false_implies,forall_const] at hg12
      try simp only [hs14,Bool.not_false,Bool.not_true,Bool.false_eq_true,true_implies,false_implies,forall_const] at hg13
      refine sQ [0,1,2,3,4,5,6,7,8,9,10,11,12,13,14,15,16] [(none,[],[]),(none,[],[]),(none,[],[]),(none,[],[]),(none,[],[]),(none,[],[]),(none,[],[]),(none,[0],[]),(none,[0],[]),(none,[],[]),(none,[],[]),(none,[],[]),(none,[0],[]),(none,[0],[]),(some false,[],[]),(some false,[],[]),(some false,[],[])] fun K9 hK9=>?_
      have q:=hs14
      iterate 17 refine oQq ?_
      refine opsQ0 ?_
      refine hK9 _ ?_
      refine cndF ?_
      refine Sm.exit ?_
      refine lf ?_
      refine lx H fun hyy=>?_
      subst hyy
      have H:=Ho7
      try dsimp only at H
      refine lf ?_
      exact ⟨_,H,wb [some 0]⟩
    rintro b0_1 H
    try dsimp only at H
    unfold slices_insertionSortCmpFunc_f83_M1_k2 at H
    refine Sm.st (slices_insertionSortCmpFunc_f83_M1_s2.eq_1 ..) ?_
    refine eA ?_
    refine lf ?_
    exact nx H (wb [some 0])
  refine Sm.exit ?_
  refine lf ?_
  refine lx H fun hyy=>?_
  subst hyy
  have H:=Ho2
  try dsimp only at H
  refine lf ?_
  obtain rfl:=Option.some.inj H
  exact rtM [some 0]
abbrev slices_siftDownCmpFunc_f104_M1_s2 (b0:List TUnitConf) (hi:Int) (first:Int) (root:Int) (child:Int):S:=stB [(0,.own 0 [.int .i64,.int .i64,.str,.int .i64,.int .i64] 0 b0.length),(2,.c (.int .i64) (.int hi)),(3,.c (.int .i64) (.int first)),(4,.fnb 50 [.unk]),(10,.c (.int .i64) (.int root)),(11,.c (.int .i64) (.int child))] [(0,.row 77 (List.map e_TUnitConf b0))]
def slices_siftDownCmpFunc_f104_M1_k2 (n:Nat) (b0:List TUnitConf) (hi:Int) (first:Int) (root:Int) (child:Int):Option (((List TUnitConf)×Int) ⊕ (((List TUnitConf)))) :=
  gd ((0≤(IntKind.wrap .i64 (first+root))∧(IntKind.wrap .i64 (first+root)) < (b0.length:Int))∧(Int.toNat (IntKind.wrap .i64 (first+root))) < b0.length∧(0≤(IntKind.wrap .i64 (first+child))∧(IntKind.wrap .i64 (first+child)) < (b0.length:Int))∧(Int.toNat (IntKind.wrap .i64 (first+child))) < b0.length) <|
  (enqueue_pool__byAddr_M1 n (gt b0 (Int.toNat (IntKind.wrap .i64 (first+root)))) (gt b0 (Int.toNat (IntKind.wrap .i64 (first+child))))).bind fun r1 =>
  bif (!(decide (r1 < 0))) then
    some (.inr b0)
  else
    gd ((0≤(IntKind.wrap .i64 (first+child))∧(IntKind.wrap .i64 (first+child)) < (b0.length:Int))∧(Int.toNat (IntKind.wrap .i64 (first+child))) < b0.length∧(0≤(IntKind.wrap .i64 (first+root))∧(IntKind.wrap .i64 (first+root)) < (b0.length:Int))∧(Int.toNat (IntKind.wrap .i64 (first+root))) < b0.length∧(0≤(IntKind.wrap .i64 (first+root))∧(IntKind.wrap .i64 (first+root)) < (b0.length:Int))∧(Int.toNat (IntKind.wrap .i64 (first+root))) < b0.length∧(0≤(IntKind.wrap .i64 (first+child))∧(IntKind.wrap .i64 (first+child)) < (b0.length:Int))∧(Int.toNat (IntKind.wrap .i64 (first+child))) < b0.length) <|
    some (.inl ((List.set (List.set b0 (Int.toNat (IntKind.wrap .i64 (first+root))) (gt b0 (Int.toNat (IntKind.wrap .i64 (first+child))))) (Int.toNat (IntKind.wrap .i64 (first+child))) (gt b0 (Int.toNat (IntKind.wrap .i64 (first+root))))),child))
abbrev slices_siftDownCmpFunc_f104_M1_t1 (hi:Int) (first:Int) (b0:List TUnitConf) (root:Int):S:=stB [(0,.own 0 [.int .i64,.int .i64,.str,.int .i64,.int .i64] 0 b0.length),(2,.c (.int .i64) (.int hi)),(3,.c (.int .i64) (.int first)),(4,.fnb 50 [.unk]),(10,.c (.int .i64) (.int root))] [(0,.row 77 (List.map e_TUnitConf b0))]
def slices_siftDownCmpFunc_f104_M1_b1 (n:Nat) (hi:Int) (first:Int) (b0:List TUnitConf) (root:Int):Option (((List TUnitConf)×Int) ⊕ (((List TUnitConf)))) :=
  bif (decide ((IntKind.wrap .i64 ((IntKind.wrap .i64 (2 * root))+1)) ≥ hi)) then
    some (.inr b0)
  else
    gd (((decide ((IntKind.wrap .i64 ((IntKind.wrap .i64 ((IntKind.wrap .i64 (2 * root))+1))+1)) < hi))=true→(0≤(IntKind.wrap .i64 (first+(IntKind.wrap .i64 ((IntKind.wrap .i64 (2 * root))+1))))∧(IntKind.wrap .i64 (first+(IntKind.wrap .i64 ((IntKind.wrap .i64 (2 * root))+1)))) < (b0.length:Int)))∧((decide ((IntKind.wrap .i64 ((IntKind.wrap .i64 ((IntKind.wrap .i64 (2 * root))+1))+1)) < hi))=true→(Int.toNat (IntKind.wrap .i64 (first+(IntKind.wrap .i64 ((IntKind.wrap .i64 (2 * root))+1))))) < b0.length)∧((decide ((IntKind.wrap .i64 ((IntKind.wrap .i64 ((IntKind.wrap .i64 (2 * root))+1))+1)) < hi))=true→(0≤(IntKind.wrap .i64 ((IntKind.wrap .i64 (first+(IntKind.wrap .i64 ((IntKind.wrap .i64 (2 * root))+1))))+1))∧(IntKind.wrap .i64 ((IntKind.wrap .i64 (first+(IntKind.wrap .i64 ((IntKind.wrap .i64 (2 * root))+1))))+1)) < (b0.length:Int)))∧((decide ((IntKind.wrap .i64 ((IntKind.wrap .i64 ((IntKind.wrap .i64 (2 * root))+1))+1)) < hi))=true→(Int.toNat (IntKind.wrap .i64 ((IntKind.wrap .i64 (first+(IntKind.wrap .i64 ((IntKind.wrap .i64 (2 * root))+1))))+1))) < b0.length)) <|
    bif (decide ((IntKind.wrap .i64 ((IntKind.wrap .i64 ((IntKind.wrap .i64 (2 * root))+1))+1)) < hi)) then
      gd ((decide ((IntKind.wrap .i64 ((IntKind.wrap .i64 ((IntKind.wrap .i64 (2 * root))+1))+1)) < hi))=true) <|
      (enqueue_pool__byAddr_M1 n (gt b0 (Int.toNat (IntKind.wrap .i64 (first+(IntKind.wrap .i64 ((IntKind.wrap .i64 (2 * root))+1)))))) (gt b0 (Int.toNat (IntKind.wrap .i64 ((IntKind.wrap .i64 (first+(IntKind.wrap .i64 ((IntKind.wrap .i64 (2 * root))+1))))+1))))).bind fun r2 =>
      bif (decide (r2 < 0)) then
        slices_siftDownCmpFunc_f104_M1_k2 n b0 hi first root (IntKind.wrap .i64 ((IntKind.wrap .i64 ((IntKind.wrap .i64 (2 * root))+1))+1))
      else
        slices_siftDownCmpFunc_f104_M1_k2 n b0 hi first root (IntKind.wrap .i64 ((IntKind.wrap .i64 (2 * root))+1))
    else
      slices_siftDownCmpFunc_f104_M1_k2 n b0 hi first root (IntKind.wrap .i64 ((IntKind.wrap .i64 (2 * root))+1))
def slices_siftDownCmpFunc_f104_M1 (n:Nat) (data:List TUnitConf) (lo:Int) (hi:Int) (first:Int):Option (List TUnitConf) :=
  (loopF (fun (x:(List TUnitConf)×Int)=>slices_siftDownCmpFunc_f104_M1_b1 n hi first x.1 x.2) n (data,lo)).bind fun y2 =>
  some y2
theorem cslices_siftDownCmpFunc_f104_M1 (n:Nat) (data:List TUnitConf) (lo:Int) (hi:Int) (first:Int) (r:(List TUnitConf)) (H:slices_siftDownCmpFunc_f104_M1 n data lo hi first=some r):CallsM Try.prog 104 [.ref (.own 0 [.int .i64,.int .i64,.str,.int .i64,.int .i64] 0 data.length),.dat (false,[.int .i64]) [.int lo],.dat (false,[.int .i64]) [.int hi],.dat (false,[.int .i64]) [.int first],.ref (.fnb 50 [.unk])] [.row 77 (List.map e_TUnitConf data)] [] [.row 77 (List.map e_TUnitConf r)]:=by
  have hΓ:=@g0 (Contract Try.prog)
  refine callsM_of (Try.f104.body.getD .skip) h00 Try.func104 rfl Try.call104 (Nat.le_of_ble_eq_true rfl) (Nat.le_of_ble_eq_true rfl) ?_
  unfold slices_siftDownCmpFunc_f104_M1 at H
  simp only [Try.f104,Option.getD]
  refine rA ?_
  refine Sm.block ?_
  obtain ⟨y2,hy2,Ho2⟩:=bind_some H
  refine Sm.loopB _ (fun x=>slices_siftDownCmpFunc_f104_M1_t1 hi first x.1 x.2) hy2 (wb [some 0]) ?_
  rintro ⟨b0,root⟩ z2 H
  try dsimp only at H
  unfold slices_siftDownCmpFunc_f104_M1_b1 at H
  refine Sm.st (slices_siftDownCmpFunc_f104_M1_t1.eq_1 ..) ?_
  refine Sm.block ?_
  refine rA ?_
  refine Sm.seqK fun K4 hK4=>?_
  refine rA ?_
  refine cnd H (fun h6 H=>?_) (fun h6 H=>?_)
  · refine Sm.exit ?_
    refine lf ?_
    refine lx H fun hyy=>?_
    subst hyy
    have H:=Ho2
    try dsimp only at H
    refine lf ?_
    obtain rfl:=Option.some.inj H
    exact rtM [some 0]
  refine Sm.skip ?_
  refine hK4 _ ?_
  refine Sm.cut (fun (x:Int)=>slices_siftDownCmpFunc_f104_M1_s2 b0 hi first root x) (fun x=>slices_siftDownCmpFunc_f104_M1_k2 n b0 hi first root x=some z2) ?_ ?_
  · obtain ⟨⟨hg24,hg25,hg26,hg27⟩,H⟩:=gd_some H
    refine bif_cases H (fun hs28 H=>?_) (fun hs28 H=>?_)
    · try simp only [hs28,Bool.not_false,Bool.not_true,Bool.false_eq_true,true_implies,false_implies,forall_const] at hg24
      try simp only [hs28,Bool.not_false,Bool.not_true,Bool.false_eq_true,true_implies,false_implies,forall_const] at hg25
      try simp only [hs28,Bool.not_false,Bool.not_true,Bool.false_eq_true,true_implies,false_implies,forall_const] at hg26
      try simp only [hs28,Bool.not_false,Bool.not_true,Bool.false_eq_true,true_implies,false_implies,forall_const] at hg27
      obtain ⟨hg29,H⟩:=gd_some H
      obtain ⟨r2,hr2,H⟩:=bind_some H
      refine sE [0,1,2,3,4,5,6,7,8,9,10,11,12,13,14,15,16,17,18,19,20,21] [(none,[],[]),(none,[],[]),(none,[],[]),(none,[],[]),(none,[],[]),(none,[],[]),(none,[],[]),(none,[],[]),(none,[],[]),(none,[],[]),(none,[0],[]),(none,[0],[]),(none,[],[]),(none,[],[]),(none,[],[]),(none,[],[]),(none,[],[]),(none,[0],[]),(none,[0],[]),(none,[],[]),(some true,[],[]),(some true,[],[])] [(19,(⟨_,_,_,_,_,[],[],cenqueue_pool__byAddr_M1 n _ _ r2 hr2⟩:MT Try.prog))] fun K23 hK23=>?_
      have q:=And.intro hs28 hr2
      iterate 19 refine eQq ?_
      refine eB ?_
      iterate 2 refine eQq ?_
      refine opsE0 ?_
      refine hK23 _ ?_
      refine cnd H (fun h30 H=>?_) (fun h30 H=>?_)
      · refine eA ?_
        refine lf ?_
        exact ⟨_,H,wb [some 0]⟩
      refine Sm.skip ?_
      refine lf ?_
      exact ⟨_,H,wb [some 0]⟩
    try simp only [hs28,Bool.not_false,Bool.not_true,Bool.false_eq_true,true_implies,false_implies,forall_const] at hg24
    try simp only [hs28,Bool.not_false,Bool.not_true,Bool.false_eq_true,true_implies,false_implies,forall_const] at hg25
    try simp only [hs28,Bool.not_false,Bool.not_true,Bool.false_eq_true,true_implies,false_implies,forall_const] at hg26
    try simp only [hs28,Bool.not_false,Bool.not_true,Bool.false_eq_true,true_implies,false_implies,forall_const] at hg27
    refine sQ [0,1,2,3,4,5,6,7,8,9,10,11,12,13,14,15,16,17,18,19,20,21] [(none,[],[]),(none,[],[]),(none,[],[]),(none,[],[]),(none,[],[]),(none,[],[]),(none,[],[]),(none,[],[]),(none,[],[]),(none,[],[]),(none,[0],[]),(none,[0],[]),(none,[],[]),(none,[],[]),(none,[],[]),(none,[],[]),(none,[],[]),(none,[0],[]),(none,[0],[]),(some false,[],[]),(some false,[],[]),(some false,[],[])] fun K23 hK23=>?_
    have q:=hs28
    iterate 22 refine oQq ?_
    refine opsQ0 ?_
    refine hK23 _ ?_
    refine cndF ?_
    refine Sm.skip ?_
    refine lf ?_
    exact ⟨_,H,wb [some 0]⟩
  rintro child H
  try dsimp only at H
  unfold slices_siftDownCmpFunc_f104_M1_k2 at H
  refine Sm.st (slices_siftDownCmpFunc_f104_M1_s2.eq_1 ..) ?_
  refine Sm.seqK fun K7 hK7=>?_
  obtain ⟨⟨hg9,hg10,hg11,hg12⟩,H⟩:=gd_some H
  obtain ⟨r1,hr1,H⟩:=bind_some H
  refine sE [0,1,2,3,4,5,6,7,8,9,10,11,12,13,14,15] [(none,[],[]),(none,[],[]),(none,[],[]),(none,[],[]),(none,[],[]),(none,[0],[]),(none,[0],[]),(none,[],[]),(none,[],[]),(none,[],[]),(none,[],[]),(none,[0],[]),(none,[0],[]),(none,[],[]),(none,[],[]),(none,[],[])] [(13,(⟨_,_,_,_,_,[],[],cenqueue_pool__byAddr_M1 n _ _ r1 hr1⟩:MT Try.prog))] fun K8 hK8=>?_
  have q:=hr1
  iterate 13 refine eQq ?_
  refine eB ?_
  iterate 2 refine eQq ?_
  refine opsE0 ?_
  refine hK8 _ ?_
  refine cnd H (fun h13 H=>?_) (fun h13 H=>?_)
  · refine Sm.ret ?_
    refine lf ?_
    refine lx H fun hyy=>?_
    subst hyy
    have H:=Ho2
    try dsimp only at H
    refine lf ?_
    obtain rfl:=Option.some.inj H
    exact rtM [some 0]
  refine Sm.skip ?_
  refine hK7 _ ?_
  obtain ⟨⟨hg15,hg16,hg17,hg18,hg19,hg20,hg21,hg22⟩,H⟩:=gd_some H
  refine rD ?_
  refine eA ?_
  refine lf ?_
  exact nx H (wb [some 0])
abbrev slices_heapSortCmpFunc_f84_M1_t2 (a:Int) (b0_1:List TUnitConf) (i:Int):S:=stB [(0,.own 0 [.int .i64,.int .i64,.str,.int .i64,.int .i64] 0 b0_1.length),(3,.fnb 50 [.unk]),(8,.c (.int .i64) (.int a)),(9,.c (.int .i64) (.int 0)),(12,.c (.int .i64) (.int i))] [(0,.row 77 (List.map e_TUnitConf b0_1))]
def slices_heapSortCmpFunc_f84_M1_b2 (n:Nat) (a:Int) (b0_1:List TUnitConf) (i:Int):Option (((List TUnitConf)×Int) ⊕ (((List TUnitConf)))) :=
  bif (decide (i ≥ 0)) then
    gd ((0≤(IntKind.wrap .i64 (a+i))∧(IntKind.wrap .i64 (a+i)) < (b0_1.length:Int))∧(Int.toNat (IntKind.wrap .i64 (a+i))) < b0_1.length∧(0≤a∧a < (b0_1.length:Int))∧(Int.toNat a) < b0_1.length∧(0≤a∧a < (b0_1.length:Int))∧(Int.toNat a) < b0_1.length∧(0≤(IntKind.wrap .i64 (a+i))∧(IntKind.wrap .i64 (a+i)) < (b0_1.length:Int))∧(Int.toNat (IntKind.wrap .i64 (a+i))) < b0_1.length) <|
    (slices_siftDownCmpFunc_f104_M1 n (List.set (List.set b0_1 (Int.toNat a) (gt b0_1 (Int.toNat (IntKind.wrap .i64 (a+i))))) (Int.toNat (IntKind.wrap .i64 (a+i))) (gt b0_1 (Int.toNat a))) 0 i a).bind fun r1 =>
    gd (r1.length=b0_1.length) <|
    some (.inl (r1,(IntKind.wrap .i64 (i - 1))))
  else
    some (.inr b0_1)
abbrev slices_heapSortCmpFunc_f84_M1_s1 (b0:List TUnitConf) (a:Int) (hi:Int):S:=stB [(0,.own 0 [.int .i64,.int .i64,.str,.int .i64,.int .i64] 0 b0.length),(3,.fnb 50 [.unk]),(8,.c (.int .i64) (.int a)),(9,.c (.int .i64) (.int 0)),(10,.c (.int .i64) (.int hi))] [(0,.row 77 (List.map e_TUnitConf b0))]
def slices_heapSortCmpFunc_f84_M1_k1 (n:Nat) (b0:List TUnitConf) (a:Int) (hi:Int):Option (List TUnitConf) :=
  (loopF (fun (x:(List TUnitConf)×Int)=>slices_heapSortCmpFunc_f84_M1_b2 n a x.1 x.2) n (b0,(IntKind.wrap .i64 (hi - 1)))).bind fun y5 =>
  some y5
abbrev slices_heapSortCmpFunc_f84_M1_t3 (a:Int) (hi_1:Int) (b0_2:List TUnitConf) (i_1:Int):S:=stB [(0,.own 0 [.int .i64,.int .i64,.str,.int .i64,.int .i64] 0 b0_2.length),(3,.fnb 50 [.unk]),(8,.c (.int .i64) (.int a)),(9,.c (.int .i64) (.int 0)),(10,.c (.int .i64) (.int hi_1)),(11,.c (.int .i64) (.int i_1))] [(0,.row 77 (List.map e_TUnitConf b0_2))]
def slices_heapSortCmpFunc_f84_M1_b3 (n:Nat) (a:Int) (hi_1:Int) (b0_2:List TUnitConf) (i_1:Int):Option (((List TUnitConf)×Int) ⊕ (((List TUnitConf)))) :=
  bif (decide (i_1 ≥ 0)) then
    (slices_siftDownCmpFunc_f104_M1 n b0_2 i_1 hi_1 a).bind fun r2 =>
    gd (r2.length=b0_2.length) <|
    some (.inl (r2,(IntKind.wrap .i64 (i_1 - 1))))
  else
    some (.inr b0_2)
def slices_heapSortCmpFunc_f84_M1 (n:Nat) (data:List TUnitConf) (a:Int) (b:Int):Option (List TUnitConf) :=
  (loopF (fun (x:(List TUnitConf)×Int)=>slices_heapSortCmpFunc_f84_M1_b3 n a (IntKind.wrap .i64 (b - a)) x.1 x.2) n (data,(IntKind.wrap .i64 (Int.tdiv (IntKind.wrap .i64 ((IntKind.wrap .i64 (b - a)) - 1)) 2)))).bind fun y21 =>
  slices_heapSortCmpFunc_f84_M1_k1 n y21 a (IntKind.wrap .i64 (b - a))
theorem cslices_heapSortCmpFunc_f84_M1 (n:Nat) (data:List TUnitConf) (a:Int) (b:Int) (r:(List TUnitConf)) (H:slices_heapSortCmpFunc_f84_M1 n data a b=some r):CallsM Try.prog 84 [.ref (.own 0 [.int .i64,.int .i64,.str,.int .i64,.int .i64] 0 data.length),.dat (false,[.int .i64]) [.int a],.dat (false,[.int .i64]) [.int b],.ref (.fnb 50 [.unk])] [.row 77 (List.map e_TUnitConf data)] [] [.row 77 (List.map e_TUnitConf r)]:=by
  have hΓ:=@g0 (Contract Try.prog)
  refine callsM_of (Try.f84.body.getD .skip) h00 Try.func84 rfl Try.call84 (Nat.le_of_ble_eq_true rfl) (Nat.le_of_ble_eq_true rfl) ?_
  unfold slices_heapSortCmpFunc_f84_M1 at H
  simp only [Try.f84,Option.getD]
  refine rA ?_
  refine rA ?_
  refine rA ?_
  refine Sm.cut (fun (x:(List TUnitConf)×Int)=>slices_heapSortCmpFunc_f84_M1_s1 x.1 a x.2) (fun x=>slices_heapSortCmpFunc_f84_M1_k1 n x.1 a x.2=some r) ?_ ?_
  · refine rA ?_
    refine Sm.block ?_
    obtain ⟨y21,hy21,Ho21⟩:=bind_some H
    refine Sm.loopB _ (fun x=>slices_heapSortCmpFunc_f84_M1_t3 a (IntKind.wrap .i64 (b - a)) x.1 x.2) hy21 (wbo [some 0]) ?_
    rintro ⟨b0_2,i_1⟩ z21 H
    try dsimp only at H
    unfold slices_heapSortCmpFunc_f84_M1_b3 at H
    refine Sm.st (slices_heapSortCmpFunc_f84_M1_t3.eq_1 ..) ?_
    refine Sm.seqK fun K22 hK22=>?_
    refine rA ?_
    refine cnd H (fun h24 H=>?_) (fun h24 H=>?_)
    · refine Sm.skip ?_
      refine hK22 _ ?_
      refine Sm.seqK fun K25 hK25=>?_
      refine Sm.block ?_
      refine eX ?_
      obtain ⟨r2,hr2,H⟩:=bind_some H
      obtain ⟨hg26,H⟩:=gd_some H
      have q:=hr2
      iterate 5 refine oX ?_
      refine oMq (cslices_siftDownCmpFunc_f104_M1 n _ _ _ _ r2 hr2) [0] [] ?_
      refine opsX0 ?_
      refine hK25 _ ?_
      refine eA ?_
      refine lf ?_
      exact nx H (wbo [some 0])
    refine Sm.exit ?_
    refine lf ?_
    refine lx H fun hyy=>?_
    subst hyy
    have H:=Ho21
    try dsimp only at H
    refine lf ?_
    exact ⟨(b0_2,(IntKind.wrap .i64 (b - a))),H,wbo [some 0]⟩
  rintro ⟨b0,hi⟩ H
  try dsimp only at H
  unfold slices_heapSortCmpFunc_f84_M1_k1 at H
  refine Sm.st (slices_heapSortCmpFunc_f84_M1_s1.eq_1 ..) ?_
  refine rA ?_
  refine Sm.block ?_
  obtain ⟨y5,hy5,Ho5⟩:=bind_some H
  refine Sm.loopB _ (fun x=>slices_heapSortCmpFunc_f84_M1_t2 a x.1 x.2) hy5 (wbo [some 0]) ?_
  rintro ⟨b0_1,i⟩ z5 H
  try dsimp only at H
  unfold slices_heapSortCmpFunc_f84_M1_b2 at H
  refine Sm.st (slices_heapSortCmpFunc_f84_M1_t2.eq_1 ..) ?_
  refine Sm.seqK fun K6 hK6=>?_
  refine rA ?_
  refine cnd H (fun h8 H=>?_) (fun h8 H=>?_)
  · refine Sm.skip ?_
    refine hK6 _ ?_
    refine Sm.seqK fun K9 hK9=>?_
    refine Sm.block ?_
    obtain ⟨⟨hg12,hg13,hg14,hg15,hg16,hg17,hg18,hg19⟩,H⟩:=gd_some H
    refine rD ?_
    refine eX ?_
    obtain ⟨r1,hr1,H⟩:=bind_some H
    obtain ⟨hg11,H⟩:=gd_some H
    have q:=hr1
    iterate 5 refine oX ?_
    refine oMq (cslices_siftDownCmpFunc_f104_M1 n _ _ _ _ r1 hr1) [0] [] ?_
    refine opsX0 ?_
    refine hK9 _ ?_
    refine eA ?_
    refine lf ?_
    exact nx H (wbo [some 0])
  refine Sm.exit ?_
  refine lf ?_
  refine lx H fun hyy=>?_
  subst hyy
  have H:=Ho5
  try dsimp only at H
  refine lf ?_
  obtain rfl:=Option.some.inj H
  exact rtM [some 0]
def slices_nextPowerOfTwo (n:Nat) (length_:Int):Option Int :=
  (math_bits_Len n (IntKind.wrap .u64 (length_))).bind fun r1 =>
  gd (0≤r1) <|
  some (IntKind.wrap .u64 (1 * 2 ^ min (Int.toNat r1) (IntKind.bits .u64)))
def xslices_nextPowerOfTwo (n:Nat):Go.AE.Fn:=mkFn (A:=Int) (R:=Int) 105 [(false,[.int .i64])] false (fun xs=>(cg (xs.getD 0 []) 0).toInt) (fun a=>[[.int a]]) (fun a=>slices_nextPowerOfTwo n a) (fun r=>[.c (.int .u64) (.int r)]) (fun r=>[])
theorem cslices_nextPowerOfTwo (n:Nat):Contract Try.prog (xslices_nextPowerOfTwo n):=by
  have hΓ:=g1 (cmath_bits_Len n) (@g0 (Contract Try.prog))
  refine contract_f (Try.f105.body.getD .skip) h00 Try.func105 rfl Try.call105 (by decide) (by intro _ r;exact ⟨rfl,by simp⟩) ?_
  rintro length_ r H
  try dsimp only at H
  unfold slices_nextPowerOfTwo at H
  simp only [Try.f105,Option.getD]
  refine rA ?_
  refine sX fun K2 hK2=>?_
  obtain ⟨r1,hr1,H⟩:=bind_some H
  obtain ⟨hg3,H⟩:=gd_some H
  have q:=And.intro @xmath_bits_Len.eq_1 hr1
  iterate 3 refine oXq ?_
  refine oEq stepV_ok ?_
  refine oXq ?_
  refine hK2 _ ?_
  refine Sm.ret ?_
  refine lf ?_
  obtain rfl:=Option.some.inj H
  exact rt []
def slices_xorshift__Next_M1 (n:Nat) (r_:Int):Option (Int×Int) :=
  some ((IntKind.wrap .u64 (((BitVec.ofInt (IntKind.bits .u64) (IntKind.wrap .u64 (((BitVec.ofInt (IntKind.bits .u64) (IntKind.wrap .u64 (((BitVec.ofInt (IntKind.bits .u64) r_ ^^^ BitVec.ofInt (IntKind.bits .u64) (IntKind.wrap .u64 (r_ * 2 ^ min 13 (IntKind.bits .u64)))).toNat:Int))) ^^^ BitVec.ofInt (IntKind.bits .u64) (Int.fdiv (IntKind.wrap .u64 (((BitVec.ofInt (IntKind.bits .u64) r_ ^^^ BitVec.ofInt (IntKind.bits .u64) (IntKind.wrap .u64 (r_ * 2 ^ min 13 (IntKind.bits .u64)))).toNat:Int))) (2 ^ min 7 (IntKind.bits .u64)))).toNat:Int))) ^^^ BitVec.ofInt (IntKind.bits .u64) (IntKind.wrap .u64 ((IntKind.wrap .u64 (((BitVec.ofInt (IntKind.bits .u64) (IntKind.wrap .u64 (((BitVec.ofInt (IntKind.bits .u64) r_ ^^^ BitVec.ofInt (IntKind.bits .u64) (IntKind.wrap .u64 (r_ * 2 ^ min 13 (IntKind.bits .u64)))).toNat:Int))) ^^^ BitVec.ofInt (IntKind.bits .u64) (Int.fdiv (IntKind.wrap .u64 (((BitVec.ofInt (IntKind.bits .u64) r_ ^^^ BitVec.ofInt (IntKind.bits .u64) (IntKind.wrap .u64 (r_ * 2 ^ min 13 (IntKind.bits .u64)))).toNat:Int))) (2 ^ min 7 (IntKind.bits .u64)))).toNat:Int))) * 2 ^ min 17 (IntKind.bits .u64)))).toNat:Int))),(IntKind.wrap .u64 (((BitVec.ofInt (IntKind.bits .u64) (IntKind.wrap .u64 (((BitVec.ofInt (IntKind.bits .u64) (IntKind.wrap .u64 (((BitVec.ofInt (IntKind.bits .u64) r_ ^^^ BitVec.ofInt (IntKind.bits .u64) (IntKind.wrap .u64 (r_ * 2 ^ min 13 (IntKind.bits .u64)))).toNat:Int))) ^^^ BitVec.ofInt (IntKind.bits .u64) (Int.fdiv (IntKind.wrap .u64 (((BitVec.ofInt (IntKind.bits .u64) r_ ^^^ BitVec.ofInt (IntKind.bits .u64) (IntKind.wrap .u64 (r_ * 2 ^ min 13 (IntKind.bits .u64)))).toNat:Int))) (2 ^ min 7 (IntKind.bits .u64)))).toNat:Int))) ^^^ BitVec.ofInt (IntKind.bits .u64) (IntKind.wrap .u64 ((IntKind.wrap .u64 (((BitVec.ofInt (IntKind.bits .u64) (IntKind.wrap .u64 (((BitVec.ofInt (IntKind.bits .u64) r_ ^^^ BitVec.ofInt (IntKind.bits .u64) (IntKind.wrap .u64 (r_ * 2 ^ min 13 (IntKind.bits .u64)))).toNat:Int))) ^^^ BitVec.ofInt (IntKind.bits .u64) (Int.fdiv (IntKind.wrap .u64 (((BitVec.ofInt (IntKind.bits .u64) r_ ^^^ BitVec.ofInt (IntKind.bits .u64) (IntKind.wrap .u64 (r_ * 2 ^ min 13 (IntKind.bits .u64)))).toNat:Int))) (2 ^ min 7 (IntKind.bits .u64)))).toNat:Int))) * 2 ^ min 17 (IntKind.bits .u64)))).toNat:Int))))
theorem cslices_xorshift__Next_M1 (n:Nat) (r_:Int) (r:Int×Int) (H:slices_xorshift__Next_M1 n r_=some r):CallsM Try.prog 106 [.ref (.box 0 0)] [.box [.c (.int .u64) (.int r_)]] [.c (.int .u64) (.int r.1)] [.box [.c (.int .u64) (.int r.2)]]:=by
  have hΓ:=@g0 (Contract Try.prog)
  refine callsM_of (Try.f106.body.getD .skip) h00 Try.func106 rfl Try.call106 (Nat.le_of_ble_eq_true rfl) (Nat.le_of_ble_eq_true rfl) ?_
  unfold slices_xorshift__Next_M1 at H
  simp only [Try.f106,Option.getD]
  refine rA ?_
  refine sQ [0,1,2,3,4,5,6,7,8,9] [(none,[],[]),(none,[1000001,0],[]),(none,[0],[]),(none,[],[]),(none,[1000001,0],[]),(none,[0],[]),(none,[1000001],[]),(none,[],[]),(none,[1000001,0],[]),(none,[0],[0])] fun K2 hK2=>?_
  refine oQ ?_
  refine oQV ?_
  iterate 2 refine oQ ?_
  refine oQV ?_
  refine oQ ?_
  refine oQV ?_
  refine oQ ?_
  refine oQV ?_
  refine oQ ?_
  refine opsQ0 ?_
  refine hK2 _ ?_
  refine sQ [0,1,2,3,4,5,6,7,8,9] [(none,[],[]),(none,[1000001,0],[]),(none,[0],[]),(none,[],[]),(none,[1000001,0],[]),(none,[0],[]),(none,[1000001],[]),(none,[],[]),(none,[1000001,0],[]),(none,[0],[0])] fun K3 hK3=>?_
  refine oQ ?_
  refine oQV ?_
  iterate 2 refine oQ ?_
  refine oQV ?_
  refine oQ ?_
  refine oQV ?_
  refine oQ ?_
  refine oQV ?_
  refine oQ ?_
  refine opsQ0 ?_
  refine hK3 _ ?_
  refine sQ [0,1,2,3,4,5,6,7,8,9] [(none,[],[]),(none,[1000001,0],[]),(none,[0],[]),(none,[],[]),(none,[1000001,0],[]),(none,[0],[]),(none,[1000001],[]),(none,[],[]),(none,[1000001,0],[]),(none,[0],[0])] fun K4 hK4=>?_
  refine oQ ?_
  refine oQV ?_
  iterate 2 refine oQ ?_
  refine oQV ?_
  refine oQ ?_
  refine oQV ?_
  refine oQ ?_
  refine oQV ?_
  refine oQ ?_
  refine opsQ0 ?_
  refine hK4 _ ?_
  refine sX fun K5 hK5=>?_
  refine oX ?_
  refine oE stepZ_ok ?_
  iterate 2 refine oX ?_
  refine hK5 _ ?_
  refine Sm.ret ?_
  refine lf ?_
  obtain rfl:=Option.some.inj H
  exact rtM [some 0]
abbrev slices_breakPatternsCmpFunc_f85_M1_s2 (b0_1:List TUnitConf) (a:Int) (length_:Int) (random_1:Int) (modulus:Int) (idx:Int):S:=stB [(0,.own 0 [.int .i64,.int .i64,.str,.int .i64,.int .i64] 0 b0_1.length),(1,.c (.int .i64) (.int a)),(8,.c (.int .i64) (.int length_)),(9,.box 9002 0),(10,.c (.int .u64) (.int modulus)),(11,.c (.int .i64) (.int idx))] [(0,.row 77 (List.map e_TUnitConf b0_1)),(9002,.box [.c (.int .u64) (.int random_1)])]
def slices_breakPatternsCmpFunc_f85_M1_k2 (n:Nat) (b0_1:List TUnitConf) (a:Int) (length_:Int) (random_1:Int) (modulus:Int) (idx:Int):Option (((List TUnitConf)×Int×Int) ⊕ (((List TUnitConf)))) :=
  some (.inl (b0_1,random_1,(IntKind.wrap .i64 (idx+1))))
abbrev slices_breakPatternsCmpFunc_f85_M1_s3 (b0:List TUnitConf) (a:Int) (length_:Int) (random_2:Int) (modulus:Int) (idx:Int) (other:Int):S:=stB [(0,.own 0 [.int .i64,.int .i64,.str,.int .i64,.int .i64] 0 b0.length),(1,.c (.int .i64) (.int a)),(8,.c (.int .i64) (.int length_)),(9,.box 9003 0),(10,.c (.int .u64) (.int modulus)),(11,.c (.int .i64) (.int idx)),(12,.c (.int .i64) (.int other))] [(0,.row 77 (List.map e_TUnitConf b0)),(9003,.box [.c (.int .u64) (.int random_2)])]
def slices_breakPatternsCmpFunc_f85_M1_k3 (n:Nat) (b0:List TUnitConf) (a:Int) (length_:Int) (random_2:Int) (modulus:Int) (idx:Int) (other:Int):Option (((List TUnitConf)×Int×Int) ⊕ (((List TUnitConf)))) :=
  gd ((0≤(IntKind.wrap .i64 (a+other))∧(IntKind.wrap .i64 (a+other)) < (b0.length:Int))∧(Int.toNat (IntKind.wrap .i64 (a+other))) < b0.length∧(0≤idx∧idx < (b0.length:Int))∧(Int.toNat idx) < b0.length∧(0≤idx∧idx < (b0.length:Int))∧(Int.toNat idx) < b0.length∧(0≤(IntKind.wrap .i64 (a+other))∧(IntKind.wrap .i64 (a+other)) < (b0.length:Int))∧(Int.toNat (IntKind.wrap .i64 (a+other))) < b0.length) <|
  slices_breakPatternsCmpFunc_f85_M1_k2 n (List.set (List.set b0 (Int.toNat idx) (gt b0 (Int.toNat (IntKind.wrap .i64 (a+other))))) (Int.toNat (IntKind.wrap .i64 (a+other))) (gt b0 (Int.toNat idx))) a length_ random_2 modulus idx
abbrev slices_breakPatternsCmpFunc_f85_M1_t1 (a:Int) (length_:Int) (modulus:Int) (b0:List TUnitConf) (random:Int) (idx:Int):S:=stB [(0,.own 0 [.int .i64,.int .i64,.str,.int .i64,.int .i64] 0 b0.length),(1,.c (.int .i64) (.int a)),(8,.c (.int .i64) (.int length_)),(9,.box 9001 0),(10,.c (.int .u64) (.int modulus)),(11,.c (.int .i64) (.int idx))] [(0,.row 77 (List.map e_TUnitConf b0)),(9001,.box [.c (.int .u64) (.int random)])]
def slices_breakPatternsCmpFunc_f85_M1_b1 (n:Nat) (a:Int) (length_:Int) (modulus:Int) (b0:List TUnitConf) (random:Int) (idx:Int):Option (((List TUnitConf)×Int×Int) ⊕ (((List TUnitConf)))) :=
  bif (decide (idx≤(IntKind.wrap .i64 ((IntKind.wrap .i64 (a+(IntKind.wrap .i64 ((IntKind.wrap .i64 (Int.tdiv length_ 4)) * 2))))+1)))) then
    (slices_xorshift__Next_M1 n random).bind fun r2 =>
    bif (decide ((IntKind.wrap .i64 ((IntKind.wrap .u64 (((BitVec.ofInt (IntKind.bits .u64) r2.1 &&& BitVec.ofInt (IntKind.bits .u64) (IntKind.wrap .u64 (modulus - 1))).toNat:Int))))) ≥ length_)) then
      slices_breakPatternsCmpFunc_f85_M1_k3 n b0 a length_ r2.2 modulus idx (IntKind.wrap .i64 ((IntKind.wrap .i64 ((IntKind.wrap .u64 (((BitVec.ofInt (IntKind.bits .u64) r2.1 &&& BitVec.ofInt (IntKind.bits .u64) (IntKind.wrap .u64 (modulus - 1))).toNat:Int))))) - length_))
    else
      slices_breakPatternsCmpFunc_f85_M1_k3 n b0 a length_ r2.2 modulus idx (IntKind.wrap .i64 ((IntKind.wrap .u64 (((BitVec.ofInt (IntKind.bits .u64) r2.1 &&& BitVec.ofInt (IntKind.bits .u64) (IntKind.wrap .u64 (modulus - 1))).toNat:Int)))))
  else
    some (.inr b0)
def slices_breakPatternsCmpFunc_f85_M1 (n:Nat) (data:List TUnitConf) (a:Int) (b:Int):Option (List TUnitConf) :=
  bif (decide ((IntKind.wrap .i64 (b - a)) ≥ 8)) then
    (slices_nextPowerOfTwo n (IntKind.wrap .i64 (b - a))).bind fun r1 =>
    (loopF (fun (x:(List TUnitConf)×Int×Int)=>slices_breakPatternsCmpFunc_f85_M1_b1 n a (IntKind.wrap .i64 (b - a)) r1 x.1 x.2.1 x.2.2) n (data,(IntKind.wrap .u64 ((IntKind.wrap .i64 (b - a)))),(IntKind.wrap .i64 ((IntKind.wrap .i64 (a+(IntKind.wrap .i64 ((IntKind.wrap .i64 (Int.tdiv (IntKind.wrap .i64 (b - a)) 4)) * 2)))) - 1)))).bind fun y7 =>
    some y7
  else
    some data
theorem cslices_breakPatternsCmpFunc_f85_M1 (n:Nat) (data:List TUnitConf) (a:Int) (b:Int) (r:(List TUnitConf)) (H:slices_breakPatternsCmpFunc_f85_M1 n data a b=some r):CallsM Try.prog 85 [.ref (.own 0 [.int .i64,.int .i64,.str,.int .i64,.int .i64] 0 data.length),.dat (false,[.int .i64]) [.int a],.dat (false,[.int .i64]) [.int b],.ref (.fnb 50 [.unk])] [.row 77 (List.map e_TUnitConf data)] [] [.row 77 (List.map e_TUnitConf r)]:=by
  have hΓ:=g1 (cslices_nextPowerOfTwo n) (@g0 (Contract Try.prog))
  refine callsM_of (Try.f85.body.getD .skip) h00 Try.func85 rfl Try.call85 (Nat.le_of_ble_eq_true rfl) (Nat.le_of_ble_eq_true rfl) ?_
  unfold slices_breakPatternsCmpFunc_f85_M1 at H
  simp only [Try.f85,Option.getD]
  refine rA ?_
  refine rA ?_
  refine cnd H (fun h3 H=>?_) (fun h3 H=>?_)
  · refine rA ?_
    obtain ⟨r1,hr1,H⟩:=bind_some H
    have q:=And.intro @xslices_nextPowerOfTwo.eq_1 hr1
    refine rAq ?_
    refine rA ?_
    refine Sm.block ?_
    obtain ⟨y7,hy7,Ho7⟩:=bind_some H
    refine Sm.loopB _ (fun x=>slices_breakPatternsCmpFunc_f85_M1_t1 a (IntKind.wrap .i64 (b - a)) r1 x.1 x.2.1 x.2.2) hy7 (wb [some 0,some 144]) ?_
    rintro ⟨b0,random,idx⟩ z7 H
    try dsimp only at H
    unfold slices_breakPatternsCmpFunc_f85_M1_b1 at H
    refine Sm.st (slices_breakPatternsCmpFunc_f85_M1_t1.eq_1 ..) ?_
    refine Sm.seqK fun K8 hK8=>?_
    refine rA ?_
    refine cnd H (fun h10 H=>?_) (fun h10 H=>?_)
    · refine Sm.skip ?_
      refine hK8 _ ?_
      refine Sm.cut (fun (x:(List TUnitConf)×Int)=>slices_breakPatternsCmpFunc_f85_M1_s2 x.1 a (IntKind.wrap .i64 (b - a)) x.2 r1 idx) (fun x=>slices_breakPatternsCmpFunc_f85_M1_k2 n x.1 a (IntKind.wrap .i64 (b - a)) x.2 r1 idx=some z7) ?_ ?_
      · refine Sm.block ?_
        refine sX fun K11 hK11=>?_
        obtain ⟨r2,hr2,H⟩:=bind_some H
        have q:=hr2
        refine oMq (cslices_xorshift__Next_M1 n _ r2 hr2) [9001] [] ?_
        iterate 5 refine oXq ?_
        refine hK11 _ ?_
        refine Sm.cut (fun (x:Int)=>slices_breakPatternsCmpFunc_f85_M1_s3 b0 a (IntKind.wrap .i64 (b - a)) r2.2 r1 idx x) (fun x=>slices_breakPatternsCmpFunc_f85_M1_k3 n b0 a (IntKind.wrap .i64 (b - a)) r2.2 r1 idx x=some z7) ?_ ?_
        · refine rA ?_
          refine cnd H (fun h21 H=>?_) (fun h21 H=>?_)
          · refine eA ?_
            refine lf ?_
            exact ⟨_,H,wb [some 0,some 9001]⟩
          refine Sm.skip ?_
          refine lf ?_
          exact ⟨_,H,wb [some 0,some 9001]⟩
        rintro other H
        try dsimp only at H
        unfold slices_breakPatternsCmpFunc_f85_M1_k3 at H
        refine Sm.st (slices_breakPatternsCmpFunc_f85_M1_s3.eq_1 ..) ?_
        obtain ⟨⟨hg12,hg13,hg14,hg15,hg16,hg17,hg18,hg19⟩,H⟩:=gd_some H
        refine eD ?_
        refine lf ?_
        exact ⟨((List.set (List.set b0 (Int.toNat idx) (gt b0 (Int.toNat (IntKind.wrap .i64 (a+other))))) (Int.toNat (IntKind.wrap .i64 (a+other))) (gt b0 (Int.toNat idx))),r2.2),H,wb [some 0,some 9003]⟩
      rintro ⟨b0_1,random_1⟩ H
      try dsimp only at H
      unfold slices_breakPatternsCmpFunc_f85_M1_k2 at H
      refine Sm.st (slices_breakPatternsCmpFunc_f85_M1_s2.eq_1 ..) ?_
      refine eA ?_
      refine lf ?_
      exact nx H (wb [some 0,some 9002])
    refine Sm.exit ?_
    refine lf ?_
    refine lx H fun hyy=>?_
    subst hyy
    have H:=Ho7
    try dsimp only at H
    refine lf ?_
    obtain rfl:=Option.some.inj H
    exact rtM [some 0]
  refine Sm.skip ?_
  refine lf ?_
  obtain rfl:=Option.some.inj H
  exact rtM [some 0]
def slices_order2CmpFunc_f112_M1 (n:Nat) (data:List TUnitConf) (a:Int) (b:Int) (swaps:Int):Option (Int×Int×Int) :=
  gd ((0≤b∧b < (data.length:Int))∧(Int.toNat b) < data.length∧(0≤a∧a < (data.length:Int))∧(Int.toNat a) < data.length) <|
  (enqueue_pool__byAddr_M1 n (gt data (Int.toNat b)) (gt data (Int.toNat a))).bind fun r1 =>
  bif (decide (r1 < 0)) then
    some (b,a,(IntKind.wrap .i64 (swaps+1)))
  else
    some (a,b,swaps)
theorem cslices_order2CmpFunc_f112_M1 (n:Nat) (data:List TUnitConf) (a:Int) (b:Int) (swaps:Int) (r:Int×Int×Int) (H:slices_order2CmpFunc_f112_M1 n data a b swaps=some r):CallsM Try.prog 112 [.ref (.own 0 [.int .i64,.int .i64,.str,.int .i64,.int .i64] 0 data.length),.dat (false,[.int .i64]) [.int a],.dat (false,[.int .i64]) [.int b],.ref (.box 1 0),.ref (.fnb 50 [.unk])] [.row 77 (List.map e_TUnitConf data),.box [.c (.int .i64) (.int swaps)]] [.c (.int .i64) (.int r.1),.c (.int .i64) (.int r.2.1)] [.row 77 (List.map e_TUnitConf data),.box [.c (.int .i64) (.int r.2.2)]]:=by
  have hΓ:=@g0 (Contract Try.prog)
  refine callsM_of (Try.f112.body.getD .skip) h00 Try.func112 rfl Try.call112 (Nat.le_of_ble_eq_true rfl) (Nat.le_of_ble_eq_true rfl) ?_
  unfold slices_order2CmpFunc_f112_M1 at H
  simp only [Try.f112,Option.getD]
  refine rA ?_
  refine Sm.seqK fun K2 hK2=>?_
  obtain ⟨⟨hg4,hg5,hg6,hg7⟩,H⟩:=gd_some H
  obtain ⟨r1,hr1,H⟩:=bind_some H
  refine sE [0,1,2,3,4,5,6,7,8,9,10] [(none,[],[]),(none,[],[]),(none,[],[]),(none,[0],[]),(none,[0],[]),(none,[],[]),(none,[],[]),(none,[0],[]),(none,[0],[]),(none,[],[]),(none,[],[])] [(9,(⟨_,_,_,_,_,[],[],cenqueue_pool__byAddr_M1 n _ _ r1 hr1⟩:MT Try.prog))] fun K3 hK3=>?_
  have q:=hr1
  iterate 9 refine eQq ?_
  refine eB ?_
  refine eQq ?_
  refine opsE0 ?_
  refine hK3 _ ?_
  refine cnd H (fun h8 H=>?_) (fun h8 H=>?_)
  · refine sX fun K9 hK9=>?_
    refine oX ?_
    refine oE stepZ_ok ?_
    iterate 2 refine oX ?_
    refine oE stepZ_ok ?_
    refine oX ?_
    refine hK9 _ ?_
    refine rA ?_
    refine Sm.ret ?_
    refine lf ?_
    obtain rfl:=Option.some.inj H
    exact rtM [some 0,some 1]
  refine Sm.skip ?_
  refine hK2 _ ?_
  refine rA ?_
  refine Sm.ret ?_
  refine lf ?_
  obtain rfl:=Option.some.inj H
  exact rtM [some 0,some 1]
def slices_medianCmpFunc_f108_M1 (n:Nat) (data:List TUnitConf) (a:Int) (b:Int) (c:Int) (swaps:Int):Option (Int×Int) :=
  (slices_order2CmpFunc_f112_M1 n data a b swaps).bind fun r1 =>
  (slices_order2CmpFunc_f112_M1 n data r1.2.1 c r1.2.2).bind fun r2 =>
  (slices_order2CmpFunc_f112_M1 n data r1.1 r2.1 r2.2.2).bind fun r3 =>
  some (r3.2.1,r3.2.2)
theorem cslices_medianCmpFunc_f108_M1 (n:Nat) (data:List TUnitConf) (a:Int) (b:Int) (c:Int) (swaps:Int) (r:Int×Int) (H:slices_medianCmpFunc_f108_M1 n data a b c swaps=some r):CallsM Try.prog 108 [.ref (.own 0 [.int .i64,.int .i64,.str,.int .i64,.int .i64] 0 data.length),.dat (false,[.int .i64]) [.int a],.dat (false,[.int .i64]) [.int b],.dat (false,[.int .i64]) [.int c],.ref (.box 1 0),.ref (.fnb 50 [.unk])] [.row 77 (List.map e_TUnitConf data),.box [.c (.int .i64) (.int swaps)]] [.c (.int .i64) (.int r.1)] [.row 77 (List.map e_TUnitConf data),.box [.c (.int .i64) (.int r.2)]]:=by
  have hΓ:=@g0 (Contract Try.prog)
  refine callsM_of (Try.f108.body.getD .skip) h00 Try.func108 rfl Try.call108 (Nat.le_of_ble_eq_true rfl) (Nat.le_of_ble_eq_true rfl) ?_
  unfold slices_medianCmpFunc_f108_M1 at H
  simp only [Try.f108,Option.getD]
  refine rA ?_
  refine sX fun K2 hK2=>?_
  obtain ⟨r1,hr1,H⟩:=bind_some H
  have q:=hr1
  iterate 5 refine oX ?_
  refine oMq (cslices_order2CmpFunc_f112_M1 n _ _ _ _ r1 hr1) [0,1] [] ?_
  iterate 5 refine oXq ?_
  refine hK2 _ ?_
  refine sX fun K3 hK3=>?_
  obtain ⟨r2,hr2,H⟩:=bind_some H
  have q:=hr2
  iterate 5 refine oX ?_
  refine oMq (cslices_order2CmpFunc_f112_M1 n _ _ _ _ r2 hr2) [0,1] [] ?_
  iterate 5 refine oXq ?_
  refine hK3 _ ?_
  refine sX fun K4 hK4=>?_
  obtain ⟨r3,hr3,H⟩:=bind_some H
  have q:=hr3
  iterate 5 refine oX ?_
  refine oMq (cslices_order2CmpFunc_f112_M1 n _ _ _ _ r3 hr3) [0,1] [] ?_
  iterate 5 refine oXq ?_
  refine hK4 _ ?_
  refine rA ?_
  refine Sm.ret ?_
  refine lf ?_
  obtain rfl:=Option.some.inj H
  exact rtM [some 0,some 1]
def slices_medianAdjacentCmpFunc_f107_M1 (n:Nat) (data:List TUnitConf) (a:Int) (swaps:Int):Option (Int×Int) :=
  (slices_medianCmpFunc_f108_M1 n data (IntKind.wrap .i64 (a - 1)) a (IntKind.wrap .i64 (a+1)) swaps).bind fun r1 =>
  some (r1.1,r1.2)
theorem cslices_medianAdjacentCmpFunc_f107_M1 (n:Nat) (data:List TUnitConf) (a:Int) (swaps:Int) (r:Int×Int) (H:slices_medianAdjacentCmpFunc_f107_M1 n data a swaps=some r):CallsM Try.prog 107 [.ref (.own 0 [.int .i64,.int .i64,.str,.int .i64,.int .i64] 0 data.length),.dat (false,[.int .i64]) [.int a],.ref (.box 1 0),.ref (.fnb 50 [.unk])] [.row 77 (List.map e_TUnitConf data),.box [.c (.int .i64) (.int swaps)]] [.c (.int .i64) (.int r.1)] [.row 77 (List.map e_TUnitConf data),.box [.c (.int .i64) (.int r.2)]]:=by
  have hΓ:=@g0 (Contract Try.prog)
  refine callsM_of (Try.f107.body.getD .skip) h00 Try.func107 rfl Try.call107 (Nat.le_of_ble_eq_true rfl) (Nat.le_of_ble_eq_true rfl) ?_
  unfold slices_medianAdjacentCmpFunc_f107_M1 at H
  simp only [Try.f107,Option.getD]
  refine rA ?_
  refine sX fun K2 hK2=>?_
  obtain ⟨r1,hr1,H⟩:=bind_some H
  have q:=hr1
  iterate 8 refine oX ?_
  refine oMq (cslices_medianCmpFunc_f108_M1 n _ _ _ _ _ r1 hr1) [0,1] [] ?_
  refine oXq ?_
  refine hK2 _ ?_
  refine Sm.ret ?_
  refine lf ?_
  obtain rfl:=Option.some.inj H
  exact rtM [some 0,some 1]
abbrev slices_choosePivotCmpFunc_f86_M1_s1 (data:List TUnitConf) (swaps:Int) (j:Int):S:=stB [(11,.box 9000 0),(13,.c (.int .i64) (.int j))] [(0,.row 77 (List.map e_TUnitConf data)),(9000,.box [.c (.int .i64) (.int swaps)])]
def slices_choosePivotCmpFunc_f86_M1_k1 (n:Nat) (data:List TUnitConf) (swaps:Int) (j:Int):Option (Int×Int) :=
  bif (swaps == 0) then
    some (j,1)
  else
    bif (swaps == 12) then
      some (j,2)
    else
      some (j,0)
abbrev slices_choosePivotCmpFunc_f86_M1_s2 (data:List TUnitConf) (swaps_1:Int) (i:Int) (j_1:Int) (k:Int):S:=stB [(0,.own 0 [.int .i64,.int .i64,.str,.int .i64,.int .i64] 0 data.length),(3,.fnb 50 [.unk]),(11,.box 9001 0),(12,.c (.int .i64) (.int i)),(13,.c (.int .i64) (.int j_1)),(14,.c (.int .i64) (.int k))] [(0,.row 77 (List.map e_TUnitConf data)),(9001,.box [.c (.int .i64) (.int swaps_1)])]
def slices_choosePivotCmpFunc_f86_M1_k2 (n:Nat) (data:List TUnitConf) (swaps_1:Int) (i:Int) (j_1:Int) (k:Int):Option (Int×Int) :=
  (slices_medianCmpFunc_f108_M1 n data i j_1 k swaps_1).bind fun r1 =>
  slices_choosePivotCmpFunc_f86_M1_k1 n data r1.2 r1.1
def slices_choosePivotCmpFunc_f86_M1 (n:Nat) (data:List TUnitConf) (a:Int) (b:Int):Option (Int×Int) :=
  bif (decide ((IntKind.wrap .i64 (b - a)) ≥ 8)) then
    bif (decide ((IntKind.wrap .i64 (b - a)) ≥ 50)) then
      (slices_medianAdjacentCmpFunc_f107_M1 n data (IntKind.wrap .i64 (a+(IntKind.wrap .i64 ((IntKind.wrap .i64 (Int.tdiv (IntKind.wrap .i64 (b - a)) 4)) * 1)))) 0).bind fun r2 =>
      (slices_medianAdjacentCmpFunc_f107_M1 n data (IntKind.wrap .i64 (a+(IntKind.wrap .i64 ((IntKind.wrap .i64 (Int.tdiv (IntKind.wrap .i64 (b - a)) 4)) * 2)))) r2.2).bind fun r3 =>
      (slices_medianAdjacentCmpFunc_f107_M1 n data (IntKind.wrap .i64 (a+(IntKind.wrap .i64 ((IntKind.wrap .i64 (Int.tdiv (IntKind.wrap .i64 (b - a)) 4)) * 3)))) r3.2).bind fun r4 =>
      slices_choosePivotCmpFunc_f86_M1_k2 n data r4.2 r2.1 r3.1 r4.1
    else
      slices_choosePivotCmpFunc_f86_M1_k2 n data 0 (IntKind.wrap .i64 (a+(IntKind.wrap .i64 ((IntKind.wrap .i64 (Int.tdiv (IntKind.wrap .i64 (b - a)) 4)) * 1)))) (IntKind.wrap .i64 (a+(IntKind.wrap .i64 ((IntKind.wrap .i64 (Int.tdiv (IntKind.wrap .i64 (b - a)) 4)) * 2)))) (IntKind.wrap .i64 (a+(IntKind.wrap .i64 ((IntKind.wrap .i64 (Int.tdiv (IntKind.wrap .i64 (b - a)) 4)) * 3))))
  else
    slices_choosePivotCmpFunc_f86_M1_k1 n data 0 (IntKind.wrap .i64 (a+(IntKind.wrap .i64 ((IntKind.wrap .i64 (Int.tdiv (IntKind.wrap .i64 (b - a)) 4)) * 2))))
theorem cslices_choosePivotCmpFunc_f86_M1 (n:Nat) (data:List TUnitConf) (a:Int) (b:Int) (r:Int×Int) (H:slices_choosePivotCmpFunc_f86_M1 n data a b=some r):CallsM Try.prog 86 [.ref (.own 0 [.int .i64,.int .i64,.str,.int .i64,.int .i64] 0 data.length),.dat (false,[.int .i64]) [.int a],.dat (false,[.int .i64]) [.int b],.ref (.fnb 50 [.unk])] [.row 77 (List.map e_TUnitConf data)] [.c (.int .i64) (.int r.1),.c (.int .i64) (.int r.2)] [.row 77 (List.map e_TUnitConf data)]:=by
  have hΓ:=@g0 (Contract Try.prog)
  refine callsM_of (Try.f86.body.getD .skip) h00 Try.func86 rfl Try.call86 (Nat.le_of_ble_eq_true rfl) (Nat.le_of_ble_eq_true rfl) ?_
  unfold slices_choosePivotCmpFunc_f86_M1 at H
  simp only [Try.f86,Option.getD]
  refine rA ?_
  refine rA ?_
  refine rA ?_
  refine rA ?_
  refine rA ?_
  refine rA ?_
  refine Sm.cut (fun (x:Int×Int)=>slices_choosePivotCmpFunc_f86_M1_s1 data x.1 x.2) (fun x=>slices_choosePivotCmpFunc_f86_M1_k1 n data x.1 x.2=some r) ?_ ?_
  · refine rA ?_
    refine cnd H (fun h16 H=>?_) (fun h16 H=>?_)
    · refine Sm.cut (fun (x:Int×Int×Int×Int)=>slices_choosePivotCmpFunc_f86_M1_s2 data x.1 x.2.1 x.2.2.1 x.2.2.2) (fun x=>slices_choosePivotCmpFunc_f86_M1_k2 n data x.1 x.2.1 x.2.2.1 x.2.2.2=some r) ?_ ?_
      · refine rA ?_
        refine cnd H (fun h18 H=>?_) (fun h18 H=>?_)
        · refine sX fun K19 hK19=>?_
          obtain ⟨r2,hr2,H⟩:=bind_some H
          have q:=hr2
          iterate 3 refine oX ?_
          refine oMq (cslices_medianAdjacentCmpFunc_f107_M1 n _ _ _ r2 hr2) [0,176] [] ?_
          refine oXq ?_
          refine hK19 _ ?_
          refine sX fun K20 hK20=>?_
          obtain ⟨r3,hr3,H⟩:=bind_some H
          have q:=hr3
          iterate 3 refine oX ?_
          refine oMq (cslices_medianAdjacentCmpFunc_f107_M1 n _ _ _ r3 hr3) [0,176] [] ?_
          refine oXq ?_
          refine hK20 _ ?_
          refine eX ?_
          obtain ⟨r4,hr4,H⟩:=bind_some H
          have q:=hr4
          iterate 3 refine oX ?_
          refine oMq (cslices_medianAdjacentCmpFunc_f107_M1 n _ _ _ r4 hr4) [0,176] [] ?_
          refine oXq ?_
          refine opsX0 ?_
          refine lf ?_
          exact ⟨(r4.2,r2.1,r3.1,r4.1),H,wb [some 0,some 176]⟩
        refine Sm.skip ?_
        refine lf ?_
        exact ⟨(0,(IntKind.wrap .i64 (a+(IntKind.wrap .i64 ((IntKind.wrap .i64 (Int.tdiv (IntKind.wrap .i64 (b - a)) 4)) * 1)))),(IntKind.wrap .i64 (a+(IntKind.wrap .i64 ((IntKind.wrap .i64 (Int.tdiv (IntKind.wrap .i64 (b - a)) 4)) * 2)))),(IntKind.wrap .i64 (a+(IntKind.wrap .i64 ((IntKind.wrap .i64 (Int.tdiv (IntKind.wrap .i64 (b - a)) 4)) * 3))))),H,wb [some 0,some 176]⟩
      rintro ⟨swaps_1,i,j_1,k⟩ H
      try dsimp only at H
      unfold slices_choosePivotCmpFunc_f86_M1_k2 at H
      refine Sm.st (slices_choosePivotCmpFunc_f86_M1_s2.eq_1 ..) ?_
      refine eX ?_
      obtain ⟨r1,hr1,H⟩:=bind_some H
      have q:=hr1
      iterate 5 refine oX ?_
      refine oMq (cslices_medianCmpFunc_f108_M1 n _ _ _ _ _ r1 hr1) [0,9001] [] ?_
      refine oXq ?_
      refine opsX0 ?_
      refine lf ?_
      exact ⟨(r1.2,r1.1),H,wb [some 0,some 9001]⟩
    refine Sm.skip ?_
    refine lf ?_
    exact ⟨(0,(IntKind.wrap .i64 (a+(IntKind.wrap .i64 ((IntKind.wrap .i64 (Int.tdiv (IntKind.wrap .i64 (b - a)) 4)) * 2))))),H,wb [some 0,some 176]⟩
  rintro ⟨swaps,j⟩ H
  try dsimp only at H
  unfold slices_choosePivotCmpFunc_f86_M1_k1 at H
  refine Sm.st (slices_choosePivotCmpFunc_f86_M1_s1.eq_1 ..) ?_
  refine rA ?_
  refine Sm.block ?_
  refine rA ?_
  refine cnd H (fun h9 H=>?_) (fun h9 H=>?_)
  · refine rA ?_
    refine Sm.ret ?_
    refine lf ?_
    obtain rfl:=Option.some.inj H
    exact rtM [some 0]
  refine rA ?_
  refine cnd H (fun h12 H=>?_) (fun h12 H=>?_)
  · refine rA ?_
    refine Sm.ret ?_
    refine lf ?_
    obtain rfl:=Option.some.inj H
    exact rtM [some 0]
  refine rA ?_
  refine Sm.ret ?_
  refine lf ?_
  obtain rfl:=Option.some.inj H
  exact rtM [some 0]
abbrev slices_reverseRangeCmpFunc_f87_M1_t1 (b0:List TUnitConf) (i:Int) (j:Int):S:=stB [(0,.own 0 [.int .i64,.int .i64,.str,.int .i64,.int .i64] 0 b0.length),(8,.c (.int .i64) (.int i)),(9,.c (.int .i64) (.int j))] [(0,.row 77 (List.map e_TUnitConf b0))]
def slices_reverseRangeCmpFunc_f87_M1_b1 (n:Nat) (b0:List TUnitConf) (i:Int) (j:Int):Option (((List TUnitConf)×Int×Int) ⊕ (((List TUnitConf)))) :=
  bif (decide (i < j)) then
    gd ((0≤j∧j < (b0.length:Int))∧(Int.toNat j) < b0.length∧(0≤i∧i < (b0.length:Int))∧(Int.toNat i) < b0.length∧(0≤i∧i < (b0.length:Int))∧(Int.toNat i) < b0.length∧(0≤j∧j < (b0.length:Int))∧(Int.toNat j) < b0.length) <|
    some (.inl ((List.set (List.set b0 (Int.toNat i) (gt b0 (Int.toNat j))) (Int.toNat j) (gt b0 (Int.toNat i))),(IntKind.wrap .i64 (i+1)),(IntKind.wrap .i64 (j - 1))))
  else
    some (.inr b0)
def slices_reverseRangeCmpFunc_f87_M1 (n:Nat) (data:List TUnitConf) (a:Int) (b:Int):Option (List TUnitConf) :=
  (loopF (fun (x:(List TUnitConf)×Int×Int)=>slices_reverseRangeCmpFunc_f87_M1_b1 n x.1 x.2.1 x.2.2) n (data,a,(IntKind.wrap .i64 (b - 1)))).bind fun y3 =>
  some y3
theorem cslices_reverseRangeCmpFunc_f87_M1 (n:Nat) (data:List TUnitConf) (a:Int) (b:Int) (r:(List TUnitConf)) (H:slices_reverseRangeCmpFunc_f87_M1 n data a b=some r):CallsM Try.prog 87 [.ref (.own 0 [.int .i64,.int .i64,.str,.int .i64,.int .i64] 0 data.length),.dat (false,[.int .i64]) [.int a],.dat (false,[.int .i64]) [.int b],.ref (.fnb 50 [.unk])] [.row 77 (List.map e_TUnitConf data)] [] [.row 77 (List.map e_TUnitConf r)]:=by
  have hΓ:=@g0 (Contract Try.prog)
  refine callsM_of (Try.f87.body.getD .skip) h00 Try.func87 rfl Try.call87 (Nat.le_of_ble_eq_true rfl) (Nat.le_of_ble_eq_true rfl) ?_
  unfold slices_reverseRangeCmpFunc_f87_M1 at H
  simp only [Try.f87,Option.getD]
  refine rA ?_
  refine rA ?_
  refine Sm.block ?_
  obtain ⟨y3,hy3,Ho3⟩:=bind_some H
  refine Sm.loopB _ (fun x=>slices_reverseRangeCmpFunc_f87_M1_t1 x.1 x.2.1 x.2.2) hy3 (wb [some 0]) ?_
  rintro ⟨b0,i,j⟩ z3 H
  try dsimp only at H
  unfold slices_reverseRangeCmpFunc_f87_M1_b1 at H
  refine Sm.st (slices_reverseRangeCmpFunc_f87_M1_t1.eq_1 ..) ?_
  refine Sm.seqK fun K4 hK4=>?_
  refine rA ?_
  refine cnd H (fun h6 H=>?_) (fun h6 H=>?_)
  · refine Sm.skip ?_
    refine hK4 _ ?_
    refine Sm.block ?_
    obtain ⟨⟨hg9,hg10,hg11,hg12,hg13,hg14,hg15,hg16⟩,H⟩:=gd_some H
    refine rD ?_
    refine rA ?_
    refine eA ?_
    refine lf ?_
    exact nx H (wb [some 0])
  refine Sm.exit ?_
  refine lf ?_
  refine lx H fun hyy=>?_
  subst hyy
  have H:=Ho3
  try dsimp only at H
  refine lf ?_
  obtain rfl:=Option.some.inj H
  exact rtM [some 0]
abbrev slices_partialInsertionSortCmpFunc_f88_M1_s1 (b0:List TUnitConf):S:=stB [] [(0,.row 77 (List.map e_TUnitConf b0))]
def slices_partialInsertionSortCmpFunc_f88_M1_k1 (n:Nat) (b0:List TUnitConf):Option (Bool×(List TUnitConf)) :=
  some (false,b0)
abbrev slices_partialInsertionSortCmpFunc_f88_M1_s3 (b0_2:List TUnitConf) (a:Int) (b:Int) (i_1:Int) (j:Int):S:=stB [(0,.own 0 [.int .i64,.int .i64,.str,.int .i64,.int .i64] 0 b0_2.length),(1,.c (.int .i64) (.int a)),(2,.c (.int .i64) (.int b)),(3,.fnb 50 [.unk]),(9,.c (.int .i64) (.int i_1)),(10,.c (.int .i64) (.int j))] [(0,.row 77 (List.map e_TUnitConf b0_2))]
def slices_partialInsertionSortCmpFunc_f88_M1_k3 (n:Nat) (b0_2:List TUnitConf) (a:Int) (b:Int) (i_1:Int) (j:Int):Option (((List TUnitConf)×Int×Int) ⊕ (((Bool×(List TUnitConf)) ⊕ ((List TUnitConf))))) :=
  some (.inl (b0_2,i_1,(IntKind.wrap .i64 (j+1))))
abbrev slices_partialInsertionSortCmpFunc_f88_M1_t6 (a:Int) (b:Int) (i_2:Int) (j:Int) (b0_4:List TUnitConf) (j_1:Int):S:=stB [(0,.own 0 [.int .i64,.int .i64,.str,.int .i64,.int .i64] 0 b0_4.length),(1,.c (.int .i64) (.int a)),(2,.c (.int .i64) (.int b)),(3,.fnb 50 [.unk]),(9,.c (.int .i64) (.int i_2)),(10,.c (.int .i64) (.int j)),(12,.c (.int .i64) (.int j_1))] [(0,.row 77 (List.map e_TUnitConf b0_4))]
def slices_partialInsertionSortCmpFunc_f88_M1_b6 (n:Nat) (a:Int) (b:Int) (i_2:Int) (j:Int) (b0_4:List TUnitConf) (j_1:Int):Option (((List TUnitConf)×Int) ⊕ (((List TUnitConf)))) :=
  bif (decide (j_1 < b)) then
    gd ((0≤j_1∧j_1 < (b0_4.length:Int))∧(Int.toNat j_1) < b0_4.length∧(0≤(IntKind.wrap .i64 (j_1 - 1))∧(IntKind.wrap .i64 (j_1 - 1)) < (b0_4.length:Int))∧(Int.toNat (IntKind.wrap .i64 (j_1 - 1))) < b0_4.length) <|
    (enqueue_pool__byAddr_M1 n (gt b0_4 (Int.toNat j_1)) (gt b0_4 (Int.toNat (IntKind.wrap .i64 (j_1 - 1))))).bind fun r1 =>
    bif (!(decide (r1 < 0))) then
      some (.inr b0_4)
    else
      gd ((0≤(IntKind.wrap .i64 (j_1 - 1))∧(IntKind.wrap .i64 (j_1 - 1)) < (b0_4.length:Int))∧(Int.toNat (IntKind.wrap .i64 (j_1 - 1))) < b0_4.length∧(0≤j_1∧j_1 < (b0_4.length:Int))∧(Int.toNat j_1) < b0_4.length∧(0≤j_1∧j_1 < (b0_4.length:Int))∧(Int.toNat j_1) < b0_4.length∧(0≤(IntKind.wrap .i64 (j_1 - 1))∧(IntKind.wrap .i64 (j_1 - 1)) < (b0_4.length:Int))∧(Int.toNat (IntKind.wrap .i64 (j_1 - 1))) < b0_4.length) <|
      some (.inl ((List.set (List.set b0_4 (Int.toNat j_1) (gt b0_4 (Int.toNat (IntKind.wrap .i64 (j_1 - 1))))) (Int.toNat (IntKind.wrap .i64 (j_1 - 1))) (gt b0_4 (Int.toNat j_1))),(IntKind.wrap .i64 (j_1+1))))
  else
    some (.inr b0_4)
abbrev slices_partialInsertionSortCmpFunc_f88_M1_s5 (b0_3:List TUnitConf) (a:Int) (b:Int) (i_2:Int) (j:Int):S:=stB [(0,.own 0 [.int .i64,.int .i64,.str,.int .i64,.int .i64] 0 b0_3.length),(1,.c (.int .i64) (.int a)),(2,.c (.int .i64) (.int b)),(3,.fnb 50 [.unk]),(9,.c (.int .i64) (.int i_2)),(10,.c (.int .i64) (.int j))] [(0,.row 77 (List.map e_TUnitConf b0_3))]
def slices_partialInsertionSortCmpFunc_f88_M1_k5 (n:Nat) (b0_3:List TUnitConf) (a:Int) (b:Int) (i_2:Int) (j:Int):Option (((List TUnitConf)×Int×Int) ⊕ (((Bool×(List TUnitConf)) ⊕ ((List TUnitConf))))) :=
  bif (decide ((IntKind.wrap .i64 (b - i_2)) ≥ 2)) then
    (loopF (fun (x:(List TUnitConf)×Int)=>slices_partialInsertionSortCmpFunc_f88_M1_b6 n a b i_2 j x.1 x.2) n (b0_3,(IntKind.wrap .i64 (i_2+1)))).bind fun y21 =>
    slices_partialInsertionSortCmpFunc_f88_M1_k3 n y21 a b i_2 j
  else
    slices_partialInsertionSortCmpFunc_f88_M1_k3 n b0_3 a b i_2 j
abbrev slices_partialInsertionSortCmpFunc_f88_M1_t7 (a:Int) (b:Int) (i_2:Int) (j:Int) (b0_5:List TUnitConf) (j_2:Int):S:=stB [(0,.own 0 [.int .i64,.int .i64,.str,.int .i64,.int .i64] 0 b0_5.length),(1,.c (.int .i64) (.int a)),(2,.c (.int .i64) (.int b)),(3,.fnb 50 [.unk]),(9,.c (.int .i64) (.int i_2)),(10,.c (.int .i64) (.int j)),(11,.c (.int .i64) (.int j_2))] [(0,.row 77 (List.map e_TUnitConf b0_5))]
def slices_partialInsertionSortCmpFunc_f88_M1_b7 (n:Nat) (a:Int) (b:Int) (i_2:Int) (j:Int) (b0_5:List TUnitConf) (j_2:Int):Option (((List TUnitConf)×Int) ⊕ (((List TUnitConf)))) :=
  bif (decide (j_2 ≥ 1)) then
    gd ((0≤j_2∧j_2 < (b0_5.length:Int))∧(Int.toNat j_2) < b0_5.length∧(0≤(IntKind.wrap .i64 (j_2 - 1))∧(IntKind.wrap .i64 (j_2 - 1)) < (b0_5.length:Int))∧(Int.toNat (IntKind.wrap .i64 (j_2 - 1))) < b0_5.length) <|
    (enqueue_pool__byAddr_M1 n (gt b0_5 (Int.toNat j_2)) (gt b0_5 (Int.toNat (IntKind.wrap .i64 (j_2 - 1))))).bind fun r2 =>
    bif (!(decide (r2 < 0))) then
      some (.inr b0_5)
    else
      gd ((0≤(IntKind.wrap .i64 (j_2 - 1))∧(IntKind.wrap .i64 (j_2 - 1)) < (b0_5.length:Int))∧(Int.toNat (IntKind.wrap .i64 (j_2 - 1))) < b0_5.length∧(0≤j_2∧j_2 < (b0_5.length:Int))∧(Int.toNat j_2) < b0_5.length∧(0≤j_2∧j_2 < (b0_5.length:Int))∧(Int.toNat j_2) < b0_5.length∧(0≤(IntKind.wrap .i64 (j_2 - 1))∧(IntKind.wrap .i64 (j_2 - 1)) < (b0_5.length:Int))∧(Int.toNat (IntKind.wrap .i64 (j_2 - 1))) < b0_5.length) <|
      some (.inl ((List.set (List.set b0_5 (Int.toNat j_2) (gt b0_5 (Int.toNat (IntKind.wrap .i64 (j_2 - 1))))) (Int.toNat (IntKind.wrap .i64 (j_2 - 1))) (gt b0_5 (Int.toNat j_2))),(IntKind.wrap .i64 (j_2 - 1))))
  else
    some (.inr b0_5)
abbrev slices_partialInsertionSortCmpFunc_f88_M1_s4 (b0_1:List TUnitConf) (a:Int) (b:Int) (i_2:Int) (j:Int):S:=stB [(0,.own 0 [.int .i64,.int .i64,.str,.int .i64,.int .i64] 0 b0_1.length),(1,.c (.int .i64) (.int a)),(2,.c (.int .i64) (.int b)),(3,.fnb 50 [.unk]),(9,.c (.int .i64) (.int i_2)),(10,.c (.int .i64) (.int j))] [(0,.row 77 (List.map e_TUnitConf b0_1))]
def slices_partialInsertionSortCmpFunc_f88_M1_k4 (n:Nat) (b0_1:List TUnitConf) (a:Int) (b:Int) (i_2:Int) (j:Int):Option (((List TUnitConf)×Int×Int) ⊕ (((Bool×(List TUnitConf)) ⊕ ((List TUnitConf))))) :=
  bif (i_2 == b) then
    some (.inr (.inl (true,b0_1)))
  else
    bif (decide ((IntKind.wrap .i64 (b - a)) < 50)) then
      some (.inr (.inl (false,b0_1)))
    else
      gd ((0≤(IntKind.wrap .i64 (i_2 - 1))∧(IntKind.wrap .i64 (i_2 - 1)) < (b0_1.length:Int))∧(Int.toNat (IntKind.wrap .i64 (i_2 - 1))) < b0_1.length∧(0≤i_2∧i_2 < (b0_1.length:Int))∧(Int.toNat i_2) < b0_1.length∧(0≤i_2∧i_2 < (b0_1.length:Int))∧(Int.toNat i_2) < b0_1.length∧(0≤(IntKind.wrap .i64 (i_2 - 1))∧(IntKind.wrap .i64 (i_2 - 1)) < (b0_1.length:Int))∧(Int.toNat (IntKind.wrap .i64 (i_2 - 1))) < b0_1.length) <|
      bif (decide ((IntKind.wrap .i64 (i_2 - a)) ≥ 2)) then
        (loopF (fun (x:(List TUnitConf)×Int)=>slices_partialInsertionSortCmpFunc_f88_M1_b7 n a b i_2 j x.1 x.2) n ((List.set (List.set b0_1 (Int.toNat i_2) (gt b0_1 (Int.toNat (IntKind.wrap .i64 (i_2 - 1))))) (Int.toNat (IntKind.wrap .i64 (i_2 - 1))) (gt b0_1 (Int.toNat i_2))),(IntKind.wrap .i64 (i_2 - 1)))).bind fun y44 =>
        slices_partialInsertionSortCmpFunc_f88_M1_k5 n y44 a b i_2 j
      else
        slices_partialInsertionSortCmpFunc_f88_M1_k5 n (List.set (List.set b0_1 (Int.toNat i_2) (gt b0_1 (Int.toNat (IntKind.wrap .i64 (i_2 - 1))))) (Int.toNat (IntKind.wrap .i64 (i_2 - 1))) (gt b0_1 (Int.toNat i_2))) a b i_2 j
abbrev slices_partialInsertionSortCmpFunc_f88_M1_t8 (b0_1:List TUnitConf) (a:Int) (b:Int) (j:Int) (i_3:Int):S:=stB [(0,.own 0 [.int .i64,.int .i64,.str,.int .i64,.int .i64] 0 b0_1.length),(1,.c (.int .i64) (.int a)),(2,.c (.int .i64) (.int b)),(3,.fnb 50 [.unk]),(9,.c (.int .i64) (.int i_3)),(10,.c (.int .i64) (.int j))] [(0,.row 77 (List.map e_TUnitConf b0_1))]
def slices_partialInsertionSortCmpFunc_f88_M1_b8 (n:Nat) (b0_1:List TUnitConf) (a:Int) (b:Int) (j:Int) (i_3:Int):Option ((Int) ⊕ ((Int))) :=
  gd (((decide (i_3 < b))=true→(0≤i_3∧i_3 < (b0_1.length:Int)))∧((decide (i_3 < b))=true→(Int.toNat i_3) < b0_1.length)∧((decide (i_3 < b))=true→(0≤(IntKind.wrap .i64 (i_3 - 1))∧(IntKind.wrap .i64 (i_3 - 1)) < (b0_1.length:Int)))∧((decide (i_3 < b))=true→(Int.toNat (IntKind.wrap .i64 (i_3 - 1))) < b0_1.length)) <|
  bif (decide (i_3 < b)) then
    gd ((decide (i_3 < b))=true) <|
    (enqueue_pool__byAddr_M1 n (gt b0_1 (Int.toNat i_3)) (gt b0_1 (Int.toNat (IntKind.wrap .i64 (i_3 - 1))))).bind fun r3 =>
    bif (!(decide (r3 < 0))) then
      some (.inl (IntKind.wrap .i64 (i_3+1)))
    else
      some (.inr i_3)
  else
    some (.inr i_3)
abbrev slices_partialInsertionSortCmpFunc_f88_M1_t2 (a:Int) (b:Int) (b0_1:List TUnitConf) (i:Int) (j:Int):S:=stB [(0,.own 0 [.int .i64,.int .i64,.str,.int .i64,.int .i64] 0 b0_1.length),(1,.c (.int .i64) (.int a)),(2,.c (.int .i64) (.int b)),(3,.fnb 50 [.unk]),(9,.c (.int .i64) (.int i)),(10,.c (.int .i64) (.int j))] [(0,.row 77 (List.map e_TUnitConf b0_1))]
def slices_partialInsertionSortCmpFunc_f88_M1_b2 (n:Nat) (a:Int) (b:Int) (b0_1:List TUnitConf) (i:Int) (j:Int):Option (((List TUnitConf)×Int×Int) ⊕ (((Bool×(List TUnitConf)) ⊕ ((List TUnitConf))))) :=
  bif (decide (j < 5)) then
    (loopF (fun (x:Int)=>slices_partialInsertionSortCmpFunc_f88_M1_b8 n b0_1 a b j x) n i).bind fun y72 =>
    slices_partialInsertionSortCmpFunc_f88_M1_k4 n b0_1 a b y72 j
  else
    some (.inr (.inr b0_1))
def slices_partialInsertionSortCmpFunc_f88_M1 (n:Nat) (data:List TUnitConf) (a:Int) (b:Int):Option (Bool×(List TUnitConf)) :=
  (loopF (fun (x:(List TUnitConf)×Int×Int)=>slices_partialInsertionSortCmpFunc_f88_M1_b2 n a b x.1 x.2.1 x.2.2) n (data,(IntKind.wrap .i64 (a+1)),0)).bind fun y5 =>
  match y5 with
  | .inl vv =>
    some (vv.1,vv.2)
  | .inr vv =>
    slices_partialInsertionSortCmpFunc_f88_M1_k1 n vv
theorem cslices_partialInsertionSortCmpFunc_f88_M1 (n:Nat) (data:List TUnitConf) (a:Int) (b:Int) (r:Bool×(List TUnitConf)) (H:slices_partialInsertionSortCmpFunc_f88_M1 n data a b=some r):CallsM Try.prog 88 [.ref (.own 0 [.int .i64,.int .i64,.str,.int .i64,.int .i64] 0 data.length),.dat (false,[.int .i64]) [.int a],.dat (false,[.int .i64]) [.int b],.ref (.fnb 50 [.unk])] [.row 77 (List.map e_TUnitConf data)] [.c .bool (.bool r.1)] [.row 77 (List.map e_TUnitConf r.2)]:=by
  have hΓ:=@g0 (Contract Try.prog)
  refine callsM_of (Try.f88.body.getD .skip) h00 Try.func88 rfl Try.call88 (Nat.le_of_ble_eq_true rfl) (Nat.le_of_ble_eq_true rfl) ?_
  unfold slices_partialInsertionSortCmpFunc_f88_M1 at H
  simp only [Try.f88,Option.getD]
  refine rA ?_
  refine rA ?_
  refine Sm.cut (fun (x:(List TUnitConf))=>slices_partialInsertionSortCmpFunc_f88_M1_s1 x) (fun x=>slices_partialInsertionSortCmpFunc_f88_M1_k1 n x=some r) ?_ ?_
  · refine rA ?_
    refine Sm.block ?_
    obtain ⟨y5,hy5,Ho5⟩:=bind_some H
    refine Sm.loopB _ (fun x=>slices_partialInsertionSortCmpFunc_f88_M1_t2 a b x.1 x.2.1 x.2.2) hy5 (wb [some 0]) ?_
    rintro ⟨b0_1,i,j⟩ z5 H
    try dsimp only at H
    unfold slices_partialInsertionSortCmpFunc_f88_M1_b2 at H
    refine Sm.st (slices_partialInsertionSortCmpFunc_f88_M1_t2.eq_1 ..) ?_
    refine Sm.seqK fun K6 hK6=>?_
    refine rA ?_
    refine cnd H (fun h8 H=>?_) (fun h8 H=>?_)
    · refine Sm.skip ?_
      refine hK6 _ ?_
      refine Sm.cut (fun (x:(List TUnitConf)×Int)=>slices_partialInsertionSortCmpFunc_f88_M1_s3 x.1 a b x.2 j) (fun x=>slices_partialInsertionSortCmpFunc_f88_M1_k3 n x.1 a b x.2 j=some z5) ?_ ?_
      · refine Sm.block ?_
        refine Sm.cut (fun (x:Int)=>slices_partialInsertionSortCmpFunc_f88_M1_s4 b0_1 a b x j) (fun x=>slices_partialInsertionSortCmpFunc_f88_M1_k4 n b0_1 a b x j=some z5) ?_ ?_
        · refine Sm.block ?_
          obtain ⟨y72,hy72,Ho72⟩:=bind_some H
          refine Sm.loopB _ (fun x=>slices_partialInsertionSortCmpFunc_f88_M1_t8 b0_1 a b j x) hy72 (wb [some 0]) ?_
          rintro i_3 z72 H
          try dsimp only at H
          unfold slices_partialInsertionSortCmpFunc_f88_M1_b8 at H
          refine Sm.st (slices_partialInsertionSortCmpFunc_f88_M1_t8.eq_1 ..) ?_
          refine Sm.seqK fun K73 hK73=>?_
          obtain ⟨⟨hg75,hg76,hg77,hg78⟩,H⟩:=gd_some H
          refine bif_cases H (fun hs79 H=>?_) (fun hs79 H=>?_)
          · try simp only [hs79,Bool.not_false,Bool.not_true,Bool.false_eq_true,true_implies,false_implies,forall_const] at hg75
            try simp only [hs79,Bool.not_false,Bool.not_true,Bool.false_eq_true,true_implies,false_implies,forall_const] at hg76
            try simp only [hs79,Bool.not_false,Bool.not_true,Bool.false_eq_true,true_implies,false_implies,forall_const] at hg77
            try simp only [hs79,Bool.not_false,Bool.not_true,Bool.false_eq_true,true_implies,false_implies,forall_const] at hg78
            obtain ⟨hg80,H⟩:=gd_some H
            obtain ⟨r3,hr3,H⟩:=bind_some H
            refine sE [0,1,2,3,4,5,6,7,8,9,10,11,12,13,14,15,16,17] [(none,[],[]),(none,[],[]),(none,[],[]),(none,[],[]),(none,[],[]),(none,[],[]),(none,[],[]),(none,[0],[]),(none,[0],[]),(none,[],[]),(none,[],[]),(none,[],[]),(none,[0],[]),(none,[0],[]),(none,[],[]),(some true,[],[]),(some true,[],[]),(some true,[],[])] [(14,(⟨_,_,_,_,_,[],[],cenqueue_pool__byAddr_M1 n _ _ r3 hr3⟩:MT Try.prog))] fun K74 hK74=>?_
            have q:=And.intro hs79 hr3
            iterate 14 refine eQq ?_
            refine eB ?_
            iterate 3 refine eQq ?_
            refine opsE0 ?_
            refine hK74 _ ?_
            refine cnd H (fun h81 H=>?_) (fun h81 H=>?_)
            · refine Sm.skip ?_
              refine hK73 _ ?_
              refine Sm.block ?_
              refine eA ?_
              refine lf ?_
              exact nx H (wb [some 0])
            refine Sm.exit ?_
            refine lf ?_
            refine lx H fun hyy=>?_
            subst hyy
            have H:=Ho72
            try dsimp only at H
            refine lf ?_
            exact ⟨_,H,wb [some 0]⟩
          try simp only [hs79,Bool.not_false,Bool.not_true,Bool.false_eq_true,true_implies,false_implies,forall_const] at hg75
          try simp only [hs79,Bool.not_false,Bool.not_true,Bool.false_eq_true,true_implies,false_implies,forall_const] at hg76
          try simp only [hs79,Bool.not_false,Bool.not_true,Bool.false_eq_true,true_implies,false_implies,forall_const] at hg77
          try simp only [hs79,Bool.not_false,Bool.not_true,Bool.false_eq_true,true_implies,false_implies,forall_const] at hg78
          refine sQ [0,1,2,3,4,5,6,7,8,9,10,11,12,13,14,15,16,17] [(none,[],[]),(none,[],[]),(none,[],[]),(none,[],[]),(none,[],[]),(none,[],[]),(none,[],[]),(none,[0],[]),(none,[0],[]),(none,[],[]),(none,[],[]),(none,[],[]),(none,[0],[]),(none,[0],[]),(some false,[],[]),(some false,[],[]),(some false,[],[]),(some false,[],[])] fun K74 hK74=>?_
          have q:=hs79
          iterate 18 refine oQq ?_
          refine opsQ0 ?_
          refine hK74 _ ?_
          refine cndF ?_
          refine Sm.exit ?_
          refine lf ?_
          refine lx H fun hyy=>?_
          subst hyy
          have H:=Ho72
          try dsimp only at H
          refine lf ?_
          exact ⟨_,H,wb [some 0]⟩
        rintro i_2 H
        try dsimp only at H
        unfold slices_partialInsertionSortCmpFunc_f88_M1_k4 at H
        refine Sm.st (slices_partialInsertionSortCmpFunc_f88_M1_s4.eq_1 ..) ?_
        refine Sm.seqK fun K9 hK9=>?_
        refine rA ?_
        refine cnd H (fun h11 H=>?_) (fun h11 H=>?_)
        · refine rA ?_
          refine Sm.ret ?_
          refine lf ?_
          refine lx H fun hyy=>?_
          subst hyy
          have H:=Ho5
          try dsimp only at H
          refine lf ?_
          obtain rfl:=Option.some.inj H
          exact rtM [some 0]
        refine Sm.skip ?_
        refine hK9 _ ?_
        refine Sm.seqK fun K13 hK13=>?_
        refine rA ?_
        refine cnd H (fun h15 H=>?_) (fun h15 H=>?_)
        · refine rA ?_
          refine Sm.ret ?_
          refine lf ?_
          refine lx H fun hyy=>?_
          subst hyy
          have H:=Ho5
          try dsimp only at H
          refine lf ?_
          obtain rfl:=Option.some.inj H
          exact rtM [some 0]
        refine Sm.skip ?_
        refine hK13 _ ?_
        obtain ⟨⟨hg64,hg65,hg66,hg67,hg68,hg69,hg70,hg71⟩,H⟩:=gd_some H
        refine rD ?_
        refine Sm.cut (fun (x:(List TUnitConf))=>slices_partialInsertionSortCmpFunc_f88_M1_s5 x a b i_2 j) (fun x=>slices_partialInsertionSortCmpFunc_f88_M1_k5 n x a b i_2 j=some z5) ?_ ?_
        · refine rA ?_
          refine cnd H (fun h42 H=>?_) (fun h42 H=>?_)
          · refine rA ?_
            refine Sm.block ?_
            obtain ⟨y44,hy44,Ho44⟩:=bind_some H
            refine Sm.loopB _ (fun x=>slices_partialInsertionSortCmpFunc_f88_M1_t7 a b i_2 j x.1 x.2) hy44 (wb [some 0]) ?_
            rintro ⟨b0_5,j_2⟩ z44 H
            try dsimp only at H
            unfold slices_partialInsertionSortCmpFunc_f88_M1_b7 at H
            refine Sm.st (slices_partialInsertionSortCmpFunc_f88_M1_t7.eq_1 ..) ?_
            refine Sm.seqK fun K45 hK45=>?_
            refine rA ?_
            refine cnd H (fun h47 H=>?_) (fun h47 H=>?_)
            · refine Sm.skip ?_
              refine hK45 _ ?_
              refine Sm.seqK fun K48 hK48=>?_
              refine Sm.block ?_
              refine Sm.seqK fun K49 hK49=>?_
              obtain ⟨⟨hg51,hg52,hg53,hg54⟩,H⟩:=gd_some H
              obtain ⟨r2,hr2,H⟩:=bind_some H
              refine sE [0,1,2,3,4,5,6,7,8,9,10,11,12] [(none,[],[]),(none,[],[]),(none,[],[]),(none,[0],[]),(none,[0],[]),(none,[],[]),(none,[],[]),(none,[],[]),(none,[0],[]),(none,[0],[]),(none,[],[]),(none,[],[]),(none,[],[])] [(10,(⟨_,_,_,_,_,[],[],cenqueue_pool__byAddr_M1 n _ _ r2 hr2⟩:MT Try.prog))] fun K50 hK50=>?_
              have q:=hr2
              iterate 10 refine eQq ?_
              refine eB ?_
              iterate 2 refine eQq ?_
              refine opsE0 ?_
              refine hK50 _ ?_
              refine cnd H (fun h55 H=>?_) (fun h55 H=>?_)
              · refine Sm.exit ?_
                refine lf ?_
                refine lx H fun hyy=>?_
                subst hyy
                have H:=Ho44
                try dsimp only at H
                refine lf ?_
                exact ⟨_,H,wb [some 0]⟩
              refine Sm.skip ?_
              refine hK49 _ ?_
              obtain ⟨⟨hg56,hg57,hg58,hg59,hg60,hg61,hg62,hg63⟩,H⟩:=gd_some H
              refine eD ?_
              refine hK48 _ ?_
              refine eA ?_
              refine lf ?_
              exact nx H (wb [some 0])
            refine Sm.exit ?_
            refine lf ?_
            refine lx H fun hyy=>?_
            subst hyy
            have H:=Ho44
            try dsimp only at H
            refine lf ?_
            exact ⟨_,H,wb [some 0]⟩
          refine Sm.skip ?_
          refine lf ?_
          exact ⟨_,H,wb [some 0]⟩
        rintro b0_3 H
        try dsimp only at H
        unfold slices_partialInsertionSortCmpFunc_f88_M1_k5 at H
        refine Sm.st (slices_partialInsertionSortCmpFunc_f88_M1_s5.eq_1 ..) ?_
        refine rA ?_
        refine cnd H (fun h19 H=>?_) (fun h19 H=>?_)
        · refine rA ?_
          refine Sm.block ?_
          obtain ⟨y21,hy21,Ho21⟩:=bind_some H
          refine Sm.loopB _ (fun x=>slices_partialInsertionSortCmpFunc_f88_M1_t6 a b i_2 j x.1 x.2) hy21 (wb [some 0]) ?_
          rintro ⟨b0_4,j_1⟩ z21 H
          try dsimp only at H
          unfold slices_partialInsertionSortCmpFunc_f88_M1_b6 at H
          refine Sm.st (slices_partialInsertionSortCmpFunc_f88_M1_t6.eq_1 ..) ?_
          refine Sm.seqK fun K22 hK22=>?_
          refine rA ?_
          refine cnd H (fun h24 H=>?_) (fun h24 H=>?_)
          · refine Sm.skip ?_
            refine hK22 _ ?_
            refine Sm.seqK fun K25 hK25=>?_
            refine Sm.block ?_
            refine Sm.seqK fun K26 hK26=>?_
            obtain ⟨⟨hg28,hg29,hg30,hg31⟩,H⟩:=gd_some H
            obtain ⟨r1,hr1,H⟩:=bind_some H
            refine sE [0,1,2,3,4,5,6,7,8,9,10,11,12] [(none,[],[]),(none,[],[]),(none,[],[]),(none,[0],[]),(none,[0],[]),(none,[],[]),(none,[],[]),(none,[],[]),(none,[0],[]),(none,[0],[]),(none,[],[]),(none,[],[]),(none,[],[])] [(10,(⟨_,_,_,_,_,[],[],cenqueue_pool__byAddr_M1 n _ _ r1 hr1⟩:MT Try.prog))] fun K27 hK27=>?_
            have q:=hr1
            iterate 10 refine eQq ?_
            refine eB ?_
            iterate 2 refine eQq ?_
            refine opsE0 ?_
            refine hK27 _ ?_
            refine cnd H (fun h32 H=>?_) (fun h32 H=>?_)
            · refine Sm.exit ?_
              refine lf ?_
              refine lx H fun hyy=>?_
              subst hyy
              have H:=Ho21
              try dsimp only at H
              refine lf ?_
              exact ⟨(b0_4,i_2),H,wb [some 0]⟩
            refine Sm.skip ?_
            refine hK26 _ ?_
            obtain ⟨⟨hg33,hg34,hg35,hg36,hg37,hg38,hg39,hg40⟩,H⟩:=gd_some H
            refine eD ?_
            refine hK25 _ ?_
            refine eA ?_
            refine lf ?_
            exact nx H (wb [some 0])
          refine Sm.exit ?_
          refine lf ?_
          refine lx H fun hyy=>?_
          subst hyy
          have H:=Ho21
          try dsimp only at H
          refine lf ?_
          exact ⟨(b0_4,i_2),H,wb [some 0]⟩
        refine Sm.skip ?_
        refine lf ?_
        exact ⟨(b0_3,i_2),H,wb [some 0]⟩
      rintro ⟨b0_2,i_1⟩ H
      try dsimp only at H
      unfold slices_partialInsertionSortCmpFunc_f88_M1_k3 at H
      refine Sm.st (slices_partialInsertionSortCmpFunc_f88_M1_s3.eq_1 ..) ?_
      refine eA ?_
      refine lf ?_
      exact nx H (wb [some 0])
    refine Sm.exit ?_
    refine lf ?_
    refine lx H fun hyy=>?_
    subst hyy
    have H:=Ho5
    try dsimp only at H
    refine lf ?_
    exact ⟨_,H,wb [some 0]⟩
  rintro b0 H
  try dsimp only at H
  unfold slices_partialInsertionSortCmpFunc_f88_M1_k1 at H
  refine Sm.st (slices_partialInsertionSortCmpFunc_f88_M1_s1.eq_1 ..) ?_
  refine rA ?_
  refine Sm.ret ?_
  refine lf ?_
  obtain rfl:=Option.some.inj H
  exact rtM [some 0]
abbrev slices_partitionEqualCmpFunc_f89_M1_s1 (b0:List TUnitConf) (i_1:Int):S:=stB [(11,.c (.int .i64) (.int i_1))] [(0,.row 77 (List.map e_TUnitConf b0))]
def slices_partitionEqualCmpFunc_f89_M1_k1 (n:Nat) (b0:List TUnitConf) (i_1:Int):Option (Int×(List TUnitConf)) :=
  some (i_1,b0)
abbrev slices_partitionEqualCmpFunc_f89_M1_s4 (b0_1:List TUnitConf) (a:Int) (i_2:Int) (j_1:Int):S:=stB [(0,.own 0 [.int .i64,.int .i64,.str,.int .i64,.int .i64] 0 b0_1.length),(1,.c (.int .i64) (.int a)),(4,.fnb 50 [.unk]),(11,.c (.int .i64) (.int i_2)),(12,.c (.int .i64) (.int j_1))] [(0,.row 77 (List.map e_TUnitConf b0_1))]
def slices_partitionEqualCmpFunc_f89_M1_k4 (n:Nat) (b0_1:List TUnitConf) (a:Int) (i_2:Int) (j_1:Int):Option (((List TUnitConf)×Int×Int) ⊕ (((List TUnitConf)×Int))) :=
  bif (decide (i_2 > j_1)) then
    some (.inr (b0_1,i_2))
  else
    gd ((0≤j_1∧j_1 < (b0_1.length:Int))∧(Int.toNat j_1) < b0_1.length∧(0≤i_2∧i_2 < (b0_1.length:Int))∧(Int.toNat i_2) < b0_1.length∧(0≤i_2∧i_2 < (b0_1.length:Int))∧(Int.toNat i_2) < b0_1.length∧(0≤j_1∧j_1 < (b0_1.length:Int))∧(Int.toNat j_1) < b0_1.length) <|
    some (.inl ((List.set (List.set b0_1 (Int.toNat i_2) (gt b0_1 (Int.toNat j_1))) (Int.toNat j_1) (gt b0_1 (Int.toNat i_2))),(IntKind.wrap .i64 (i_2+1)),(IntKind.wrap .i64 (j_1 - 1))))
abbrev slices_partitionEqualCmpFunc_f89_M1_t5 (b0_1:List TUnitConf) (a:Int) (i_2:Int) (j_2:Int):S:=stB [(0,.own 0 [.int .i64,.int .i64,.str,.int .i64,.int .i64] 0 b0_1.length),(1,.c (.int .i64) (.int a)),(4,.fnb 50 [.unk]),(11,.c (.int .i64) (.int i_2)),(12,.c (.int .i64) (.int j_2))] [(0,.row 77 (List.map e_TUnitConf b0_1))]
def slices_partitionEqualCmpFunc_f89_M1_b5 (n:Nat) (b0_1:List TUnitConf) (a:Int) (i_2:Int) (j_2:Int):Option ((Int) ⊕ ((Int))) :=
  gd (((decide (i_2≤j_2))=true→(0≤a∧a < (b0_1.length:Int)))∧((decide (i_2≤j_2))=true→(Int.toNat a) < b0_1.length)∧((decide (i_2≤j_2))=true→(0≤j_2∧j_2 < (b0_1.length:Int)))∧((decide (i_2≤j_2))=true→(Int.toNat j_2) < b0_1.length)) <|
  bif (decide (i_2≤j_2)) then
    gd ((decide (i_2≤j_2))=true) <|
    (enqueue_pool__byAddr_M1 n (gt b0_1 (Int.toNat a)) (gt b0_1 (Int.toNat j_2))).bind fun r1 =>
    bif (decide (r1 < 0)) then
      some (.inl (IntKind.wrap .i64 (j_2 - 1)))
    else
      some (.inr j_2)
  else
    some (.inr j_2)
abbrev slices_partitionEqualCmpFunc_f89_M1_s3 (b0_1:List TUnitConf) (a:Int) (i_2:Int) (j:Int):S:=stB [(0,.own 0 [.int .i64,.int .i64,.str,.int .i64,.int .i64] 0 b0_1.length),(1,.c (.int .i64) (.int a)),(4,.fnb 50 [.unk]),(11,.c (.int .i64) (.int i_2)),(12,.c (.int .i64) (.int j))] [(0,.row 77 (List.map e_TUnitConf b0_1))]
def slices_partitionEqualCmpFunc_f89_M1_k3 (n:Nat) (b0_1:List TUnitConf) (a:Int) (i_2:Int) (j:Int):Option (((List TUnitConf)×Int×Int) ⊕ (((List TUnitConf)×Int))) :=
  (loopF (fun (x:Int)=>slices_partitionEqualCmpFunc_f89_M1_b5 n b0_1 a i_2 x) n j).bind fun y19 =>
  slices_partitionEqualCmpFunc_f89_M1_k4 n b0_1 a i_2 y19
abbrev slices_partitionEqualCmpFunc_f89_M1_t6 (b0_1:List TUnitConf) (a:Int) (j:Int) (i_3:Int):S:=stB [(0,.own 0 [.int .i64,.int .i64,.str,.int .i64,.int .i64] 0 b0_1.length),(1,.c (.int .i64) (.int a)),(4,.fnb 50 [.unk]),(11,.c (.int .i64) (.int i_3)),(12,.c (.int .i64) (.int j))] [(0,.row 77 (List.map e_TUnitConf b0_1))]
def slices_partitionEqualCmpFunc_f89_M1_b6 (n:Nat) (b0_1:List TUnitConf) (a:Int) (j:Int) (i_3:Int):Option ((Int) ⊕ ((Int))) :=
  gd (((decide (i_3≤j))=true→(0≤a∧a < (b0_1.length:Int)))∧((decide (i_3≤j))=true→(Int.toNat a) < b0_1.length)∧((decide (i_3≤j))=true→(0≤i_3∧i_3 < (b0_1.length:Int)))∧((decide (i_3≤j))=true→(Int.toNat i_3) < b0_1.length)) <|
  bif (decide (i_3≤j)) then
    gd ((decide (i_3≤j))=true) <|
    (enqueue_pool__byAddr_M1 n (gt b0_1 (Int.toNat a)) (gt b0_1 (Int.toNat i_3))).bind fun r2 =>
    bif (!(decide (r2 < 0))) then
      some (.inl (IntKind.wrap .i64 (i_3+1)))
    else
      some (.inr i_3)
  else
    some (.inr i_3)
abbrev slices_partitionEqualCmpFunc_f89_M1_t2 (a:Int) (b0_1:List TUnitConf) (i:Int) (j:Int):S:=stB [(0,.own 0 [.int .i64,.int .i64,.str,.int .i64,.int .i64] 0 b0_1.length),(1,.c (.int .i64) (.int a)),(4,.fnb 50 [.unk]),(11,.c (.int .i64) (.int i)),(12,.c (.int .i64) (.int j))] [(0,.row 77 (List.map e_TUnitConf b0_1))]
def slices_partitionEqualCmpFunc_f89_M1_b2 (n:Nat) (a:Int) (b0_1:List TUnitConf) (i:Int) (j:Int):Option (((List TUnitConf)×Int×Int) ⊕ (((List TUnitConf)×Int))) :=
  (loopF (fun (x:Int)=>slices_partitionEqualCmpFunc_f89_M1_b6 n b0_1 a j x) n i).bind fun y30 =>
  slices_partitionEqualCmpFunc_f89_M1_k3 n b0_1 a y30 j
def slices_partitionEqualCmpFunc_f89_M1 (n:Nat) (data:List TUnitConf) (a:Int) (b:Int) (pivot:Int):Option (Int×(List TUnitConf)) :=
  gd ((0≤pivot∧pivot < (data.length:Int))∧(Int.toNat pivot) < data.length∧(0≤a∧a < (data.length:Int))∧(Int.toNat a) < data.length∧(0≤a∧a < (data.length:Int))∧(Int.toNat a) < data.length∧(0≤pivot∧pivot < (data.length:Int))∧(Int.toNat pivot) < data.length) <|
  (loopF (fun (x:(List TUnitConf)×Int×Int)=>slices_partitionEqualCmpFunc_f89_M1_b2 n a x.1 x.2.1 x.2.2) n ((List.set (List.set data (Int.toNat a) (gt data (Int.toNat pivot))) (Int.toNat pivot) (gt data (Int.toNat a))),(IntKind.wrap .i64 (a+1)),(IntKind.wrap .i64 (b - 1)))).bind fun y5 =>
  slices_partitionEqualCmpFunc_f89_M1_k1 n y5.1 y5.2
theorem cslices_partitionEqualCmpFunc_f89_M1 (n:Nat) (data:List TUnitConf) (a:Int) (b:Int) (pivot:Int) (r:Int×(List TUnitConf)) (H:slices_partitionEqualCmpFunc_f89_M1 n data a b pivot=some r):CallsM Try.prog 89 [.ref (.own 0 [.int .i64,.int .i64,.str,.int .i64,.int .i64] 0 data.length),.dat (false,[.int .i64]) [.int a],.dat (false,[.int .i64]) [.int b],.dat (false,[.int .i64]) [.int pivot],.ref (.fnb 50 [.unk])] [.row 77 (List.map e_TUnitConf data)] [.c (.int .i64) (.int r.1)] [.row 77 (List.map e_TUnitConf r.2)]:=by
  have hΓ:=@g0 (Contract Try.prog)
  refine callsM_of (Try.f89.body.getD .skip) h00 Try.func89 rfl Try.call89 (Nat.le_of_ble_eq_true rfl) (Nat.le_of_ble_eq_true rfl) ?_
  unfold slices_partitionEqualCmpFunc_f89_M1 at H
  simp only [Try.f89,Option.getD]
  refine rA ?_
  obtain ⟨⟨hg41,hg42,hg43,hg44,hg45,hg46,hg47,hg48⟩,H⟩:=gd_some H
  refine rD ?_
  refine rA ?_
  refine Sm.cut (fun (x:(List TUnitConf)×Int)=>slices_partitionEqualCmpFunc_f89_M1_s1 x.1 x.2) (fun x=>slices_partitionEqualCmpFunc_f89_M1_k1 n x.1 x.2=some r) ?_ ?_
  · refine Sm.block ?_
    obtain ⟨y5,hy5,Ho5⟩:=bind_some H
    refine Sm.loopB _ (fun x=>slices_partitionEqualCmpFunc_f89_M1_t2 a x.1 x.2.1 x.2.2) hy5 (wb [some 0]) ?_
    rintro ⟨b0_1,i,j⟩ z5 H
    try dsimp only at H
    unfold slices_partitionEqualCmpFunc_f89_M1_b2 at H
    refine Sm.st (slices_partitionEqualCmpFunc_f89_M1_t2.eq_1 ..) ?_
    refine Sm.block ?_
    refine Sm.cut (fun (x:Int)=>slices_partitionEqualCmpFunc_f89_M1_s3 b0_1 a x j) (fun x=>slices_partitionEqualCmpFunc_f89_M1_k3 n b0_1 a x j=some z5) ?_ ?_
    · refine Sm.block ?_
      obtain ⟨y30,hy30,Ho30⟩:=bind_some H
      refine Sm.loopB _ (fun x=>slices_partitionEqualCmpFunc_f89_M1_t6 b0_1 a j x) hy30 (wb [some 0]) ?_
      rintro i_3 z30 H
      try dsimp only at H
      unfold slices_partitionEqualCmpFunc_f89_M1_b6 at H
      refine Sm.st (slices_partitionEqualCmpFunc_f89_M1_t6.eq_1 ..) ?_
      refine Sm.seqK fun K31 hK31=>?_
      obtain ⟨⟨hg33,hg34,hg35,hg36⟩,H⟩:=gd_some H
      refine bif_cases H (fun hs37 H=>?_) (fun hs37 H=>?_)
      · try simp only [hs37,Bool.not_false,Bool.not_true,Bool.false_eq_true,true_implies,false_implies,forall_const] at hg33
        try simp only [hs37,Bool.not_false,Bool.not_true,Bool.false_eq_true,true_implies,false_implies,forall_const] at hg34
        try simp only [hs37,Bool.not_false,Bool.not_true,Bool.false_eq_true,true_implies,false_implies,forall_const] at hg35
        try simp only [hs37,Bool.not_false,Bool.not_true,Bool.false_eq_true,true_implies,false_implies,forall_const] at hg36
        obtain ⟨hg38,H⟩:=gd_some H
        obtain ⟨r2,hr2,H⟩:=bind_some H
        refine sE [0,1,2,3,4,5,6,7,8,9,10,11,12,13,14,15,16] [(none,[],[]),(none,[],[]),(none,[],[]),(none,[],[]),(none,[],[]),(none,[],[]),(none,[],[]),(none,[0],[]),(none,[0],[]),(none,[],[]),(none,[],[]),(none,[0],[]),(none,[0],[]),(none,[],[]),(some true,[],[]),(some true,[],[]),(some true,[],[])] [(13,(⟨_,_,_,_,_,[],[],cenqueue_pool__byAddr_M1 n _ _ r2 hr2⟩:MT Try.prog))] fun K32 hK32=>?_
        have q:=And.intro hs37 hr2
        iterate 13 refine eQq ?_
        refine eB ?_
        iterate 3 refine eQq ?_
        refine opsE0 ?_
        refine hK32 _ ?_
        refine cnd H (fun h39 H=>?_) (fun h39 H=>?_)
        · refine Sm.skip ?_
          refine hK31 _ ?_
          refine Sm.block ?_
          refine eA ?_
          refine lf ?_
          exact nx H (wb [some 0])
        refine Sm.exit ?_
        refine lf ?_
        refine lx H fun hyy=>?_
        subst hyy
        have H:=Ho30
        try dsimp only at H
        refine lf ?_
        exact ⟨_,H,wb [some 0]⟩
      try simp only [hs37,Bool.not_false,Bool.not_true,Bool.false_eq_true,true_implies,false_implies,forall_const] at hg33
      try simp only [hs37,Bool.not_false,Bool.not_true,Bool.false_eq_true,true_implies,false_implies,forall_const] at hg34
      try simp only [hs37,Bool.not_false,Bool.not_true,Bool.false_eq_true,true_implies,false_implies,forall_const] at hg35
      try simp only [hs37,Bool.not_false,Bool.not_true,Bool.false_eq_true,true_implies,false_implies,forall_const] at hg36
      refine sQ [0,1,2,3,4,5,6,7,8,9,10,11,12,13,14,15,16] [(none,[],[]),(none,[],[]),(none,[],[]),(none,[],[]),(none,[],[]),(none,[],[]),(none,[],[]),(none,[0],[]),(none,[0],[]),(none,[],[]),(none,[],[]),(none,[0],[]),(none,[0],[]),(some false,[],[]),(some false,[],[]),(some false,[],[]),(some false,[],[])] fun K32 hK32=>?_
      have q:=hs37
      iterate 17 refine oQq ?_
      refine opsQ0 ?_
      refine hK32 _ ?_
      refine cndF ?_
      refine Sm.exit ?_
      refine lf ?_
      refine lx H fun hyy=>?_
      subst hyy
      have H:=Ho30
      try dsimp only at H
      refine lf ?_
      exact ⟨_,H,wb [some 0]⟩
    rintro i_2 H
    try dsimp only at H
    unfold slices_partitionEqualCmpFunc_f89_M1_k3 at H
    refine Sm.st (slices_partitionEqualCmpFunc_f89_M1_s3.eq_1 ..) ?_
    refine Sm.cut (fun (x:Int)=>slices_partitionEqualCmpFunc_f89_M1_s4 b0_1 a i_2 x) (fun x=>slices_partitionEqualCmpFunc_f89_M1_k4 n b0_1 a i_2 x=some z5) ?_ ?_
    · refine Sm.block ?_
      obtain ⟨y19,hy19,Ho19⟩:=bind_some H
      refine Sm.loopB _ (fun x=>slices_partitionEqualCmpFunc_f89_M1_t5 b0_1 a i_2 x) hy19 (wb [some 0]) ?_
      rintro j_2 z19 H
      try dsimp only at H
      unfold slices_partitionEqualCmpFunc_f89_M1_b5 at H
      refine Sm.st (slices_partitionEqualCmpFunc_f89_M1_t5.eq_1 ..) ?_
      refine Sm.seqK fun K20 hK20=>?_
      obtain ⟨⟨hg22,hg23,hg24,hg25⟩,H⟩:=gd_some H
      refine bif_cases H (fun hs26 H=>?_) (fun hs26 H=>?_)
      · try simp only [hs26,Bool.not_false,Bool.not_true,Bool.false_eq_true,true_implies,false_implies,forall_const] at hg22
        try simp only [hs26,Bool.not_false,Bool.not_true,Bool.false_eq_true,true_implies,false_implies,forall_const] at hg23
        try simp only [hs26,Bool.not_false,Bool.not_true,Bool.false_eq_true,true_implies,false_implies,forall_const] at hg24
        try simp only [hs26,Bool.not_false,Bool.not_true,Bool.false_eq_true,true_implies,false_implies,forall_const] at hg25
        obtain ⟨hg27,H⟩:=gd_some H
        obtain ⟨r1,hr1,H⟩:=bind_some H
        refine sE [0,1,2,3,4,5,6,7,8,9,10,11,12,13,14,15] [(none,[],[]),(none,[],[]),(none,[],[]),(none,[],[]),(none,[],[]),(none,[],[]),(none,[],[]),(none,[0],[]),(none,[0],[]),(none,[],[]),(none,[],[]),(none,[0],[]),(none,[0],[]),(none,[],[]),(some true,[],[]),(some true,[],[])] [(13,(⟨_,_,_,_,_,[],[],cenqueue_pool__byAddr_M1 n _ _ r1 hr1⟩:MT Try.prog))] fun K21 hK21=>?_
        have q:=And.intro hs26 hr1
        iterate 13 refine eQq ?_
        refine eB ?_
        iterate 2 refine eQq ?_
        refine opsE0 ?_
        refine hK21 _ ?_
        refine cnd H (fun h28 H=>?_) (fun h28 H=>?_)
        · refine Sm.skip ?_
          refine hK20 _ ?_
          refine Sm.block ?_
          refine eA ?_
          refine lf ?_
          exact nx H (wb [some 0])
        refine Sm.exit ?_
        refine lf ?_
        refine lx H fun hyy=>?_
        subst hyy
        have H:=Ho19
        try dsimp only at H
        refine lf ?_
        exact ⟨_,H,wb [some 0]⟩
      try simp only [hs26,Bool.not_false,Bool.not_true,Bool.false_eq_true,true_implies,false_implies,forall_const] at hg22
      try simp only [hs26,Bool.not_false,Bool.not_true,Bool.false_eq_true,true_implies,false_implies,forall_const] at hg23
      try simp only [hs26,Bool.not_false,Bool.not_true,Bool.false_eq_true,true_implies,false_implies,forall_const] at hg24
      try simp only [hs26,Bool.not_false,Bool.not_true,Bool.false_eq_true,true_implies,false_implies,forall_const] at hg25
      refine sQ [0,1,2,3,4,5,6,7,8,9,10,11,12,13,14,15] [(none,[],[]),(none,[],[]),(none,[],[]),(none,[],[]),(none,[],[]),(none,[],[]),(none,[],[]),(none,[0],[]),(none,[0],[]),(none,[],[]),(none,[],[]),(none,[0],[]),(none,[0],[]),(some false,[],[]),(some false,[],[]),(some false,[],[])] fun K21 hK21=>?_
      have q:=hs26
      iterate 16 refine oQq ?_
      refine opsQ0 ?_
      refine hK21 _ ?_
      refine cndF ?_
      refine Sm.exit ?_
      refine lf ?_
      refine lx H fun hyy=>?_
      subst hyy
      have H:=Ho19
      try dsimp only at H
      refine lf ?_
      exact ⟨_,H,wb [some 0]⟩
    rintro j_1 H
    try dsimp only at H
    unfold slices_partitionEqualCmpFunc_f89_M1_k4 at H
    refine Sm.st (slices_partitionEqualCmpFunc_f89_M1_s4.eq_1 ..) ?_
    refine Sm.seqK fun K6 hK6=>?_
    refine rA ?_
    refine cnd H (fun h8 H=>?_) (fun h8 H=>?_)
    · refine Sm.exit ?_
      refine lf ?_
      refine lx H fun hyy=>?_
      subst hyy
      have H:=Ho5
      try dsimp only at H
      refine lf ?_
      exact ⟨(b0_1,i_2),H,wb [some 0]⟩
    refine Sm.skip ?_
    refine hK6 _ ?_
    obtain ⟨⟨hg11,hg12,hg13,hg14,hg15,hg16,hg17,hg18⟩,H⟩:=gd_some H
    refine rD ?_
    refine rA ?_
    refine eA ?_
    refine lf ?_
    exact nx H (wb [some 0])
  rintro ⟨b0,i_1⟩ H
  try dsimp only at H
  unfold slices_partitionEqualCmpFunc_f89_M1_k1 at H
  refine Sm.st (slices_partitionEqualCmpFunc_f89_M1_s1.eq_1 ..) ?_
  refine rA ?_
  refine Sm.ret ?_
  refine lf ?_
  obtain rfl:=Option.some.inj H
  exact rtM [some 0]
abbrev slices_partitionCmpFunc_f90_M1_s3 (b0_1:List TUnitConf) (a:Int) (j_3:Int):S:=stB [(0,.own 0 [.int .i64,.int .i64,.str,.int .i64,.int .i64] 0 b0_1.length),(1,.c (.int .i64) (.int a)),(13,.c (.int .i64) (.int j_3))] [(0,.row 77 (List.map e_TUnitConf b0_1))]
def slices_partitionCmpFunc_f90_M1_k3 (n:Nat) (b0_1:List TUnitConf) (a:Int) (j_3:Int):Option (Int×Bool×(List TUnitConf)) :=
  gd ((0≤a∧a < (b0_1.length:Int))∧(Int.toNat a) < b0_1.length∧(0≤j_3∧j_3 < (b0_1.length:Int))∧(Int.toNat j_3) < b0_1.length∧(0≤j_3∧j_3 < (b0_1.length:Int))∧(Int.toNat j_3) < b0_1.length∧(0≤a∧a < (b0_1.length:Int))∧(Int.toNat a) < b0_1.length) <|
  some (j_3,false,(List.set (List.set b0_1 (Int.toNat j_3) (gt b0_1 (Int.toNat a))) (Int.toNat a) (gt b0_1 (Int.toNat j_3))))
abbrev slices_partitionCmpFunc_f90_M1_s6 (b0_2:List TUnitConf) (a:Int) (i_2:Int) (j_4:Int):S:=stB [(0,.own 0 [.int .i64,.int .i64,.str,.int .i64,.int .i64] 0 b0_2.length),(1,.c (.int .i64) (.int a)),(4,.fnb 50 [.unk]),(12,.c (.int .i64) (.int i_2)),(13,.c (.int .i64) (.int j_4))] [(0,.row 77 (List.map e_TUnitConf b0_2))]
def slices_partitionCmpFunc_f90_M1_k6 (n:Nat) (b0_2:List TUnitConf) (a:Int) (i_2:Int) (j_4:Int):Option (((List TUnitConf)×Int×Int) ⊕ (((List TUnitConf)×Int))) :=
  bif (decide (i_2 > j_4)) then
    some (.inr (b0_2,j_4))
  else
    gd ((0≤j_4∧j_4 < (b0_2.length:Int))∧(Int.toNat j_4) < b0_2.length∧(0≤i_2∧i_2 < (b0_2.length:Int))∧(Int.toNat i_2) < b0_2.length∧(0≤i_2∧i_2 < (b0_2.length:Int))∧(Int.toNat i_2) < b0_2.length∧(0≤j_4∧j_4 < (b0_2.length:Int))∧(Int.toNat j_4) < b0_2.length) <|
    some (.inl ((List.set (List.set b0_2 (Int.toNat i_2) (gt b0_2 (Int.toNat j_4))) (Int.toNat j_4) (gt b0_2 (Int.toNat i_2))),(IntKind.wrap .i64 (i_2+1)),(IntKind.wrap .i64 (j_4 - 1))))
abbrev slices_partitionCmpFunc_f90_M1_t7 (b0_2:List TUnitConf) (a:Int) (i_2:Int) (j_5:Int):S:=stB [(0,.own 0 [.int .i64,.int .i64,.str,.int .i64,.int .i64] 0 b0_2.length),(1,.c (.int .i64) (.int a)),(4,.fnb 50 [.unk]),(12,.c (.int .i64) (.int i_2)),(13,.c (.int .i64) (.int j_5))] [(0,.row 77 (List.map e_TUnitConf b0_2))]
def slices_partitionCmpFunc_f90_M1_b7 (n:Nat) (b0_2:List TUnitConf) (a:Int) (i_2:Int) (j_5:Int):Option ((Int) ⊕ ((Int))) :=
  gd (((decide (i_2≤j_5))=true→(0≤j_5∧j_5 < (b0_2.length:Int)))∧((decide (i_2≤j_5))=true→(Int.toNat j_5) < b0_2.length)∧((decide (i_2≤j_5))=true→(0≤a∧a < (b0_2.length:Int)))∧((decide (i_2≤j_5))=true→(Int.toNat a) < b0_2.length)) <|
  bif (decide (i_2≤j_5)) then
    gd ((decide (i_2≤j_5))=true) <|
    (enqueue_pool__byAddr_M1 n (gt b0_2 (Int.toNat j_5)) (gt b0_2 (Int.toNat a))).bind fun r1 =>
    bif (!(decide (r1 < 0))) then
      some (.inl (IntKind.wrap .i64 (j_5 - 1)))
    else
      some (.inr j_5)
  else
    some (.inr j_5)
abbrev slices_partitionCmpFunc_f90_M1_s5 (b0_2:List TUnitConf) (a:Int) (i_2:Int) (j_2:Int):S:=stB [(0,.own 0 [.int .i64,.int .i64,.str,.int .i64,.int .i64] 0 b0_2.length),(1,.c (.int .i64) (.int a)),(4,.fnb 50 [.unk]),(12,.c (.int .i64) (.int i_2)),(13,.c (.int .i64) (.int j_2))] [(0,.row 77 (List.map e_TUnitConf b0_2))]
def slices_partitionCmpFunc_f90_M1_k5 (n:Nat) (b0_2:List TUnitConf) (a:Int) (i_2:Int) (j_2:Int):Option (((List TUnitConf)×Int×Int) ⊕ (((List TUnitConf)×Int))) :=
  (loopF (fun (x:Int)=>slices_partitionCmpFunc_f90_M1_b7 n b0_2 a i_2 x) n j_2).bind fun y44 =>
  slices_partitionCmpFunc_f90_M1_k6 n b0_2 a i_2 y44
abbrev slices_partitionCmpFunc_f90_M1_t8 (b0_2:List TUnitConf) (a:Int) (j_2:Int) (i_3:Int):S:=stB [(0,.own 0 [.int .i64,.int .i64,.str,.int .i64,.int .i64] 0 b0_2.length),(1,.c (.int .i64) (.int a)),(4,.fnb 50 [.unk]),(12,.c (.int .i64) (.int i_3)),(13,.c (.int .i64) (.int j_2))] [(0,.row 77 (List.map e_TUnitConf b0_2))]
def slices_partitionCmpFunc_f90_M1_b8 (n:Nat) (b0_2:List TUnitConf) (a:Int) (j_2:Int) (i_3:Int):Option ((Int) ⊕ ((Int))) :=
  gd (((decide (i_3≤j_2))=true→(0≤i_3∧i_3 < (b0_2.length:Int)))∧((decide (i_3≤j_2))=true→(Int.toNat i_3) < b0_2.length)∧((decide (i_3≤j_2))=true→(0≤a∧a < (b0_2.length:Int)))∧((decide (i_3≤j_2))=true→(Int.toNat a) < b0_2.length)) <|
  bif (decide (i_3≤j_2)) then
    gd ((decide (i_3≤j_2))=true) <|
    (enqueue_pool__byAddr_M1 n (gt b0_2 (Int.toNat i_3)) (gt b0_2 (Int.toNat a))).bind fun r2 =>
    bif (decide (r2 < 0)) then
      some (.inl (IntKind.wrap .i64 (i_3+1)))
    else
      some (.inr i_3)
  else
    some (.inr i_3)
abbrev slices_partitionCmpFunc_f90_M1_t4 (a:Int) (b0_2:List TUnitConf) (i_1:Int) (j_2:Int):S:=stB [(0,.own 0 [.int .i64,.int .i64,.str,.int .i64,.int .i64] 0 b0_2.length),(1,.c (.int .i64) (.int a)),(4,.fnb 50 [.unk]),(12,.c (.int .i64) (.int i_1)),(13,.c (.int .i64) (.int j_2))] [(0,.row 77 (List.map e_TUnitConf b0_2))]
def slices_partitionCmpFunc_f90_M1_b4 (n:Nat) (a:Int) (b0_2:List TUnitConf) (i_1:Int) (j_2:Int):Option (((List TUnitConf)×Int×Int) ⊕ (((List TUnitConf)×Int))) :=
  (loopF (fun (x:Int)=>slices_partitionCmpFunc_f90_M1_b8 n b0_2 a j_2 x) n i_1).bind fun y55 =>
  slices_partitionCmpFunc_f90_M1_k5 n b0_2 a y55 j_2
abbrev slices_partitionCmpFunc_f90_M1_s2 (b0:List TUnitConf) (a:Int) (i:Int) (j_1:Int):S:=stB [(0,.own 0 [.int .i64,.int .i64,.str,.int .i64,.int .i64] 0 b0.length),(1,.c (.int .i64) (.int a)),(4,.fnb 50 [.unk]),(12,.c (.int .i64) (.int i)),(13,.c (.int .i64) (.int j_1))] [(0,.row 77 (List.map e_TUnitConf b0))]
def slices_partitionCmpFunc_f90_M1_k2 (n:Nat) (b0:List TUnitConf) (a:Int) (i:Int) (j_1:Int):Option (Int×Bool×(List TUnitConf)) :=
  bif (decide (i > j_1)) then
    gd ((0≤a∧a < (b0.length:Int))∧(Int.toNat a) < b0.length∧(0≤j_1∧j_1 < (b0.length:Int))∧(Int.toNat j_1) < b0.length∧(0≤j_1∧j_1 < (b0.length:Int))∧(Int.toNat j_1) < b0.length∧(0≤a∧a < (b0.length:Int))∧(Int.toNat a) < b0.length) <|
    some (j_1,true,(List.set (List.set b0 (Int.toNat j_1) (gt b0 (Int.toNat a))) (Int.toNat a) (gt b0 (Int.toNat j_1))))
  else
    gd ((0≤j_1∧j_1 < (b0.length:Int))∧(Int.toNat j_1) < b0.length∧(0≤i∧i < (b0.length:Int))∧(Int.toNat i) < b0.length∧(0≤i∧i < (b0.length:Int))∧(Int.toNat i) < b0.length∧(0≤j_1∧j_1 < (b0.length:Int))∧(Int.toNat j_1) < b0.length) <|
    (loopF (fun (x:(List TUnitConf)×Int×Int)=>slices_partitionCmpFunc_f90_M1_b4 n a x.1 x.2.1 x.2.2) n ((List.set (List.set b0 (Int.toNat i) (gt b0 (Int.toNat j_1))) (Int.toNat j_1) (gt b0 (Int.toNat i))),(IntKind.wrap .i64 (i+1)),(IntKind.wrap .i64 (j_1 - 1)))).bind fun y30 =>
    slices_partitionCmpFunc_f90_M1_k3 n y30.1 a y30.2
abbrev slices_partitionCmpFunc_f90_M1_t9 (b0:List TUnitConf) (a:Int) (i:Int) (j_6:Int):S:=stB [(0,.own 0 [.int .i64,.int .i64,.str,.int .i64,.int .i64] 0 b0.length),(1,.c (.int .i64) (.int a)),(4,.fnb 50 [.unk]),(12,.c (.int .i64) (.int i)),(13,.c (.int .i64) (.int j_6))] [(0,.row 77 (List.map e_TUnitConf b0))]
def slices_partitionCmpFunc_f90_M1_b9 (n:Nat) (b0:List TUnitConf) (a:Int) (i:Int) (j_6:Int):Option ((Int) ⊕ ((Int))) :=
  gd (((decide (i≤j_6))=true→(0≤j_6∧j_6 < (b0.length:Int)))∧((decide (i≤j_6))=true→(Int.toNat j_6) < b0.length)∧((decide (i≤j_6))=true→(0≤a∧a < (b0.length:Int)))∧((decide (i≤j_6))=true→(Int.toNat a) < b0.length)) <|
  bif (decide (i≤j_6)) then
    gd ((decide (i≤j_6))=true) <|
    (enqueue_pool__byAddr_M1 n (gt b0 (Int.toNat j_6)) (gt b0 (Int.toNat a))).bind fun r3 =>
    bif (!(decide (r3 < 0))) then
      some (.inl (IntKind.wrap .i64 (j_6 - 1)))
    else
      some (.inr j_6)
  else
    some (.inr j_6)
abbrev slices_partitionCmpFunc_f90_M1_s1 (b0:List TUnitConf) (a:Int) (i:Int) (j:Int):S:=stB [(0,.own 0 [.int .i64,.int .i64,.str,.int .i64,.int .i64] 0 b0.length),(1,.c (.int .i64) (.int a)),(4,.fnb 50 [.unk]),(12,.c (.int .i64) (.int i)),(13,.c (.int .i64) (.int j))] [(0,.row 77 (List.map e_TUnitConf b0))]
def slices_partitionCmpFunc_f90_M1_k1 (n:Nat) (b0:List TUnitConf) (a:Int) (i:Int) (j:Int):Option (Int×Bool×(List TUnitConf)) :=
  (loopF (fun (x:Int)=>slices_partitionCmpFunc_f90_M1_b9 n b0 a i x) n j).bind fun y74 =>
  slices_partitionCmpFunc_f90_M1_k2 n b0 a i y74
abbrev slices_partitionCmpFunc_f90_M1_t10 (b0_3:List TUnitConf) (a:Int) (j_7:Int) (i_4:Int):S:=stB [(0,.own 0 [.int .i64,.int .i64,.str,.int .i64,.int .i64] 0 b0_3.length),(1,.c (.int .i64) (.int a)),(4,.fnb 50 [.unk]),(12,.c (.int .i64) (.int i_4)),(13,.c (.int .i64) (.int j_7))] [(0,.row 77 (List.map e_TUnitConf b0_3))]
def slices_partitionCmpFunc_f90_M1_b10 (n:Nat) (b0_3:List TUnitConf) (a:Int) (j_7:Int) (i_4:Int):Option ((Int) ⊕ ((Int))) :=
  gd (((decide (i_4≤j_7))=true→(0≤i_4∧i_4 < (b0_3.length:Int)))∧((decide (i_4≤j_7))=true→(Int.toNat i_4) < b0_3.length)∧((decide (i_4≤j_7))=true→(0≤a∧a < (b0_3.length:Int)))∧((decide (i_4≤j_7))=true→(Int.toNat a) < b0_3.length)) <|
  bif (decide (i_4≤j_7)) then
    gd ((decide (i_4≤j_7))=true) <|
    (enqueue_pool__byAddr_M1 n (gt b0_3 (Int.toNat i_4)) (gt b0_3 (Int.toNat a))).bind fun r4 =>
    bif (decide (r4 < 0)) then
      some (.inl (IntKind.wrap .i64 (i_4+1)))
    else
      some (.inr i_4)
  else
    some (.inr i_4)
def slices_partitionCmpFunc_f90_M1 (n:Nat) (data:List TUnitConf) (a:Int) (b:Int) (pivot:Int):Option (Int×Bool×(List TUnitConf)) :=
  gd ((0≤pivot∧pivot < (data.length:Int))∧(Int.toNat pivot) < data.length∧(0≤a∧a < (data.length:Int))∧(Int.toNat a) < data.length∧(0≤a∧a < (data.length:Int))∧(Int.toNat a) < data.length∧(0≤pivot∧pivot < (data.length:Int))∧(Int.toNat pivot) < data.length) <|
  (loopF (fun (x:Int)=>slices_partitionCmpFunc_f90_M1_b10 n (List.set (List.set data (Int.toNat a) (gt data (Int.toNat pivot))) (Int.toNat pivot) (gt data (Int.toNat a))) a (IntKind.wrap .i64 (b - 1)) x) n (IntKind.wrap .i64 (a+1))).bind fun y85 =>
  slices_partitionCmpFunc_f90_M1_k1 n (List.set (List.set data (Int.toNat a) (gt data (Int.toNat pivot))) (Int.toNat pivot) (gt data (Int.toNat a))) a y85 (IntKind.wrap .i64 (b - 1))
theorem cslices_partitionCmpFunc_f90_M1 (n:Nat) (data:List TUnitConf) (a:Int) (b:Int) (pivot:Int) (r:Int×Bool×(List TUnitConf)) (H:slices_partitionCmpFunc_f90_M1 n data a b pivot=some r):CallsM Try.prog 90 [.ref (.own 0 [.int .i64,.int .i64,.str,.int .i64,.int .i64] 0 data.length),.dat (false,[.int .i64]) [.int a],.dat (false,[.int .i64]) [.int b],.dat (false,[.int .i64]) [.int pivot],.ref (.fnb 50 [.unk])] [.row 77 (List.map e_TUnitConf data)] [.c (.int .i64) (.int r.1),.c .bool (.bool r.2.1)] [.row 77 (List.map e_TUnitConf r.2.2)]:=by
  have hΓ:=@g0 (Contract Try.prog)
  refine callsM_of (Try.f90.body.getD .skip) h00 Try.func90 rfl Try.call90 (Nat.le_of_ble_eq_true rfl) (Nat.le_of_ble_eq_true rfl) ?_
  unfold slices_partitionCmpFunc_f90_M1 at H
  simp only [Try.f90,Option.getD]
  refine rA ?_
  obtain ⟨⟨hg96,hg97,hg98,hg99,hg100,hg101,hg102,hg103⟩,H⟩:=gd_some H
  refine rD ?_
  refine rA ?_
  refine Sm.cut (fun (x:(List TUnitConf)×Int×Int)=>slices_partitionCmpFunc_f90_M1_s1 x.1 a x.2.1 x.2.2) (fun x=>slices_partitionCmpFunc_f90_M1_k1 n x.1 a x.2.1 x.2.2=some r) ?_ ?_
  · refine Sm.block ?_
    obtain ⟨y85,hy85,Ho85⟩:=bind_some H
    refine Sm.loopB _ (fun x=>slices_partitionCmpFunc_f90_M1_t10 (List.set (List.set data (Int.toNat a) (gt data (Int.toNat pivot))) (Int.toNat pivot) (gt data (Int.toNat a))) a (IntKind.wrap .i64 (b - 1)) x) hy85 (wb [some 0]) ?_
    rintro i_4 z85 H
    try dsimp only at H
    unfold slices_partitionCmpFunc_f90_M1_b10 at H
    refine Sm.st (slices_partitionCmpFunc_f90_M1_t10.eq_1 ..) ?_
    refine Sm.seqK fun K86 hK86=>?_
    obtain ⟨⟨hg88,hg89,hg90,hg91⟩,H⟩:=gd_some H
    simp only [List.length_set] at hg88 hg89 hg90 hg91
    refine bif_cases H (fun hs92 H=>?_) (fun hs92 H=>?_)
    · try simp only [hs92,Bool.not_false,Bool.not_true,Bool.false_eq_true,true_implies,false_implies,forall_const] at hg88
      try simp only [hs92,Bool.not_false,Bool.not_true,Bool.false_eq_true,true_implies,false_implies,forall_const] at hg89
      try simp only [hs92,Bool.not_false,Bool.not_true,Bool.false_eq_true,true_implies,false_implies,forall_const] at hg90
      try simp only [hs92,Bool.not_false,Bool.not_true,Bool.false_eq_true,true_implies,false_implies,forall_const] at hg91
      obtain ⟨hg93,H⟩:=gd_some H
      obtain ⟨r4,hr4,H⟩:=bind_some H
      refine sE [0,1,2,3,4,5,6,7,8,9,10,11,12,13,14,15] [(none,[],[]),(none,[],[]),(none,[],[]),(none,[],[]),(none,[],[]),(none,[],[]),(none,[],[]),(none,[0],[]),(none,[0],[]),(none,[],[]),(none,[],[]),(none,[0],[]),(none,[0],[]),(none,[],[]),(some true,[],[]),(some true,[],[])] [(13,(⟨_,_,_,_,_,[],[],cenqueue_pool__byAddr_M1 n _ _ r4 hr4⟩:MT Try.prog))] fun K87 hK87=>?_
      have q:=And.intro hs92 hr4
      iterate 13 refine eQq ?_
      refine eB ?_
      iterate 2 refine eQq ?_
      refine opsE0 ?_
      refine hK87 _ ?_
      refine cnd H (fun h94 H=>?_) (fun h94 H=>?_)
      · refine Sm.skip ?_
        refine hK86 _ ?_
        refine Sm.block ?_
        refine eA ?_
        refine lf ?_
        exact nx H (wb [some 0])
      refine Sm.exit ?_
      refine lf ?_
      refine lx H fun hyy=>?_
      subst hyy
      have H:=Ho85
      try dsimp only at H
      refine lf ?_
      exact ⟨((List.set (List.set data (Int.toNat a) (gt data (Int.toNat pivot))) (Int.toNat pivot) (gt data (Int.toNat a))),i_4,(IntKind.wrap .i64 (b - 1))),H,wb [some 0]⟩
    try simp only [hs92,Bool.not_false,Bool.not_true,Bool.false_eq_true,true_implies,false_implies,forall_const] at hg88
    try simp only [hs92,Bool.not_false,Bool.not_true,Bool.false_eq_true,true_implies,false_implies,forall_const] at hg89
    try simp only [hs92,Bool.not_false,Bool.not_true,Bool.false_eq_true,true_implies,false_implies,forall_const] at hg90
    try simp only [hs92,Bool.not_false,Bool.not_true,Bool.false_eq_true,true_implies,false_implies,forall_const] at hg91
    refine sQ [0,1,2,3,4,5,6,7,8,9,10,11,12,13,14,15] [(none,[],[]),(none,[],[]),(none,[],[]),(none,[],[]),(none,[],[]),(none,[],[]),(none,[],[]),(none,[0],[]),(none,[0],[]),(none,[],[]),(none,[],[]),(none,[0],[]),(none,[0],[]),(some false,[],[]),(some false,[],[]),(some false,[],[])] fun K87 hK87=>?_
    have q:=hs92
    iterate 16 refine oQq ?_
    refine opsQ0 ?_
    refine hK87 _ ?_
    refine cndF ?_
    refine Sm.exit ?_
    refine lf ?_
    refine lx H fun hyy=>?_
    subst hyy
    have H:=Ho85
    try dsimp only at H
    refine lf ?_
    exact ⟨((List.set (List.set data (Int.toNat a) (gt data (Int.toNat pivot))) (Int.toNat pivot) (gt data (Int.toNat a))),i_4,(IntKind.wrap .i64 (b - 1))),H,wb [some 0]⟩
  rintro ⟨b0,i,j⟩ H
  try dsimp only at H
  unfold slices_partitionCmpFunc_f90_M1_k1 at H
  refine Sm.st (slices_partitionCmpFunc_f90_M1_s1.eq_1 ..) ?_
  refine Sm.cut (fun (x:Int)=>slices_partitionCmpFunc_f90_M1_s2 b0 a i x) (fun x=>slices_partitionCmpFunc_f90_M1_k2 n b0 a i x=some r) ?_ ?_
  · refine Sm.block ?_
    obtain ⟨y74,hy74,Ho74⟩:=bind_some H
    refine Sm.loopB _ (fun x=>slices_partitionCmpFunc_f90_M1_t9 b0 a i x) hy74 (wb [some 0]) ?_
    rintro j_6 z74 H
    try dsimp only at H
    unfold slices_partitionCmpFunc_f90_M1_b9 at H
    refine Sm.st (slices_partitionCmpFunc_f90_M1_t9.eq_1 ..) ?_
    refine Sm.seqK fun K75 hK75=>?_
    obtain ⟨⟨hg77,hg78,hg79,hg80⟩,H⟩:=gd_some H
    refine bif_cases H (fun hs81 H=>?_) (fun hs81 H=>?_)
    · try simp only [hs81,Bool.not_false,Bool.not_true,Bool.false_eq_true,true_implies,false_implies,forall_const] at hg77
      try simp only [hs81,Bool.not_false,Bool.not_true,Bool.false_eq_true,true_implies,false_implies,forall_const] at hg78
      try simp only [hs81,Bool.not_false,Bool.not_true,Bool.false_eq_true,true_implies,false_implies,forall_const] at hg79
      try simp only [hs81,Bool.not_false,Bool.not_true,Bool.false_eq_true,true_implies,false_implies,forall_const] at hg80
      obtain ⟨hg82,H⟩:=gd_some H
      obtain ⟨r3,hr3,H⟩:=bind_some H
      refine sE [0,1,2,3,4,5,6,7,8,9,10,11,12,13,14,15,16] [(none,[],[]),(none,[],[]),(none,[],[]),(none,[],[]),(none,[],[]),(none,[],[]),(none,[],[]),(none,[0],[]),(none,[0],[]),(none,[],[]),(none,[],[]),(none,[0],[]),(none,[0],[]),(none,[],[]),(some true,[],[]),(some true,[],[]),(some true,[],[])] [(13,(⟨_,_,_,_,_,[],[],cenqueue_pool__byAddr_M1 n _ _ r3 hr3⟩:MT Try.prog))] fun K76 hK76=>?_
      have q:=And.intro hs81 hr3
      iterate 13 refine eQq ?_
      refine eB ?_
      iterate 3 refine eQq ?_
      refine opsE0 ?_
      refine hK76 _ ?_
      refine cnd H (fun h83 H=>?_) (fun h83 H=>?_)
      · refine Sm.skip ?_
        refine hK75 _ ?_
        refine Sm.block ?_
        refine eA ?_
        refine lf ?_
        exact nx H (wb [some 0])
      refine Sm.exit ?_
      refine lf ?_
      refine lx H fun hyy=>?_
      subst hyy
      have H:=Ho74
      try dsimp only at H
      refine lf ?_
      exact ⟨_,H,wb [some 0]⟩
    try simp only [hs81,Bool.not_false,Bool.not_true,Bool.false_eq_true,true_implies,false_implies,forall_const] at hg77
    try simp only [hs81,Bool.not_false,Bool.not_true,Bool.false_eq_true,true_implies,false_implies,forall_const] at hg78
    try simp only [hs81,Bool.not_false,Bool.not_true,Bool.false_eq_true,true_implies,false_implies,forall_const] at hg79
    try simp only [hs81,Bool.not_false,Bool.not_true,Bool.false_eq_true,true_implies,false_implies,forall_const] at hg80
    refine sQ [0,1,2,3,4,5,6,7,8,9,10,11,12,13,14,15,16] [(none,[],[]),(none,[],[]),(none,[],[]),(none,[],[]),(none,[],[]),(none,[],[]),(none,[],[]),(none,[0],[]),(none,[0],[]),(none,[],[]),(none,[],[]),(none,[0],[]),(none,[0],[]),(some false,[],[]),(some false,[],[]),(some false,[],[]),(some false,[],[])] fun K76 hK76=>?_
    have q:=hs81
    iterate 17 refine oQq ?_
    refine opsQ0 ?_
    refine hK76 _ ?_
    refine cndF ?_
    refine Sm.exit ?_
    refine lf ?_
    refine lx H fun hyy=>?_
    subst hyy
    have H:=Ho74
    try dsimp only at H
    refine lf ?_
    exact ⟨_,H,wb [some 0]⟩
  rintro j_1 H
  try dsimp only at H
  unfold slices_partitionCmpFunc_f90_M1_k2 at H
  refine Sm.st (slices_partitionCmpFunc_f90_M1_s2.eq_1 ..) ?_
  refine Sm.seqK fun K4 hK4=>?_
  refine rA ?_
  refine cnd H (fun h6 H=>?_) (fun h6 H=>?_)
  · obtain ⟨⟨hg9,hg10,hg11,hg12,hg13,hg14,hg15,hg16⟩,H⟩:=gd_some H
    refine rD ?_
    refine rA ?_
    refine Sm.ret ?_
    refine lf ?_
    obtain rfl:=Option.some.inj H
    exact rtM [some 0]
  refine Sm.skip ?_
  refine hK4 _ ?_
  obtain ⟨⟨hg66,hg67,hg68,hg69,hg70,hg71,hg72,hg73⟩,H⟩:=gd_some H
  refine rD ?_
  refine rA ?_
  refine rA ?_
  refine Sm.cut (fun (x:(List TUnitConf)×Int)=>slices_partitionCmpFunc_f90_M1_s3 x.1 a x.2) (fun x=>slices_partitionCmpFunc_f90_M1_k3 n x.1 a x.2=some r) ?_ ?_
  · refine Sm.block ?_
    obtain ⟨y30,hy30,Ho30⟩:=bind_some H
    refine Sm.loopB _ (fun x=>slices_partitionCmpFunc_f90_M1_t4 a x.1 x.2.1 x.2.2) hy30 (wb [some 0]) ?_
    rintro ⟨b0_2,i_1,j_2⟩ z30 H
    try dsimp only at H
    unfold slices_partitionCmpFunc_f90_M1_b4 at H
    refine Sm.st (slices_partitionCmpFunc_f90_M1_t4.eq_1 ..) ?_
    refine Sm.block ?_
    refine Sm.cut (fun (x:Int)=>slices_partitionCmpFunc_f90_M1_s5 b0_2 a x j_2) (fun x=>slices_partitionCmpFunc_f90_M1_k5 n b0_2 a x j_2=some z30) ?_ ?_
    · refine Sm.block ?_
      obtain ⟨y55,hy55,Ho55⟩:=bind_some H
      refine Sm.loopB _ (fun x=>slices_partitionCmpFunc_f90_M1_t8 b0_2 a j_2 x) hy55 (wb [some 0]) ?_
      rintro i_3 z55 H
      try dsimp only at H
      unfold slices_partitionCmpFunc_f90_M1_b8 at H
      refine Sm.st (slices_partitionCmpFunc_f90_M1_t8.eq_1 ..) ?_
      refine Sm.seqK fun K56 hK56=>?_
      obtain ⟨⟨hg58,hg59,hg60,hg61⟩,H⟩:=gd_some H
      refine bif_cases H (fun hs62 H=>?_) (fun hs62 H=>?_)
      · try simp only [hs62,Bool.not_false,Bool.not_true,Bool.false_eq_true,true_implies,false_implies,forall_const] at hg58
        try simp only [hs62,Bool.not_false,Bool.not_true,Bool.false_eq_true,true_implies,false_implies,forall_const] at hg59
        try simp only [hs62,Bool.not_false,Bool.not_true,Bool.false_eq_true,true_implies,false_implies,forall_const] at hg60
        try simp only [hs62,Bool.not_false,Bool.not_true,Bool.false_eq_true,true_implies,false_implies,forall_const] at hg61
        obtain ⟨hg63,H⟩:=gd_some H
        obtain ⟨r2,hr2,H⟩:=bind_some H
        refine sE [0,1,2,3,4,5,6,7,8,9,10,11,12,13,14,15] [(none,[],[]),(none,[],[]),(none,[],[]),(none,[],[]),(none,[],[]),(none,[],[]),(none,[],[]),(none,[0],[]),(none,[0],[]),(none,[],[]),(none,[],[]),(none,[0],[]),(none,[0],[]),(none,[],[]),(some true,[],[]),(some true,[],[])] [(13,(⟨_,_,_,_,_,[],[],cenqueue_pool__byAddr_M1 n _ _ r2 hr2⟩:MT Try.prog))] fun K57 hK57=>?_
        have q:=And.intro hs62 hr2
        iterate 13 refine eQq ?_
        refine eB ?_
        iterate 2 refine eQq ?_
        refine opsE0 ?_
        refine hK57 _ ?_
        refine cnd H (fun h64 H=>?_) (fun h64 H=>?_)
        · refine Sm.skip ?_
          refine hK56 _ ?_
          refine Sm.block ?_
          refine eA ?_
          refine lf ?_
          exact nx H (wb [some 0])
        refine Sm.exit ?_
        refine lf ?_
        refine lx H fun hyy=>?_
        subst hyy
        have H:=Ho55
        try dsimp only at H
        refine lf ?_
        exact ⟨_,H,wb [some 0]⟩
      try simp only [hs62,Bool.not_false,Bool.not_true,Bool.false_eq_true,true_implies,false_implies,forall_const] at hg58
      try simp only [hs62,Bool.not_false,Bool.not_true,Bool.false_eq_true,true_implies,false_implies,forall_const] at hg59
      try simp only [hs62,Bool.not_false,Bool.not_true,Bool.false_eq_true,true_implies,false_implies,forall_const] at hg60
      try simp only [hs62,Bool.not_false,Bool.not_true,Bool.false_eq_true,true_implies,false_implies,forall_const] at hg61
      refine sQ [0,1,2,3,4,5,6,7,8,9,10,11,12,13,14,15] [(none,[],[]),(none,[],[]),(none,[],[]),(none,[],[]),(none,[],[]),(none,[],[]),(none,[],[]),(none,[0],[]),(none,[0],[]),(none,[],[]),(none,[],[]),(none,[0],[]),(none,[0],[]),(some false,[],[]),(some false,[],[]),(some false,[],[])] fun K57 hK57=>?_
      have q:=hs62
      iterate 16 refine oQq ?_
      refine opsQ0 ?_
      refine hK57 _ ?_
      refine cndF ?_
      refine Sm.exit ?_
      refine lf ?_
      refine lx H fun hyy=>?_
      subst hyy
      have H:=Ho55
      try dsimp only at H
      refine lf ?_
      exact ⟨_,H,wb [some 0]⟩
    rintro i_2 H
    try dsimp only at H
    unfold slices_partitionCmpFunc_f90_M1_k5 at H
    refine Sm.st (slices_partitionCmpFunc_f90_M1_s5.eq_1 ..) ?_
    refine Sm.cut (fun (x:Int)=>slices_partitionCmpFunc_f90_M1_s6 b0_2 a i_2 x) (fun x=>slices_partitionCmpFunc_f90_M1_k6 n b0_2 a i_2 x=some z30) ?_ ?_
    · refine Sm.block ?_
      obtain ⟨y44,hy44,Ho44⟩:=bind_some H
      refine Sm.loopB _ (fun x=>slices_partitionCmpFunc_f90_M1_t7 b0_2 a i_2 x) hy44 (wb [some 0]) ?_
      rintro j_5 z44 H
      try dsimp only at H
      unfold slices_partitionCmpFunc_f90_M1_b7 at H
      refine Sm.st (slices_partitionCmpFunc_f90_M1_t7.eq_1 ..) ?_
      refine Sm.seqK fun K45 hK45=>?_
      obtain ⟨⟨hg47,hg48,hg49,hg50⟩,H⟩:=gd_some H
      refine bif_cases H (fun hs51 H=>?_) (fun hs51 H=>?_)
      · try simp only [hs51,Bool.not_false,Bool.not_true,Bool.false_eq_true,true_implies,false_implies,forall_const] at hg47
        try simp only [hs51,Bool.not_false,Bool.not_true,Bool.false_eq_true,true_implies,false_implies,forall_const] at hg48
        try simp only [hs51,Bool.not_false,Bool.not_true,Bool.false_eq_true,true_implies,false_implies,forall_const] at hg49
        try simp only [hs51,Bool.not_false,Bool.not_true,Bool.false_eq_true,true_implies,false_implies,forall_const] at hg50
        obtain ⟨hg52,H⟩:=gd_some H
        obtain ⟨r1,hr1,H⟩:=bind_some H
        refine sE [0,1,2,3,4,5,6,7,8,9,10,11,12,13,14,15,16] [(none,[],[]),(none,[],[]),(none,[],[]),(none,[],[]),(none,[],[]),(none,[],[]),(none,[],[]),(none,[0],[]),(none,[0],[]),(none,[],[]),(none,[],[]),(none,[0],[]),(none,[0],[]),(none,[],[]),(some true,[],[]),(some true,[],[]),(some true,[],[])] [(13,(⟨_,_,_,_,_,[],[],cenqueue_pool__byAddr_M1 n _ _ r1 hr1⟩:MT Try.prog))] fun K46 hK46=>?_
        have q:=And.intro hs51 hr1
        iterate 13 refine eQq ?_
        refine eB ?_
        iterate 3 refine eQq ?_
        refine opsE0 ?_
        refine hK46 _ ?_
        refine cnd H (fun h53 H=>?_) (fun h53 H=>?_)
        · refine Sm.skip ?_
          refine hK45 _ ?_
          refine Sm.block ?_
          refine eA ?_
          refine lf ?_
          exact nx H (wb [some 0])
        refine Sm.exit ?_
        refine lf ?_
        refine lx H fun hyy=>?_
        subst hyy
        have H:=Ho44
        try dsimp only at H
        refine lf ?_
        exact ⟨_,H,wb [some 0]⟩
      try simp only [hs51,Bool.not_false,Bool.not_true,Bool.false_eq_true,true_implies,false_implies,forall_const] at hg47
      try simp only [hs51,Bool.not_false,Bool.not_true,Bool.false_eq_true,true_implies,false_implies,forall_const] at hg48
      try simp only [hs51,Bool.not_false,Bool.not_true,Bool.false_eq_true,true_implies,false_implies,forall_const] at hg49
      try simp only [hs51,Bool.not_false,Bool.not_true,Bool.false_eq_true,true_implies,false_implies,forall_const] at hg50
      refine sQ [0,1,2,3,4,5,6,7,8,9,10,11,12,13,14,15,16] [(none,[],[]),(none,[],[]),(none,[],[]),(none,[],[]),(none,[],[]),(none,[],[]),(none,[],[]),(none,[0],[]),(none,[0],[]),(none,[],[]),(none,[],[]),(none,[0],[]),(none,[0],[]),(some false,[],[]),(some false,[],[]),(some false,[],[]),(some false,[],[])] fun K46 hK46=>?_
      have q:=hs51
      iterate 17 refine oQq ?_
      refine opsQ0 ?_
      refine hK46 _ ?_
      refine cndF ?_
      refine Sm.exit ?_
      refine lf ?_
      refine lx H fun hyy=>?_
      subst hyy
      have H:=Ho44
      try dsimp only at H
      refine lf ?_
      exact ⟨_,H,wb [some 0]⟩
    rintro j_4 H
    try dsimp only at H
    unfold slices_partitionCmpFunc_f90_M1_k6 at H
    refine Sm.st (slices_partitionCmpFunc_f90_M1_s6.eq_1 ..) ?_
    refine Sm.seqK fun K31 hK31=>?_
    refine rA ?_
    refine cnd H (fun h33 H=>?_) (fun h33 H=>?_)
    · refine Sm.exit ?_
      refine lf ?_
      refine lx H fun hyy=>?_
      subst hyy
      have H:=Ho30
      try dsimp only at H
      refine lf ?_
      exact ⟨(b0_2,j_4),H,wb [some 0]⟩
    refine Sm.skip ?_
    refine hK31 _ ?_
    obtain ⟨⟨hg36,hg37,hg38,hg39,hg40,hg41,hg42,hg43⟩,H⟩:=gd_some H
    refine rD ?_
    refine rA ?_
    refine eA ?_
    refine lf ?_
    exact nx H (wb [some 0])
  rintro ⟨b0_1,j_3⟩ H
  try dsimp only at H
  unfold slices_partitionCmpFunc_f90_M1_k3 at H
  refine Sm.st (slices_partitionCmpFunc_f90_M1_s3.eq_1 ..) ?_
  obtain ⟨⟨hg22,hg23,hg24,hg25,hg26,hg27,hg28,hg29⟩,H⟩:=gd_some H
  refine rD ?_
  refine rA ?_
  refine Sm.ret ?_
  refine lf ?_
  obtain rfl:=Option.some.inj H
  exact rtM [some 0]
abbrev pdqB_s4 (b0_3:List TUnitConf) (a_1:Int) (b_1:Int) (limit_2:Int) (wasBalanced:Bool) (wasPartitioned:Bool) (length_:Int) (pivot:Int):S:=stB [(0,.own 0 [.int .i64,.int .i64,.str,.int .i64,.int .i64] 0 b0_3.length),(1,.c (.int .i64) (.int a_1)),(2,.c (.int .i64) (.int b_1)),(3,.c (.int .i64) (.int limit_2)),(4,.fnb 50 [.unk]),(10,.c .bool (.bool wasBalanced)),(11,.c .bool (.bool wasPartitioned)),(12,.c (.int .i64) (.int length_)),(13,.c (.int .i64) (.int pivot))] [(0,.row 77 (List.map e_TUnitConf b0_3))]
def pdqB_k4 (rec:(List TUnitConf→Int→Int→Int→Option (List TUnitConf))) (n:Nat) (b0_3:List TUnitConf) (a_1:Int) (b_1:Int) (limit_2:Int) (wasBalanced:Bool) (wasPartitioned:Bool) (length_:Int) (pivot:Int):Option (((List TUnitConf)×Int×Int×Int×Bool×Bool) ⊕ (((List TUnitConf)))) :=
  gd (((decide (a_1 > 0))=true→(0≤(IntKind.wrap .i64 (a_1 - 1))∧(IntKind.wrap .i64 (a_1 - 1)) < (b0_3.length:Int)))∧((decide (a_1 > 0))=true→(Int.toNat (IntKind.wrap .i64 (a_1 - 1))) < b0_3.length)∧((decide (a_1 > 0))=true→(0≤pivot∧pivot < (b0_3.length:Int)))∧((decide (a_1 > 0))=true→(Int.toNat pivot) < b0_3.length)) <|
  bif (decide (a_1 > 0)) then
    gd ((decide (a_1 > 0))=true) <|
    (enqueue_pool__byAddr_M1 n (gt b0_3 (Int.toNat (IntKind.wrap .i64 (a_1 - 1)))) (gt b0_3 (Int.toNat pivot))).bind fun r4 =>
    bif (!(decide (r4 < 0))) then
      (slices_partitionEqualCmpFunc_f89_M1 n b0_3 a_1 b_1 pivot).bind fun r5 =>
      gd (r5.2.length=b0_3.length) <|
      some (.inl (r5.2,r5.1,b_1,limit_2,wasBalanced,wasPartitioned))
    else
      (slices_partitionCmpFunc_f90_M1 n b0_3 a_1 b_1 pivot).bind fun r6 =>
      gd (r6.2.2.length=b0_3.length) <|
      bif (decide ((IntKind.wrap .i64 (r6.1 - a_1)) < (IntKind.wrap .i64 (b_1 - r6.1)))) then
        (rec r6.2.2 a_1 r6.1 limit_2).bind fun r7 =>
        gd (r7.length=b0_3.length) <|
        some (.inl (r7,(IntKind.wrap .i64 (r6.1+1)),b_1,limit_2,(decide ((IntKind.wrap .i64 (r6.1 - a_1)) ≥ (IntKind.wrap .i64 (Int.tdiv length_ 8)))),r6.2.1))
      else
        (rec r6.2.2 (IntKind.wrap .i64 (r6.1+1)) b_1 limit_2).bind fun r8 =>
        gd (r8.length=b0_3.length) <|
        some (.inl (r8,a_1,r6.1,limit_2,(decide ((IntKind.wrap .i64 (b_1 - r6.1)) ≥ (IntKind.wrap .i64 (Int.tdiv length_ 8)))),r6.2.1))
  else
    (slices_partitionCmpFunc_f90_M1 n b0_3 a_1 b_1 pivot).bind fun r9 =>
    gd (r9.2.2.length=b0_3.length) <|
    bif (decide ((IntKind.wrap .i64 (r9.1 - a_1)) < (IntKind.wrap .i64 (b_1 - r9.1)))) then
      (rec r9.2.2 a_1 r9.1 limit_2).bind fun r10 =>
      gd (r10.length=b0_3.length) <|
      some (.inl (r10,(IntKind.wrap .i64 (r9.1+1)),b_1,limit_2,(decide ((IntKind.wrap .i64 (r9.1 - a_1)) ≥ (IntKind.wrap .i64 (Int.tdiv length_ 8)))),r9.2.1))
    else
      (rec r9.2.2 (IntKind.wrap .i64 (r9.1+1)) b_1 limit_2).bind fun r11 =>
      gd (r11.length=b0_3.length) <|
      some (.inl (r11,a_1,r9.1,limit_2,(decide ((IntKind.wrap .i64 (b_1 - r9.1)) ≥ (IntKind.wrap .i64 (Int.tdiv length_ 8)))),r9.2.1))
abbrev pdqB_s3 (b0_2:List TUnitConf) (a_1:Int) (b_1:Int) (limit_2:Int) (wasBalanced:Bool) (wasPartitioned:Bool) (length_:Int) (pivot:Int) (hint:Int):S:=stB [(0,.own 0 [.int .i64,.int .i64,.str,.int .i64,.int .i64] 0 b0_2.length),(1,.c (.int .i64) (.int a_1)),(2,.c (.int .i64) (.int b_1)),(3,.c (.int .i64) (.int limit_2)),(4,.fnb 50 [.unk]),(10,.c .bool (.bool wasBalanced)),(11,.c .bool (.bool wasPartitioned)),(12,.c (.int .i64) (.int length_)),(13,.c (.int .i64) (.int pivot)),(14,.c (.int .i64) (.int hint))] [(0,.row 77 (List.map e_TUnitConf b0_2))]
def pdqB_k3 (rec:(List TUnitConf→Int→Int→Int→Option (List TUnitConf))) (n:Nat) (b0_2:List TUnitConf) (a_1:Int) (b_1:Int) (limit_2:Int) (wasBalanced:Bool) (wasPartitioned:Bool) (length_:Int) (pivot:Int) (hint:Int):Option (((List TUnitConf)×Int×Int×Int×Bool×Bool) ⊕ (((List TUnitConf)))) :=
  bif (if (if wasBalanced=true then wasPartitioned else false)=true then (hint == 1) else false) then
    (slices_partialInsertionSortCmpFunc_f88_M1 n b0_2 a_1 b_1).bind fun r12 =>
    gd (r12.2.length=b0_2.length) <|
    bif r12.1 then
      some (.inr r12.2)
    else
      pdqB_k4 rec n r12.2 a_1 b_1 limit_2 wasBalanced wasPartitioned length_ pivot
  else
    pdqB_k4 rec n b0_2 a_1 b_1 limit_2 wasBalanced wasPartitioned length_ pivot
abbrev pdqB_s2 (b0_1:List TUnitConf) (a_1:Int) (b_1:Int) (limit_2:Int) (wasBalanced:Bool) (wasPartitioned:Bool) (length_:Int):S:=stB [(0,.own 0 [.int .i64,.int .i64,.str,.int .i64,.int .i64] 0 b0_1.length),(1,.c (.int .i64) (.int a_1)),(2,.c (.int .i64) (.int b_1)),(3,.c (.int .i64) (.int limit_2)),(4,.fnb 50 [.unk]),(10,.c .bool (.bool wasBalanced)),(11,.c .bool (.bool wasPartitioned)),(12,.c (.int .i64) (.int length_))] [(0,.row 77 (List.map e_TUnitConf b0_1))]
def pdqB_k2 (rec:(List TUnitConf→Int→Int→Int→Option (List TUnitConf))) (n:Nat) (b0_1:List TUnitConf) (a_1:Int) (b_1:Int) (limit_2:Int) (wasBalanced:Bool) (wasPartitioned:Bool) (length_:Int):Option (((List TUnitConf)×Int×Int×Int×Bool×Bool) ⊕ (((List TUnitConf)))) :=
  (slices_choosePivotCmpFunc_f86_M1 n b0_1 a_1 b_1).bind fun r3 =>
  bif (r3.2 == 2) then
    (slices_reverseRangeCmpFunc_f87_M1 n b0_1 a_1 b_1).bind fun r13 =>
    gd (r13.length=b0_1.length) <|
    pdqB_k3 rec n r13 a_1 b_1 limit_2 wasBalanced wasPartitioned length_ (IntKind.wrap .i64 ((IntKind.wrap .i64 (b_1 - 1)) - (IntKind.wrap .i64 (r3.1 - a_1)))) 1
  else
    pdqB_k3 rec n b0_1 a_1 b_1 limit_2 wasBalanced wasPartitioned length_ r3.1 r3.2
abbrev pdqB_t1 (b0:List TUnitConf) (a_1:Int) (b_1:Int) (limit_1:Int) (wasBalanced:Bool) (wasPartitioned:Bool):S:=stB [(0,.own 0 [.int .i64,.int .i64,.str,.int .i64,.int .i64] 0 b0.length),(1,.c (.int .i64) (.int a_1)),(2,.c (.int .i64) (.int b_1)),(3,.c (.int .i64) (.int limit_1)),(4,.fnb 50 [.unk]),(10,.c .bool (.bool wasBalanced)),(11,.c .bool (.bool wasPartitioned))] [(0,.row 77 (List.map e_TUnitConf b0))]
def pdqB_b1 (rec:(List TUnitConf→Int→Int→Int→Option (List TUnitConf))) (n:Nat) (b0:List TUnitConf) (a_1:Int) (b_1:Int) (limit_1:Int) (wasBalanced:Bool) (wasPartitioned:Bool):Option (((List TUnitConf)×Int×Int×Int×Bool×Bool) ⊕ (((List TUnitConf)))) :=
  bif (decide ((IntKind.wrap .i64 (b_1 - a_1))≤12)) then
    (slices_insertionSortCmpFunc_f83_M1 n b0 a_1 b_1).bind fun r1 =>
    gd (r1.length=b0.length) <|
    some (.inr r1)
  else
    bif (limit_1 == 0) then
      (slices_heapSortCmpFunc_f84_M1 n b0 a_1 b_1).bind fun r2 =>
      gd (r2.length=b0.length) <|
      some (.inr r2)
    else
      bif (!wasBalanced) then
        (slices_breakPatternsCmpFunc_f85_M1 n b0 a_1 b_1).bind fun r14 =>
        gd (r14.length=b0.length) <|
        pdqB_k2 rec n r14 a_1 b_1 (IntKind.wrap .i64 (limit_1 - 1)) wasBalanced wasPartitioned (IntKind.wrap .i64 (b_1 - a_1))
      else
        pdqB_k2 rec n b0 a_1 b_1 limit_1 wasBalanced wasPartitioned (IntKind.wrap .i64 (b_1 - a_1))
def pdqB (rec:(List TUnitConf→Int→Int→Int→Option (List TUnitConf))) (n:Nat) (data:List TUnitConf) (a:Int) (b:Int) (limit:Int):Option (List TUnitConf) :=
  (loopF (fun (x:(List TUnitConf)×Int×Int×Int×Bool×Bool)=>pdqB_b1 rec n x.1 x.2.1 x.2.2.1 x.2.2.2.1 x.2.2.2.2.1 x.2.2.2.2.2) n (data,a,b,limit,true,true)).bind fun y3 =>
  some y3
theorem cpdqB (rec:(List TUnitConf→Int→Int→Int→Option (List TUnitConf))) (hrec:∀ (data:List TUnitConf) (a:Int) (b:Int) (limit:Int) (r:(List TUnitConf)),rec data a b limit=some r→CallsM Try.prog 72 [.ref (.own 0 [.int .i64,.int .i64,.str,.int .i64,.int .i64] 0 data.length),.dat (false,[.int .i64]) [.int a],.dat (false,[.int .i64]) [.int b],.dat (false,[.int .i64]) [.int limit],.ref (.fnb 50 [.unk])] [.row 77 (List.map e_TUnitConf data)] [] [.row 77 (List.map e_TUnitConf r)]) (n:Nat) (data:List TUnitConf) (a:Int) (b:Int) (limit:Int) (r:(List TUnitConf)) (H:pdqB rec n data a b limit=some r):CallsM Try.prog 72 [.ref (.own 0 [.int .i64,.int .i64,.str,.int .i64,.int .i64] 0 data.length),.dat (false,[.int .i64]) [.int a],.dat (false,[.int .i64]) [.int b],.dat (false,[.int .i64]) [.int limit],.ref (.fnb 50 [.unk])] [.row 77 (List.map e_TUnitConf data)] [] [.row 77 (List.map e_TUnitConf r)]:=by
  have hΓ:=@g0 (Contract Try.prog)
  refine callsM_of (Try.f72.body.getD .skip) h00 Try.func72 rfl Try.call72 (Nat.le_of_ble_eq_true rfl) (Nat.le_of_ble_eq_true rfl) ?_
  unfold pdqB at H
  simp only [Try.f72,Option.getD]
  refine rA ?_
  refine rA ?_
  refine Sm.block ?_
  obtain ⟨y3,hy3,Ho3⟩:=bind_some H
  refine Sm.loopB _ (fun x=>pdqB_t1 x.1 x.2.1 x.2.2.1 x.2.2.2.1 x.2.2.2.2.1 x.2.2.2.2.2) hy3 (wbo [some 0]) ?_
  rintro ⟨b0,a_1,b_1,limit_1,wasBalanced,wasPartitioned⟩ z3 H
  try dsimp only at H
  unfold pdqB_b1 at H
  refine Sm.st (pdqB_t1.eq_1 ..) ?_
  refine Sm.block ?_
  refine rA ?_
  refine Sm.seqK fun K5 hK5=>?_
  refine rA ?_
  refine cnd H (fun h7 H=>?_) (fun h7 H=>?_)
  · refine sX fun K8 hK8=>?_
    obtain ⟨r1,hr1,H⟩:=bind_some H
    obtain ⟨hg9,H⟩:=gd_some H
    have q:=hr1
    iterate 4 refine oX ?_
    refine oMq (cslices_insertionSortCmpFunc_f83_M1 n _ _ _ r1 hr1) [0] [] ?_
    refine hK8 _ ?_
    refine Sm.ret ?_
    refine lf ?_
    refine lx H fun hyy=>?_
    subst hyy
    have H:=Ho3
    try dsimp only at H
    refine lf ?_
    obtain rfl:=Option.some.inj H
    exact rtM [some 0]
  refine Sm.skip ?_
  refine hK5 _ ?_
  refine Sm.seqK fun K10 hK10=>?_
  refine rA ?_
  refine cnd H (fun h12 H=>?_) (fun h12 H=>?_)
  · refine sX fun K13 hK13=>?_
    obtain ⟨r2,hr2,H⟩:=bind_some H
    obtain ⟨hg14,H⟩:=gd_some H
    have q:=hr2
    iterate 4 refine oX ?_
    refine oMq (cslices_heapSortCmpFunc_f84_M1 n _ _ _ r2 hr2) [0] [] ?_
    refine hK13 _ ?_
    refine Sm.ret ?_
    refine lf ?_
    refine lx H fun hyy=>?_
    subst hyy
    have H:=Ho3
    try dsimp only at H
    refine lf ?_
    obtain rfl:=Option.some.inj H
    exact rtM [some 0]
  refine Sm.skip ?_
  refine hK10 _ ?_
  refine Sm.cut (fun (x:(List TUnitConf)×Int)=>pdqB_s2 x.1 a_1 b_1 x.2 wasBalanced wasPartitioned (IntKind.wrap .i64 (b_1 - a_1))) (fun x=>pdqB_k2 rec n x.1 a_1 b_1 x.2 wasBalanced wasPartitioned (IntKind.wrap .i64 (b_1 - a_1))=some z3) ?_ ?_
  · refine rA ?_
    refine cnd H (fun h66 H=>?_) (fun h66 H=>?_)
    · refine sX fun K67 hK67=>?_
      obtain ⟨r14,hr14,H⟩:=bind_some H
      obtain ⟨hg68,H⟩:=gd_some H
      have q:=hr14
      iterate 4 refine oX ?_
      refine oMq (cslices_breakPatternsCmpFunc_f85_M1 n _ _ _ r14 hr14) [0] [] ?_
      refine hK67 _ ?_
      refine eA ?_
      refine lf ?_
      exact ⟨(r14,(IntKind.wrap .i64 (limit_1 - 1))),H,wbo [some 0]⟩
    refine Sm.skip ?_
    refine lf ?_
    exact ⟨(b0,limit_1),H,wbo [some 0]⟩
  rintro ⟨b0_1,limit_2⟩ H
  try dsimp only at H
  unfold pdqB_k2 at H
  refine Sm.st (pdqB_s2.eq_1 ..) ?_
  refine sX fun K15 hK15=>?_
  obtain ⟨r3,hr3,H⟩:=bind_some H
  have q:=hr3
  iterate 4 refine oX ?_
  refine oMq (cslices_choosePivotCmpFunc_f86_M1 n _ _ _ r3 hr3) [0] [] ?_
  iterate 5 refine oXq ?_
  refine hK15 _ ?_
  refine Sm.cut (fun (x:(List TUnitConf)×Int×Int)=>pdqB_s3 x.1 a_1 b_1 limit_2 wasBalanced wasPartitioned (IntKind.wrap .i64 (b_1 - a_1)) x.2.1 x.2.2) (fun x=>pdqB_k3 rec n x.1 a_1 b_1 limit_2 wasBalanced wasPartitioned (IntKind.wrap .i64 (b_1 - a_1)) x.2.1 x.2.2=some z3) ?_ ?_
  · refine rA ?_
    refine cnd H (fun h61 H=>?_) (fun h61 H=>?_)
    · refine sX fun K62 hK62=>?_
      obtain ⟨r13,hr13,H⟩:=bind_some H
      obtain ⟨hg63,H⟩:=gd_some H
      have q:=hr13
      iterate 4 refine oX ?_
      refine oMq (cslices_reverseRangeCmpFunc_f87_M1 n _ _ _ r13 hr13) [0] [] ?_
      refine hK62 _ ?_
      refine rA ?_
      refine eA ?_
      refine lf ?_
      exact ⟨(r13,(IntKind.wrap .i64 ((IntKind.wrap .i64 (b_1 - 1)) - (IntKind.wrap .i64 (r3.1 - a_1)))),1),H,wbo [some 0]⟩
    refine Sm.skip ?_
    refine lf ?_
    exact ⟨(b0_1,r3.1,r3.2),H,wbo [some 0]⟩
  rintro ⟨b0_2,pivot,hint⟩ H
  try dsimp only at H
  unfold pdqB_k3 at H
  refine Sm.st (pdqB_s3.eq_1 ..) ?_
  refine Sm.cut (fun (x:(List TUnitConf))=>pdqB_s4 x a_1 b_1 limit_2 wasBalanced wasPartitioned (IntKind.wrap .i64 (b_1 - a_1)) pivot) (fun x=>pdqB_k4 rec n x a_1 b_1 limit_2 wasBalanced wasPartitioned (IntKind.wrap .i64 (b_1 - a_1)) pivot=some z3) ?_ ?_
  · refine rA ?_
    refine cnd H (fun h56 H=>?_) (fun h56 H=>?_)
    · refine sX fun K57 hK57=>?_
      obtain ⟨r12,hr12,H⟩:=bind_some H
      obtain ⟨hg58,H⟩:=gd_some H
      have q:=hr12
      iterate 4 refine oX ?_
      refine oMq (cslices_partialInsertionSortCmpFunc_f88_M1 n _ _ _ r12 hr12) [0] [] ?_
      refine hK57 _ ?_
      refine cnd H (fun h59 H=>?_) (fun h59 H=>?_)
      · refine Sm.ret ?_
        refine lf ?_
        refine lx H fun hyy=>?_
        subst hyy
        have H:=Ho3
        try dsimp only at H
        refine lf ?_
        obtain rfl:=Option.some.inj H
        exact rtM [some 0]
      refine Sm.skip ?_
      refine lf ?_
      exact ⟨_,H,wbo [some 0]⟩
    refine Sm.skip ?_
    refine lf ?_
    exact ⟨_,H,wbo [some 0]⟩
  rintro b0_3 H
  try dsimp only at H
  unfold pdqB_k4 at H
  refine Sm.st (pdqB_s4.eq_1 ..) ?_
  refine Sm.seqK fun K16 hK16=>?_
  obtain ⟨⟨hg18,hg19,hg20,hg21⟩,H⟩:=gd_some H
  refine bif_cases H (fun hs22 H=>?_) (fun hs22 H=>?_)
  · try simp only [hs22,Bool.not_false,Bool.not_true,Bool.false_eq_true,true_implies,false_implies,forall_const] at hg18
    try simp only [hs22,Bool.not_false,Bool.not_true,Bool.false_eq_true,true_implies,false_implies,forall_const] at hg19
    try simp only [hs22,Bool.not_false,Bool.not_true,Bool.false_eq_true,true_implies,false_implies,forall_const] at hg20
    try simp only [hs22,Bool.not_false,Bool.not_true,Bool.false_eq_true,true_implies,false_implies,forall_const] at hg21
    obtain ⟨hg23,H⟩:=gd_some H
    obtain ⟨r4,hr4,H⟩:=bind_some H
    refine sE [0,1,2,3,4,5,6,7,8,9,10,11,12,13,14,15,16] [(none,[],[]),(none,[],[]),(none,[],[]),(none,[],[]),(none,[],[]),(none,[],[]),(none,[],[]),(none,[0],[]),(none,[0],[]),(none,[],[]),(none,[],[]),(none,[0],[]),(none,[0],[]),(none,[],[]),(some true,[],[]),(some true,[],[]),(some true,[],[])] [(13,(⟨_,_,_,_,_,[],[],cenqueue_pool__byAddr_M1 n _ _ r4 hr4⟩:MT Try.prog))] fun K17 hK17=>?_
    have q:=And.intro hs22 hr4
    iterate 13 refine eQq ?_
    refine eB ?_
    iterate 3 refine eQq ?_
    refine opsE0 ?_
    refine hK17 _ ?_
    refine cnd H (fun h24 H=>?_) (fun h24 H=>?_)
    · refine sX fun K25 hK25=>?_
      obtain ⟨r5,hr5,H⟩:=bind_some H
      obtain ⟨hg26,H⟩:=gd_some H
      have q:=hr5
      iterate 5 refine oX ?_
      refine oMq (cslices_partitionEqualCmpFunc_f89_M1 n _ _ _ _ r5 hr5) [0] [] ?_
      refine oXq ?_
      refine hK25 _ ?_
      refine rA ?_
      refine Sm.exit ?_
      refine lf ?_
      exact nx H (wbo [some 0])
    refine Sm.skip ?_
    refine hK16 _ ?_
    refine sX fun K28 hK28=>?_
    obtain ⟨r6,hr6,H⟩:=bind_some H
    obtain ⟨hg29,H⟩:=gd_some H
    have q:=hr6
    iterate 5 refine oX ?_
    refine oMq (cslices_partitionCmpFunc_f90_M1 n _ _ _ _ r6 hr6) [0] [] ?_
    iterate 5 refine oXq ?_
    refine hK28 _ ?_
    refine rA ?_
    refine rA ?_
    refine rA ?_
    refine rA ?_
    refine cnd H (fun h34 H=>?_) (fun h34 H=>?_)
    · refine rA ?_
      refine sX fun K36 hK36=>?_
      obtain ⟨r7,hr7,H⟩:=bind_some H
      obtain ⟨hg37,H⟩:=gd_some H
      have q:=And.intro hr7 hg29
      iterate 5 refine oX ?_
      refine oMq (hrec _ _ _ _ r7 hr7) [0] [] ?_
      refine hK36 _ ?_
      refine eA ?_
      refine lf ?_
      exact nx H (wbo [some 0])
    refine rA ?_
    refine sX fun K39 hK39=>?_
    obtain ⟨r8,hr8,H⟩:=bind_some H
    obtain ⟨hg40,H⟩:=gd_some H
    have q:=And.intro hr8 hg29
    iterate 6 refine oX ?_
    refine oMq (hrec _ _ _ _ r8 hr8) [0] [] ?_
    refine hK39 _ ?_
    refine eA ?_
    refine lf ?_
    exact nx H (wbo [some 0])
  try simp only [hs22,Bool.not_false,Bool.not_true,Bool.false_eq_true,true_implies,false_implies,forall_const] at hg18
  try simp only [hs22,Bool.not_false,Bool.not_true,Bool.false_eq_true,true_implies,false_implies,forall_const] at hg19
  try simp only [hs22,Bool.not_false,Bool.not_true,Bool.false_eq_true,true_implies,false_implies,forall_const] at hg20
  try simp only [hs22,Bool.not_false,Bool.not_true,Bool.false_eq_true,true_implies,false_implies,forall_const] at hg21
  refine sQ [0,1,2,3,4,5,6,7,8,9,10,11,12,13,14,15,16] [(none,[],[]),(none,[],[]),(none,[],[]),(none,[],[]),(none,[],[]),(none,[],[]),(none,[],[]),(none,[0],[]),(none,[0],[]),(none,[],[]),(none,[],[]),(none,[0],[]),(none,[0],[]),(some false,[],[]),(some false,[],[]),(some false,[],[]),(some false,[],[])] fun K17 hK17=>?_
  have q:=hs22
  iterate 17 refine oQq ?_
  refine opsQ0 ?_
  refine hK17 _ ?_
  refine cndF ?_
  refine Sm.skip ?_
  refine hK16 _ ?_
  refine sX fun K42 hK42=>?_
  obtain ⟨r9,hr9,H⟩:=bind_some H
  obtain ⟨hg43,H⟩:=gd_some H
  have q:=hr9
  iterate 5 refine oX ?_
  refine oMq (cslices_partitionCmpFunc_f90_M1 n _ _ _ _ r9 hr9) [0] [] ?_
  iterate 5 refine oXq ?_
  refine hK42 _ ?_
  refine rA ?_
  refine rA ?_
  refine rA ?_
  refine rA ?_
  refine cnd H (fun h48 H=>?_) (fun h48 H=>?_)
  · refine rA ?_
    refine sX fun K50 hK50=>?_
    obtain ⟨r10,hr10,H⟩:=bind_some H
    obtain ⟨hg51,H⟩:=gd_some H
    have q:=And.intro hr10 hg43
    iterate 5 refine oX ?_
    refine oMq (hrec _ _ _ _ r10 hr10) [0] [] ?_
    refine hK50 _ ?_
    refine eA ?_
    refine lf ?_
    exact nx H (wbo [some 0])
  refine rA ?_
  refine sX fun K53 hK53=>?_
  obtain ⟨r11,hr11,H⟩:=bind_some H
  obtain ⟨hg54,H⟩:=gd_some H
  have q:=And.intro hr11 hg43
  iterate 6 refine oX ?_
  refine oMq (hrec _ _ _ _ r11 hr11) [0] [] ?_
  refine hK53 _ ?_
  refine eA ?_
  refine lf ?_
  exact nx H (wbo [some 0])
def pdqR (n:Nat):Nat→List TUnitConf→Int→Int→Int→Option (List TUnitConf)
  | 0=>fun _ _ _ _=>none
  | k+1=>fun data a b limit=>pdqB (pdqR n k) n data a b limit
theorem cpdqR (n:Nat):∀ (k:Nat) (data:List TUnitConf) (a:Int) (b:Int) (limit:Int) (r:(List TUnitConf)),pdqR n k data a b limit=some r→CallsM Try.prog 72 [.ref (.own 0 [.int .i64,.int .i64,.str,.int .i64,.int .i64] 0 data.length),.dat (false,[.int .i64]) [.int a],.dat (false,[.int .i64]) [.int b],.dat (false,[.int .i64]) [.int limit],.ref (.fnb 50 [.unk])] [.row 77 (List.map e_TUnitConf data)] [] [.row 77 (List.map e_TUnitConf r)]
  | 0,_,_,_,_,_,h=>by cases h
  | k+1,data,a,b,limit,r,h=>cpdqB (pdqR n k) (cpdqR n k) n data a b limit r h
def pdq_M (n:Nat) (data:List TUnitConf) (a:Int) (b:Int) (limit:Int):Option (List TUnitConf):=pdqR n n data a b limit
theorem cpdq_M (n:Nat) (data:List TUnitConf) (a:Int) (b:Int) (limit:Int) (r:(List TUnitConf)) (H:pdq_M n data a b limit=some r):CallsM Try.prog 72 [.ref (.own 0 [.int .i64,.int .i64,.str,.int .i64,.int .i64] 0 data.length),.dat (false,[.int .i64]) [.int a],.dat (false,[.int .i64]) [.int b],.dat (false,[.int .i64]) [.int limit],.ref (.fnb 50 [.unk])] [.row 77 (List.map e_TUnitConf data)] [] [.row 77 (List.map e_TUnitConf r)]:=cpdqR n n data a b limit r H
def slices_SortFunc_f49_M1 (n:Nat) (x_:List TUnitConf):Option (List TUnitConf) :=
  (math_bits_Len n (IntKind.wrap .u64 (((x_.length:Nat):Int)))).bind fun r1 =>
  (pdq_M n x_ 0 ((x_.length:Nat):Int) r1).bind fun r2 =>
  gd (r2.length=x_.length) <|
  some r2
theorem cslices_SortFunc_f49_M1 (n:Nat) (x_:List TUnitConf) (r:(List TUnitConf)) (H:slices_SortFunc_f49_M1 n x_=some r):CallsM Try.prog 49 [.ref (.own 0 [.int .i64,.int .i64,.str,.int .i64,.int .i64] 0 x_.length),.ref (.fnb 50 [.unk])] [.row 77 (List.map e_TUnitConf x_)] [] [.row 77 (List.map e_TUnitConf r)]:=by
  have hΓ:=g1 (cmath_bits_Len n) (@g0 (Contract Try.prog))
  refine callsM_of (Try.f49.body.getD .skip) h00 Try.func49 rfl Try.call49 (Nat.le_of_ble_eq_true rfl) (Nat.le_of_ble_eq_true rfl) ?_
  unfold slices_SortFunc_f49_M1 at H
  simp only [Try.f49,Option.getD]
  refine rA ?_
  refine eX ?_
  obtain ⟨r1,hr1,H⟩:=bind_some H
  obtain ⟨r2,hr2,H⟩:=bind_some H
  obtain ⟨hg2,H⟩:=gd_some H
  have q:=And.intro @xmath_bits_Len.eq_1 (And.intro hr1 hr2)
  iterate 6 refine oXq ?_
  refine oMq (cpdq_M n _ _ _ _ r2 hr2) [0] [] ?_
  refine opsX0 ?_
  refine lf ?_
  obtain rfl:=Option.some.inj H
  exact rtM [some 0]
def enqueue_suits (n:Nat) (u:TUnitConf) (n_:TNeed):Option Bool :=
  gd ((((u.Kind == n_.Kind) && !(n_.Serial == []))=true→((u.Kind == n_.Kind) && (!(n_.Serial == [])))=true)) <|
  some (if (u.Kind == n_.Kind)=true then (if (n_.Serial == [])=true then true else (n_.Serial == u.Serial)) else false)
def xenqueue_suits (n:Nat):Go.AE.Fn:=mkFn (A:=TUnitConf×TNeed) (R:=Bool) 52 [(true,[.int .i64,.int .i64,.str,.int .i64,.int .i64]),(true,[.int .i64,.str])] false (fun xs=>((⟨(cg (xs.getD 0 []) 0).toInt,(cg (xs.getD 0 []) 1).toInt,(cg (xs.getD 0 []) 2).toStr,(cg (xs.getD 0 []) 3).toInt,(cg (xs.getD 0 []) 4).toInt⟩:TUnitConf),(⟨(cg (xs.getD 1 []) 0).toInt,(cg (xs.getD 1 []) 1).toStr⟩:TNeed))) (fun a=>[[.int a.1.Addr,.int a.1.Kind,.str a.1.Serial,.int a.1.Cyls,.int a.1.Heads],[.int a.2.Kind,.str a.2.Serial]]) (fun a=>enqueue_suits n a.1 a.2) (fun r=>[.c .bool (.bool r)]) (fun r=>[])
theorem cenqueue_suits (n:Nat):Contract Try.prog (xenqueue_suits n):=by
  have hΓ:=@g0 (Contract Try.prog)
  refine contract_f (Try.f52.body.getD .skip) h00 Try.func52 rfl Try.call52 (by decide) (by intro _ r;exact ⟨rfl,by simp⟩) ?_
  rintro ⟨u,n_⟩ r H
  try dsimp only at H
  unfold enqueue_suits at H
  simp only [Try.f52,Option.getD]
  refine rA ?_
  obtain ⟨hg3,H⟩:=gd_some H
  refine rA ?_
  refine Sm.ret ?_
  refine lf ?_
  obtain rfl:=Option.some.inj H
  exact rt []
def enqueue_Assign_2_M1 (n:Nat) (u:TUnitConf) (p1:Int) (p1_:List UInt8):Option Bool :=
  (enqueue_suits n u (⟨p1,p1_⟩:TNeed)).bind fun r1 =>
  some r1
theorem cenqueue_Assign_2_M1 (n:Nat) (u:TUnitConf) (p1:Int) (p1_:List UInt8) (r:Bool) (H:enqueue_Assign_2_M1 n u p1 p1_=some r):CallsM Try.prog 51 [.dat (true,[.int .i64,.int .i64,.str,.int .i64,.int .i64]) [.int u.Addr,.int u.Kind,.str u.Serial,.int u.Cyls,.int u.Heads],.ref (.box 0 0)] [.box [.c (.int .i64) (.int p1),.c .str (.str p1_)]] [.c .bool (.bool r)] [.box [.c (.int .i64) (.int p1),.c .str (.str p1_)]]:=by
  have hΓ:=g1 (cenqueue_suits n) (@g0 (Contract Try.prog))
  refine callsM_of (Try.f51.body.getD .skip) h00 Try.func51 rfl Try.call51 (Nat.le_of_ble_eq_true rfl) (Nat.le_of_ble_eq_true rfl) ?_
  unfold enqueue_Assign_2_M1 at H
  simp only [Try.f51,Option.getD]
  refine rA ?_
  obtain ⟨r1,hr1,H⟩:=bind_some H
  have q:=And.intro @xenqueue_suits.eq_1 hr1
  refine rAq ?_
  refine Sm.ret ?_
  refine lf ?_
  obtain rfl:=Option.some.inj H
  exact rtM [some 0]
abbrev slices_IndexFunc_f71_M3_s1 (s:List TUnitConf) (f:Int) (f_:List UInt8):S:=stB [] [(0,.row 77 (List.map e_TUnitConf s)),(1,.box [.c (.int .i64) (.int f),.c .str (.str f_)])]
def slices_IndexFunc_f71_M3_k1 (n:Nat) (s:List TUnitConf) (f:Int) (f_:List UInt8):Option Int :=
  some (-1)
abbrev slices_IndexFunc_f71_M3_t2 (s:List TUnitConf) (f:Int) (f_:List UInt8) (v7:Int) (v8:Int):S:=stB [(0,.own 0 [.int .i64,.int .i64,.str,.int .i64,.int .i64] 0 s.length),(1,.fnv 51 [.box 1 0]),(7,.c (.int .i64) (.int v7)),(8,.c (.int .i64) (.int v8))] [(0,.row 77 (List.map e_TUnitConf s)),(1,.box [.c (.int .i64) (.int f),.c .str (.str f_)])]
def slices_IndexFunc_f71_M3_b2 (n:Nat) (s:List TUnitConf) (f:Int) (f_:List UInt8) (v7:Int) (v8:Int):Option ((Int) ⊕ (((Int) ⊕ (Unit)))) :=
  bif (decide (v8 < v7)) then
    gd ((0≤v8∧v8 < (s.length:Int))∧(Int.toNat v8) < s.length) <|
    (enqueue_Assign_2_M1 n (gt s (Int.toNat v8)) f f_).bind fun r1 =>
    bif r1 then
      some (.inr (.inl v8))
    else
      some (.inl (IntKind.wrap .i64 (v8+1)))
  else
    some (.inr (.inr ()))
def slices_IndexFunc_f71_M3 (n:Nat) (s:List TUnitConf) (f:Int) (f_:List UInt8):Option Int :=
  (loopF (fun (x:Int)=>slices_IndexFunc_f71_M3_b2 n s f f_ ((s.length:Nat):Int) x) n 0).bind fun y4 =>
  match y4 with
  | .inl vv =>
    some vv
  | .inr vv =>
    slices_IndexFunc_f71_M3_k1 n s f f_
theorem cslices_IndexFunc_f71_M3 (n:Nat) (s:List TUnitConf) (f:Int) (f_:List UInt8) (r:Int) (H:slices_IndexFunc_f71_M3 n s f f_=some r):CallsM Try.prog 71 [.ref (.own 0 [.int .i64,.int .i64,.str,.int .i64,.int .i64] 0 s.length),.ref (.fnv 51 [.box 1 0])] [.row 77 (List.map e_TUnitConf s),.box [.c (.int .i64) (.int f),.c .str (.str f_)]] [.c (.int .i64) (.int r)] [.row 77 (List.map e_TUnitConf s),.box [.c (.int .i64) (.int f),.c .str (.str f_)]]:=by
  have hΓ:=@g0 (Contract Try.prog)
  refine callsM_of (Try.f71.body.getD .skip) h00 Try.func71 rfl Try.call71 (Nat.le_of_ble_eq_true rfl) (Nat.le_of_ble_eq_true rfl) ?_
  unfold slices_IndexFunc_f71_M3 at H
  simp only [Try.f71,Option.getD]
  refine rA ?_
  refine Sm.cut (fun (x:Unit)=>slices_IndexFunc_f71_M3_s1 s f f_) (fun x=>slices_IndexFunc_f71_M3_k1 n s f f_=some r) ?_ ?_
  · refine rA ?_
    refine Sm.block ?_
    obtain ⟨y4,hy4,Ho4⟩:=bind_some H
    refine Sm.loopB _ (fun x=>slices_IndexFunc_f71_M3_t2 s f f_ ((s.length:Nat):Int) x) hy4 (wb [some 0,some 1]) ?_
    rintro v8 z4 H
    try dsimp only at H
    unfold slices_IndexFunc_f71_M3_b2 at H
    refine Sm.st (slices_IndexFunc_f71_M3_t2.eq_1 ..) ?_
    refine rA ?_
    refine Sm.seqK fun K6 hK6=>?_
    refine cnd H (fun h7 H=>?_) (fun h7 H=>?_)
    · refine Sm.skip ?_
      refine hK6 _ ?_
      refine Sm.seqK fun K8 hK8=>?_
      refine Sm.block ?_
      refine rA ?_
      refine sX fun K10 hK10=>?_
      obtain ⟨⟨hg11,hg12⟩,H⟩:=gd_some H
      obtain ⟨r1,hr1,H⟩:=bind_some H
      have q:=hr1
      iterate 5 refine oX ?_
      refine oMq (cenqueue_Assign_2_M1 n _ _ _ r1 hr1) [1] [] ?_
      refine hK10 _ ?_
      refine cnd H (fun h13 H=>?_) (fun h13 H=>?_)
      · refine rA ?_
        refine Sm.ret ?_
        refine lf ?_
        refine lx H fun hyy=>?_
        subst hyy
        have H:=Ho4
        try dsimp only at H
        refine lf ?_
        obtain rfl:=Option.some.inj H
        exact rtM [some 0,some 1]
      refine Sm.skip ?_
      refine hK8 _ ?_
      refine eA ?_
      refine lf ?_
      exact nx H (wb [some 0,some 1])
    refine Sm.exit ?_
    refine lf ?_
    refine lx H fun hyy=>?_
    subst hyy
    have H:=Ho4
    try dsimp only at H
    refine lf ?_
    exact ⟨(),H,wb [some 0,some 1]⟩
  rintro ⟨⟩ H
  try dsimp only at H
  unfold slices_IndexFunc_f71_M3_k1 at H
  refine Sm.st (slices_IndexFunc_f71_M3_s1.eq_1 ..) ?_
  refine rA ?_
  refine Sm.ret ?_
  refine lf ?_
  obtain rfl:=Option.some.inj H
  exact rtM [some 0,some 1]
def enqueue_some_f47_M3 (n:Nat) (l:List TUnitConf) (has:Int) (has_:List UInt8):Option Bool :=
  (slices_IndexFunc_f71_M3 n l has has_).bind fun r1 =>
  some (decide (r1 ≥ 0))
theorem cenqueue_some_f47_M3 (n:Nat) (l:List TUnitConf) (has:Int) (has_:List UInt8) (r:Bool) (H:enqueue_some_f47_M3 n l has has_=some r):CallsM Try.prog 47 [.ref (.own 0 [.int .i64,.int .i64,.str,.int .i64,.int .i64] 0 l.length),.ref (.fnv 51 [.box 1 0])] [.row 77 (List.map e_TUnitConf l),.box [.c (.int .i64) (.int has),.c .str (.str has_)]] [.c .bool (.bool r)] [.row 77 (List.map e_TUnitConf l),.box [.c (.int .i64) (.int has),.c .str (.str has_)]]:=by
  have hΓ:=@g0 (Contract Try.prog)
  refine callsM_of (Try.f47.body.getD .skip) h00 Try.func47 rfl Try.call47 (Nat.le_of_ble_eq_true rfl) (Nat.le_of_ble_eq_true rfl) ?_
  unfold enqueue_some_f47_M3 at H
  simp only [Try.f47,Option.getD]
  refine rA ?_
  refine sX fun K2 hK2=>?_
  obtain ⟨r1,hr1,H⟩:=bind_some H
  have q:=hr1
  iterate 2 refine oX ?_
  refine oMq (cslices_IndexFunc_f71_M3 n _ _ _ r1 hr1) [0,1] [] ?_
  iterate 2 refine oXq ?_
  refine hK2 _ ?_
  refine Sm.ret ?_
  refine lf ?_
  obtain rfl:=Option.some.inj H
  exact rtM [some 0,some 1]
abbrev slices_Index_f94_s1:S:=stB [] []
def slices_Index_f94_k1 (n:Nat):Option Int :=
  some (-1)
abbrev slices_Index_f94_t2 (s:List Int) (v:Int) (v7:Int) (v8:Int):S:=stB [(0,.c (.slice 3) (.slice (List.map e_Int s))),(1,.c (.int .i64) (.int v)),(7,.c (.int .i64) (.int v7)),(8,.c (.int .i64) (.int v8))] []
def slices_Index_f94_b2 (n:Nat) (s:List Int) (v:Int) (v7:Int) (v8:Int):Option ((Int) ⊕ (((Int) ⊕ (Unit)))) :=
  bif (decide (v8 < v7)) then
    gd ((0≤v8∧v8 < (s.length:Int))) <|
    bif (v == (gt s (Int.toNat v8))) then
      some (.inr (.inl v8))
    else
      some (.inl (IntKind.wrap .i64 (v8+1)))
  else
    some (.inr (.inr ()))
def slices_Index_f94 (n:Nat) (s:List Int) (v:Int):Option Int :=
  (loopF (fun (x:Int)=>slices_Index_f94_b2 n s v (s.length:Int) x) n 0).bind fun y4 =>
  match y4 with
  | .inl vv =>
    some vv
  | .inr vv =>
    slices_Index_f94_k1 n
def xslices_Index_f94 (n:Nat):Go.AE.Fn:=mkFn (A:=(List Int)×Int) (R:=Int) 94 [(false,[.slice 3]),(false,[.int .i64])] false (fun xs=>(((cg (xs.getD 0 []) 0).toSl.map d_Int),(cg (xs.getD 1 []) 0).toInt)) (fun a=>[[.slice (List.map e_Int a.1)],[.int a.2]]) (fun a=>slices_Index_f94 n a.1 a.2) (fun r=>[.c (.int .i64) (.int r)]) (fun r=>[])
theorem cslices_Index_f94 (n:Nat):Contract Try.prog (xslices_Index_f94 n):=by
  have hΓ:=@g0 (Contract Try.prog)
  refine contract_f (Try.f94.body.getD .skip) h00 Try.func94 rfl Try.call94 (by decide) (by intro _ r;exact ⟨rfl,by simp⟩) ?_
  rintro ⟨s,v⟩ r H
  try dsimp only at H
  unfold slices_Index_f94 at H
  simp only [Try.f94,Option.getD]
  refine rA ?_
  refine Sm.cut (fun (x:Unit)=>slices_Index_f94_s1) (fun x=>slices_Index_f94_k1 n=some r) ?_ ?_
  · refine rA ?_
    refine Sm.block ?_
    obtain ⟨y4,hy4,Ho4⟩:=bind_some H
    refine Sm.loopB _ (fun x=>slices_Index_f94_t2 s v (s.length:Int) x) hy4 (wb []) ?_
    rintro v8 z4 H
    try dsimp only at H
    unfold slices_Index_f94_b2 at H
    refine Sm.st (slices_Index_f94_t2.eq_1 ..) ?_
    refine rA ?_
    refine Sm.seqK fun K6 hK6=>?_
    refine cnd H (fun h7 H=>?_) (fun h7 H=>?_)
    · refine Sm.skip ?_
      refine hK6 _ ?_
      refine Sm.seqK fun K8 hK8=>?_
      refine Sm.block ?_
      refine rA ?_
      obtain ⟨hg13,H⟩:=gd_some H
      refine rA ?_
      refine cnd H (fun h11 H=>?_) (fun h11 H=>?_)
      · refine rA ?_
        refine Sm.ret ?_
        refine lf ?_
        refine lx H fun hyy=>?_
        subst hyy
        have H:=Ho4
        try dsimp only at H
        refine lf ?_
        obtain rfl:=Option.some.inj H
        exact rt []
      refine Sm.skip ?_
      refine hK8 _ ?_
      refine eA ?_
      refine lf ?_
      exact nx H (wb [])
    refine Sm.exit ?_
    refine lf ?_
    refine lx H fun hyy=>?_
    subst hyy
    have H:=Ho4
    try dsimp only at H
    refine lf ?_
    exact ⟨(),H,wb []⟩
  rintro ⟨⟩ H
  try dsimp only at H
  unfold slices_Index_f94_k1 at H
  refine Sm.st (slices_Index_f94_s1.eq_1 ..) ?_
  refine rA ?_
  refine Sm.ret ?_
  refine lf ?_
  obtain rfl:=Option.some.inj H
  exact rt []
def slices_Contains_f75 (n:Nat) (s:List Int) (v:Int):Option Bool :=
  (slices_Index_f94 n s v).bind fun r1 =>
  some (decide (r1 ≥ 0))
def xslices_Contains_f75 (n:Nat):Go.AE.Fn:=mkFn (A:=(List Int)×Int) (R:=Bool) 75 [(false,[.slice 3]),(false,[.int .i64])] false (fun xs=>(((cg (xs.getD 0 []) 0).toSl.map d_Int),(cg (xs.getD 1 []) 0).toInt)) (fun a=>[[.slice (List.map e_Int a.1)],[.int a.2]]) (fun a=>slices_Contains_f75 n a.1 a.2) (fun r=>[.c .bool (.bool r)]) (fun r=>[])
theorem cslices_Contains_f75 (n:Nat):Contract Try.prog (xslices_Contains_f75 n):=by
  have hΓ:=g1 (cslices_Index_f94 n) (@g0 (Contract Try.prog))
  refine contract_f (Try.f75.body.getD .skip) h00 Try.func75 rfl Try.call75 (by decide) (by intro _ r;exact ⟨rfl,by simp⟩) ?_
  rintro ⟨s,v⟩ r H
  try dsimp only at H
  unfold slices_Contains_f75 at H
  simp only [Try.f75,Option.getD]
  refine rA ?_
  obtain ⟨r1,hr1,H⟩:=bind_some H
  have q:=And.intro @xslices_Index_f94.eq_1 hr1
  refine rAq ?_
  refine Sm.ret ?_
  refine lf ?_
  obtain rfl:=Option.some.inj H
  exact rt []
end Go.Proofs.Ytcdofkflbnpjjaa
