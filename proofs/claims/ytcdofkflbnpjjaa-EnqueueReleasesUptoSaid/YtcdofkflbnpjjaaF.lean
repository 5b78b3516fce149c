/- Text. -/
import Derived.Test.YtcdofkflbnpjjaaT
import Derived.Test.YtcdofkflbnpjjaaN
set_option maxHeartbeats 8000000
set_option linter.unusedVariables false
set_option linter.unusedSimpArgs false
set_option maxRecDepth 100000
namespace Go.Proofs.Ytcdofkflbnpjjaa
open Go.AE
def law37_one (n : Nat) (name : List UInt8) (exclusive : Bool) : Option (List TWant) :=
  some [(⟨name, exclusive⟩ : TWant)]
def xlaw37_one (n : Nat) : Go.AE.Fn := mkFn (A := (List UInt8) × Bool) (R := (List TWant)) 32 [(false, [.str]), (false, [.bool])] false (fun xs => ((cg (xs.getD 0 []) 0).toStr, (cg (xs.getD 1 []) 0).toBool)) (fun a => [[.str a.1], [.bool a.2]]) (fun a => law37_one n a.1 a.2) (fun r => [.own 0 [.str, .bool] 0 r.length]) (fun r => [.row 92 (List.map e_TWant r)])
theorem claw37_one (n : Nat) : Contract Try.prog (xlaw37_one n) := by
  have hΓ := @g0 (Contract Try.prog)
  refine contract_f (Try.f32.body.getD .skip) h00 Try.func32 rfl Try.call32 (by decide) (fun _ r => ⟨rfl, m1 ⟨92, _, _, rfl, ty92, rfl⟩ m0⟩) ?_
  rintro ⟨name, exclusive⟩ r H
  try dsimp only at H
  unfold law37_one at H
  simp only [Try.f32, Option.getD]
  refine rA ?_
  refine rA ?_
  refine Sm.ret ?_
  refine lf ?_
  obtain rfl := Option.some.inj H
  exact rto [some 128]
abbrev enqueue_Request__normal_s1 (r_ : TRequest) : S := stB [(1, .box 9000 0)] [(9000, .box [.c (.int .i64) (.int r_.Job), .c (.slice 92) (.slice (List.map e_TWant r_.Wants))])]
def enqueue_Request__normal_k1 (n : Nat) (r_ : TRequest) : Option Bool :=
  some (decide ((r_.Wants.length : Int) ≤ 512))
abbrev enqueue_Request__normal_t2 (r_ : TRequest) (k : Int) : S := stB [(1, .box 9002 0), (3, .c (.int .i64) (.int k))] [(9002, .box [.c (.int .i64) (.int r_.Job), .c (.slice 92) (.slice (List.map e_TWant r_.Wants))])]
def enqueue_Request__normal_b2 (n : Nat) (r_ : TRequest) (k : Int) : Option ((Int) ⊕ (((Bool) ⊕ (Unit)))) :=
  bif (decide (k < (r_.Wants.length : Int))) then
    gd ((0 ≤ (IntKind.wrap .i64 (k - 1)) ∧ (IntKind.wrap .i64 (k - 1)) < (r_.Wants.length : Int)) ∧ (0 ≤ k ∧ k < (r_.Wants.length : Int))) <|
    bif (!Op.bytesLess ((gt r_.Wants (Int.toNat (IntKind.wrap .i64 (k - 1)))).Name) ((gt r_.Wants (Int.toNat k)).Name)) then
      some (.inr (.inl false))
    else
      some (.inl (IntKind.wrap .i64 (k + 1)))
  else
    some (.inr (.inr ()))
def enqueue_Request__normal (n : Nat) (r_ : TRequest) : Option Bool :=
  (loopF (fun (x : Int) => enqueue_Request__normal_b2 n r_ x) n 1).bind fun y4 =>
  match y4 with
  | .inl vv =>
    some vv
  | .inr vv =>
    enqueue_Request__normal_k1 n r_
def xenqueue_Request__normal (n : Nat) : Go.AE.Fn := mkFn (A := TRequest) (R := Bool) 45 [(true, [.int .i64, .slice 92])] false (fun xs => (⟨(cg (xs.getD 0 []) 0).toInt, ((cg (xs.getD 0 []) 1).toSl.map d_TWant)⟩ : TRequest)) (fun a => [[.int a.Job, .slice (List.map e_TWant a.Wants)]]) (fun a => enqueue_Request__normal n a) (fun r => [.c .bool (.bool r)]) (fun r => [])
theorem cenqueue_Request__normal (n : Nat) : Contract Try.prog (xenqueue_Request__normal n) := by
  have hΓ := @g0 (Contract Try.prog)
  refine contract_f (Try.f45.body.getD .skip) h00 Try.func45 rfl Try.call45 (by decide) (by intro _ r; exact ⟨rfl, by simp⟩) ?_
  rintro r_ r H
  try dsimp only at H
  unfold enqueue_Request__normal at H
  simp only [Try.f45, Option.getD]
  refine rA ?_
  refine Sm.cut (fun (x : Unit) => enqueue_Request__normal_s1 r_) (fun x => enqueue_Request__normal_k1 n r_ = some r) ?_ ?_
  · refine rA ?_
    refine Sm.block ?_
    obtain ⟨y4, hy4, Ho4⟩ := bind_some H
    refine Sm.loopB _ (fun x => enqueue_Request__normal_t2 r_ x) hy4 (wb [some 16]) ?_
    rintro k z4 H
    try dsimp only at H
    unfold enqueue_Request__normal_b2 at H
    refine Sm.st (enqueue_Request__normal_t2.eq_1 ..) ?_
    refine Sm.seqK fun K5 hK5 => ?_
    refine rA ?_
    refine cnd H (fun h7 H => ?_) (fun h7 H => ?_)
    · refine Sm.skip ?_
      refine hK5 _ ?_
      refine Sm.seqK fun K8 hK8 => ?_
      refine Sm.block ?_
      obtain ⟨⟨hg12, hg13⟩, H⟩ := gd_some H
      refine rD ?_
      refine cnd H (fun h10 H => ?_) (fun h10 H => ?_)
      · refine rA ?_
        refine Sm.ret ?_
        refine lf ?_
        refine lx H fun hyy => ?_
        subst hyy
        have H := Ho4
        try dsimp only at H
        refine lf ?_
        obtain rfl := Option.some.inj H
        exact rt []
      refine Sm.skip ?_
      refine hK8 _ ?_
      refine eA ?_
      refine lf ?_
      exact nx H (wb [some 9002])
    refine Sm.exit ?_
    refine lf ?_
    refine lx H fun hyy => ?_
    subst hyy
    have H := Ho4
    try dsimp only at H
    refine lf ?_
    exact ⟨(), H, wb [some 9002]⟩
  rintro ⟨⟩ H
  try dsimp only at H
  unfold enqueue_Request__normal_k1 at H
  refine Sm.st (enqueue_Request__normal_s1.eq_1 ..) ?_
  refine rA ?_
  refine Sm.ret ?_
  refine lf ?_
  obtain rfl := Option.some.inj H
  exact rt []
def enqueue_Request__blocked_1_1_1_M1 (n : Nat) (b : TWant) (p1 : List UInt8) (p1_ : Bool) : Option Bool :=
  gd ((((p1 == b.Name) && !p1_) = true → ((p1 == b.Name) && (!p1_)) = true)) <|
  some (if (p1 == b.Name) = true then (if p1_ = true then true else b.Exclusive) else false)
theorem cenqueue_Request__blocked_1_1_1_M1 (n : Nat) (b : TWant) (p1 : List UInt8) (p1_ : Bool) (r : Bool) (H : enqueue_Request__blocked_1_1_1_M1 n b p1 p1_ = some r) : CallsM Try.prog 63 [.dat (true, [.str, .bool]) [.str b.Name, .bool b.Exclusive], .ref (.box 0 0)] [.box [.c .str (.str p1), .c .bool (.bool p1_)]] [.c .bool (.bool r)] [.box [.c .str (.str p1), .c .bool (.bool p1_)]] := by
  have hΓ := @g0 (Contract Try.prog)
  refine callsM_of (Try.f63.body.getD .skip) h00 Try.func63 rfl Try.call63 (Nat.le_of_ble_eq_true rfl) (Nat.le_of_ble_eq_true rfl) ?_
  unfold enqueue_Request__blocked_1_1_1_M1 at H
  simp only [Try.f63, Option.getD]
  refine rA ?_
  obtain ⟨hg3, H⟩ := gd_some H
  refine rA ?_
  refine Sm.ret ?_
  refine lf ?_
  obtain rfl := Option.some.inj H
  exact rtM [some 0]
abbrev slices_IndexFunc_f80_M2_s1 (f : List UInt8) (f_ : Bool) : S := stB [] [(0, .box [.c .str (.str f), .c .bool (.bool f_)])]
def slices_IndexFunc_f80_M2_k1 (n : Nat) (f : List UInt8) (f_ : Bool) : Option Int :=
  some (-1)
abbrev slices_IndexFunc_f80_M2_t2 (f : List UInt8) (f_ : Bool) (s : List TWant) (v7 : Int) (v8 : Int) : S := stB [(0, .c (.slice 92) (.slice (List.map e_TWant s))), (1, .fnv 63 [.box 0 0]), (7, .c (.int .i64) (.int v7)), (8, .c (.int .i64) (.int v8))] [(0, .box [.c .str (.str f), .c .bool (.bool f_)])]
def slices_IndexFunc_f80_M2_b2 (n : Nat) (f : List UInt8) (f_ : Bool) (s : List TWant) (v7 : Int) (v8 : Int) : Option ((Int) ⊕ (((Int) ⊕ (Unit)))) :=
  bif (decide (v8 < v7)) then
    gd ((0 ≤ v8 ∧ v8 < (s.length : Int))) <|
    (enqueue_Request__blocked_1_1_1_M1 n (gt s (Int.toNat v8)) f f_).bind fun r1 =>
    bif r1 then
      some (.inr (.inl v8))
    else
      some (.inl (IntKind.wrap .i64 (v8 + 1)))
  else
    some (.inr (.inr ()))
def slices_IndexFunc_f80_M2 (n : Nat) (s : List TWant) (f : List UInt8) (f_ : Bool) : Option Int :=
  (loopF (fun (x : Int) => slices_IndexFunc_f80_M2_b2 n f f_ s (s.length : Int) x) n 0).bind fun y4 =>
  match y4 with
  | .inl vv =>
    some vv
  | .inr vv =>
    slices_IndexFunc_f80_M2_k1 n f f_
theorem cslices_IndexFunc_f80_M2 (n : Nat) (s : List TWant) (f : List UInt8) (f_ : Bool) (r : Int) (H : slices_IndexFunc_f80_M2 n s f f_ = some r) : CallsM Try.prog 80 [.dat (false, [.slice 92]) [.slice (List.map e_TWant s)], .ref (.fnv 63 [.box 0 0])] [.box [.c .str (.str f), .c .bool (.bool f_)]] [.c (.int .i64) (.int r)] [.box [.c .str (.str f), .c .bool (.bool f_)]] := by
  have hΓ := @g0 (Contract Try.prog)
  refine callsM_of (Try.f80.body.getD .skip) h00 Try.func80 rfl Try.call80 (Nat.le_of_ble_eq_true rfl) (Nat.le_of_ble_eq_true rfl) ?_
  unfold slices_IndexFunc_f80_M2 at H
  simp only [Try.f80, Option.getD]
  refine rA ?_
  refine Sm.cut (fun (x : Unit) => slices_IndexFunc_f80_M2_s1 f f_) (fun x => slices_IndexFunc_f80_M2_k1 n f f_ = some r) ?_ ?_
  · refine rA ?_
    refine Sm.block ?_
    obtain ⟨y4, hy4, Ho4⟩ := bind_some H
    refine Sm.loopB _ (fun x => slices_IndexFunc_f80_M2_t2 f f_ s (s.length : Int) x) hy4 (wb [some 0]) ?_
    rintro v8 z4 H
    try dsimp only at H
    unfold slices_IndexFunc_f80_M2_b2 at H
    refine Sm.st (slices_IndexFunc_f80_M2_t2.eq_1 ..) ?_
    refine rA ?_
    refine Sm.seqK fun K6 hK6 => ?_
    refine cnd H (fun h7 H => ?_) (fun h7 H => ?_)
    · refine Sm.skip ?_
      refine hK6 _ ?_
      refine Sm.seqK fun K8 hK8 => ?_
      refine Sm.block ?_
      refine rA ?_
      refine sX fun K10 hK10 => ?_
      obtain ⟨hg11, H⟩ := gd_some H
      obtain ⟨r1, hr1, H⟩ := bind_some H
      have q := hr1
      iterate 5 refine oX ?_
      refine oMq (cenqueue_Request__blocked_1_1_1_M1 n _ _ _ r1 hr1) [0] [] ?_
      refine hK10 _ ?_
      refine cnd H (fun h12 H => ?_) (fun h12 H => ?_)
      · refine rA ?_
        refine Sm.ret ?_
        refine lf ?_
        refine lx H fun hyy => ?_
        subst hyy
        have H := Ho4
        try dsimp only at H
        refine lf ?_
        obtain rfl := Option.some.inj H
        exact rtM [some 0]
      refine Sm.skip ?_
      refine hK8 _ ?_
      refine eA ?_
      refine lf ?_
      exact nx H (wb [some 0])
    refine Sm.exit ?_
    refine lf ?_
    refine lx H fun hyy => ?_
    subst hyy
    have H := Ho4
    try dsimp only at H
    refine lf ?_
    exact ⟨(), H, wb [some 0]⟩
  rintro ⟨⟩ H
  try dsimp only at H
  unfold slices_IndexFunc_f80_M2_k1 at H
  refine Sm.st (slices_IndexFunc_f80_M2_s1.eq_1 ..) ?_
  refine rA ?_
  refine Sm.ret ?_
  refine lf ?_
  obtain rfl := Option.some.inj H
  exact rtM [some 0]
def enqueue_some_f61_M2 (n : Nat) (l : List TWant) (has : List UInt8) (has_ : Bool) : Option Bool :=
  (slices_IndexFunc_f80_M2 n l has has_).bind fun r1 =>
  some (decide (r1 ≥ 0))
theorem cenqueue_some_f61_M2 (n : Nat) (l : List TWant) (has : List UInt8) (has_ : Bool) (r : Bool) (H : enqueue_some_f61_M2 n l has has_ = some r) : CallsM Try.prog 61 [.dat (false, [.slice 92]) [.slice (List.map e_TWant l)], .ref (.fnv 63 [.box 0 0])] [.box [.c .str (.str has), .c .bool (.bool has_)]] [.c .bool (.bool r)] [.box [.c .str (.str has), .c .bool (.bool has_)]] := by
  have hΓ := @g0 (Contract Try.prog)
  refine callsM_of (Try.f61.body.getD .skip) h00 Try.func61 rfl Try.call61 (Nat.le_of_ble_eq_true rfl) (Nat.le_of_ble_eq_true rfl) ?_
  unfold enqueue_some_f61_M2 at H
  simp only [Try.f61, Option.getD]
  refine rA ?_
  refine sX fun K2 hK2 => ?_
  obtain ⟨r1, hr1, H⟩ := bind_some H
  have q := hr1
  iterate 2 refine oX ?_
  refine oMq (cslices_IndexFunc_f80_M2 n _ _ _ r1 hr1) [0] [] ?_
  iterate 2 refine oXq ?_
  refine hK2 _ ?_
  refine Sm.ret ?_
  refine lf ?_
  obtain rfl := Option.some.inj H
  exact rtM [some 0]
def enqueue_Request__blocked_1_1_M1 (n : Nat) (a : TWant) (p1 : Int) (p1_ : List TWant) : Option Bool :=
  (enqueue_some_f61_M2 n p1_ a.Name a.Exclusive).bind fun r1 =>
  some r1
theorem cenqueue_Request__blocked_1_1_M1 (n : Nat) (a : TWant) (p1 : Int) (p1_ : List TWant) (r : Bool) (H : enqueue_Request__blocked_1_1_M1 n a p1 p1_ = some r) : CallsM Try.prog 62 [.dat (true, [.str, .bool]) [.str a.Name, .bool a.Exclusive], .ref (.box 0 0)] [.box [.c (.int .i64) (.int p1), .c (.slice 92) (.slice (List.map e_TWant p1_))]] [.c .bool (.bool r)] [.box [.c (.int .i64) (.int p1), .c (.slice 92) (.slice (List.map e_TWant p1_))]] := by
  have hΓ := @g0 (Contract Try.prog)
  refine callsM_of (Try.f62.body.getD .skip) h00 Try.func62 rfl Try.call62 (Nat.le_of_ble_eq_true rfl) (Nat.le_of_ble_eq_true rfl) ?_
  unfold enqueue_Request__blocked_1_1_M1 at H
  simp only [Try.f62, Option.getD]
  refine rA ?_
  refine sX fun K2 hK2 => ?_
  obtain ⟨r1, hr1, H⟩ := bind_some H
  have q := hr1
  iterate 2 refine oX ?_
  refine oY ?_
  refine oMq (cenqueue_some_f61_M2 n _ _ _ r1 hr1) [32] [] ?_
  refine oXq ?_
  refine hK2 _ ?_
  refine Sm.ret ?_
  refine lf ?_
  obtain rfl := Option.some.inj H
  exact rtM [some 0]
abbrev slices_IndexFunc_f80_M1_s1 (f : Int) (f_ : List TWant) : S := stB [] [(0, .box [.c (.int .i64) (.int f), .c (.slice 92) (.slice (List.map e_TWant f_))])]
def slices_IndexFunc_f80_M1_k1 (n : Nat) (f : Int) (f_ : List TWant) : Option Int :=
  some (-1)
abbrev slices_IndexFunc_f80_M1_t2 (f : Int) (f_ : List TWant) (s : List TWant) (v7 : Int) (v8 : Int) : S := stB [(0, .c (.slice 92) (.slice (List.map e_TWant s))), (1, .fnv 62 [.box 0 0]), (7, .c (.int .i64) (.int v7)), (8, .c (.int .i64) (.int v8))] [(0, .box [.c (.int .i64) (.int f), .c (.slice 92) (.slice (List.map e_TWant f_))])]
def slices_IndexFunc_f80_M1_b2 (n : Nat) (f : Int) (f_ : List TWant) (s : List TWant) (v7 : Int) (v8 : Int) : Option ((Int) ⊕ (((Int) ⊕ (Unit)))) :=
  bif (decide (v8 < v7)) then
    gd ((0 ≤ v8 ∧ v8 < (s.length : Int))) <|
    (enqueue_Request__blocked_1_1_M1 n (gt s (Int.toNat v8)) f f_).bind fun r1 =>
    bif r1 then
      some (.inr (.inl v8))
    else
      some (.inl (IntKind.wrap .i64 (v8 + 1)))
  else
    some (.inr (.inr ()))
def slices_IndexFunc_f80_M1 (n : Nat) (s : List TWant) (f : Int) (f_ : List TWant) : Option Int :=
  (loopF (fun (x : Int) => slices_IndexFunc_f80_M1_b2 n f f_ s (s.length : Int) x) n 0).bind fun y4 =>
  match y4 with
  | .inl vv =>
    some vv
  | .inr vv =>
    slices_IndexFunc_f80_M1_k1 n f f_
theorem cslices_IndexFunc_f80_M1 (n : Nat) (s : List TWant) (f : Int) (f_ : List TWant) (r : Int) (H : slices_IndexFunc_f80_M1 n s f f_ = some r) : CallsM Try.prog 80 [.dat (false, [.slice 92]) [.slice (List.map e_TWant s)], .ref (.fnv 62 [.box 0 0])] [.box [.c (.int .i64) (.int f), .c (.slice 92) (.slice (List.map e_TWant f_))]] [.c (.int .i64) (.int r)] [.box [.c (.int .i64) (.int f), .c (.slice 92) (.slice (List.map e_TWant f_))]] := by
  have hΓ := @g0 (Contract Try.prog)
  refine callsM_of (Try.f80.body.getD .skip) h00 Try.func80 rfl Try.call80 (Nat.le_of_ble_eq_true rfl) (Nat.le_of_ble_eq_true rfl) ?_
  unfold slices_IndexFunc_f80_M1 at H
  simp only [Try.f80, Option.getD]
  refine rA ?_
  refine Sm.cut (fun (x : Unit) => slices_IndexFunc_f80_M1_s1 f f_) (fun x => slices_IndexFunc_f80_M1_k1 n f f_ = some r) ?_ ?_
  · refine rA ?_
    refine Sm.block ?_
    obtain ⟨y4, hy4, Ho4⟩ := bind_some H
    refine Sm.loopB _ (fun x => slices_IndexFunc_f80_M1_t2 f f_ s (s.length : Int) x) hy4 (wb [some 0]) ?_
    rintro v8 z4 H
    try dsimp only at H
    unfold slices_IndexFunc_f80_M1_b2 at H
    refine Sm.st (slices_IndexFunc_f80_M1_t2.eq_1 ..) ?_
    refine rA ?_
    refine Sm.seqK fun K6 hK6 => ?_
    refine cnd H (fun h7 H => ?_) (fun h7 H => ?_)
    · refine Sm.skip ?_
      refine hK6 _ ?_
      refine Sm.seqK fun K8 hK8 => ?_
      refine Sm.block ?_
      refine rA ?_
      refine sX fun K10 hK10 => ?_
      obtain ⟨hg11, H⟩ := gd_some H
      obtain ⟨r1, hr1, H⟩ := bind_some H
      have q := hr1
      iterate 5 refine oX ?_
      refine oMq (cenqueue_Request__blocked_1_1_M1 n _ _ _ r1 hr1) [0] [] ?_
      refine hK10 _ ?_
      refine cnd H (fun h12 H => ?_) (fun h12 H => ?_)
      · refine rA ?_
        refine Sm.ret ?_
        refine lf ?_
        refine lx H fun hyy => ?_
        subst hyy
        have H := Ho4
        try dsimp only at H
        refine lf ?_
        obtain rfl := Option.some.inj H
        exact rtM [some 0]
      refine Sm.skip ?_
      refine hK8 _ ?_
      refine eA ?_
      refine lf ?_
      exact nx H (wb [some 0])
    refine Sm.exit ?_
    refine lf ?_
    refine lx H fun hyy => ?_
    subst hyy
    have H := Ho4
    try dsimp only at H
    refine lf ?_
    exact ⟨(), H, wb [some 0]⟩
  rintro ⟨⟩ H
  try dsimp only at H
  unfold slices_IndexFunc_f80_M1_k1 at H
  refine Sm.st (slices_IndexFunc_f80_M1_s1.eq_1 ..) ?_
  refine rA ?_
  refine Sm.ret ?_
  refine lf ?_
  obtain rfl := Option.some.inj H
  exact rtM [some 0]
def enqueue_some_f61_M1 (n : Nat) (l : List TWant) (has : Int) (has_ : List TWant) : Option Bool :=
  (slices_IndexFunc_f80_M1 n l has has_).bind fun r1 =>
  some (decide (r1 ≥ 0))
theorem cenqueue_some_f61_M1 (n : Nat) (l : List TWant) (has : Int) (has_ : List TWant) (r : Bool) (H : enqueue_some_f61_M1 n l has has_ = some r) : CallsM Try.prog 61 [.dat (false, [.slice 92]) [.slice (List.map e_TWant l)], .ref (.fnv 62 [.box 0 0])] [.box [.c (.int .i64) (.int has), .c (.slice 92) (.slice (List.map e_TWant has_))]] [.c .bool (.bool r)] [.box [.c (.int .i64) (.int has), .c (.slice 92) (.slice (List.map e_TWant has_))]] := by
  have hΓ := @g0 (Contract Try.prog)
  refine callsM_of (Try.f61.body.getD .skip) h00 Try.func61 rfl Try.call61 (Nat.le_of_ble_eq_true rfl) (Nat.le_of_ble_eq_true rfl) ?_
  unfold enqueue_some_f61_M1 at H
  simp only [Try.f61, Option.getD]
  refine rA ?_
  refine sX fun K2 hK2 => ?_
  obtain ⟨r1, hr1, H⟩ := bind_some H
  have q := hr1
  iterate 2 refine oX ?_
  refine oMq (cslices_IndexFunc_f80_M1 n _ _ _ r1 hr1) [0] [] ?_
  iterate 2 refine oXq ?_
  refine hK2 _ ?_
  refine Sm.ret ?_
  refine lf ?_
  obtain rfl := Option.some.inj H
  exact rtM [some 0]
def enqueue_Request__blocked_1_M1 (n : Nat) (q : TRequest) (p1 : Int) (p1_ : List TWant) : Option Bool :=
  (enqueue_some_f61_M1 n p1_ q.Job q.Wants).bind fun r1 =>
  some r1
theorem cenqueue_Request__blocked_1_M1 (n : Nat) (q : TRequest) (p1 : Int) (p1_ : List TWant) (r : Bool) (H : enqueue_Request__blocked_1_M1 n q p1 p1_ = some r) : CallsM Try.prog 60 [.dat (true, [.int .i64, .slice 92]) [.int q.Job, .slice (List.map e_TWant q.Wants)], .ref (.box 0 0)] [.box [.c (.int .i64) (.int p1), .c (.slice 92) (.slice (List.map e_TWant p1_))]] [.c .bool (.bool r)] [.box [.c (.int .i64) (.int p1), .c (.slice 92) (.slice (List.map e_TWant p1_))]] := by
  have hΓ := @g0 (Contract Try.prog)
  refine callsM_of (Try.f60.body.getD .skip) h00 Try.func60 rfl Try.call60 (Nat.le_of_ble_eq_true rfl) (Nat.le_of_ble_eq_true rfl) ?_
  unfold enqueue_Request__blocked_1_M1 at H
  simp only [Try.f60, Option.getD]
  refine rA ?_
  refine sX fun K2 hK2 => ?_
  obtain ⟨r1, hr1, H⟩ := bind_some H
  have q := hr1
  iterate 2 refine oX ?_
  refine oY ?_
  refine oMq (cenqueue_some_f61_M1 n _ _ _ r1 hr1) [32] [] ?_
  refine oXq ?_
  refine hK2 _ ?_
  refine Sm.ret ?_
  refine lf ?_
  obtain rfl := Option.some.inj H
  exact rtM [some 0]
abbrev slices_IndexFunc_f57_M1_s1 (f : Int) (f_ : List TWant) : S := stB [] [(0, .box [.c (.int .i64) (.int f), .c (.slice 92) (.slice (List.map e_TWant f_))])]
def slices_IndexFunc_f57_M1_k1 (n : Nat) (f : Int) (f_ : List TWant) : Option Int :=
  some (-1)
abbrev slices_IndexFunc_f57_M1_t2 (f : Int) (f_ : List TWant) (s : List TRequest) (v7 : Int) (v8 : Int) : S := stB [(0, .c (.slice 61) (.slice (List.map e_TRequest s))), (1, .fnv 60 [.box 0 0]), (7, .c (.int .i64) (.int v7)), (8, .c (.int .i64) (.int v8))] [(0, .box [.c (.int .i64) (.int f), .c (.slice 92) (.slice (List.map e_TWant f_))])]
def slices_IndexFunc_f57_M1_b2 (n : Nat) (f : Int) (f_ : List TWant) (s : List TRequest) (v7 : Int) (v8 : Int) : Option ((Int) ⊕ (((Int) ⊕ (Unit)))) :=
  bif (decide (v8 < v7)) then
    gd ((0 ≤ v8 ∧ v8 < (s.length : Int))) <|
    (enqueue_Request__blocked_1_M1 n (gt s (Int.toNat v8)) f f_).bind fun r1 =>
    bif r1 then
      some (.inr (.inl v8))
    else
      some (.inl (IntKind.wrap .i64 (v8 + 1)))
  else
    some (.inr (.inr ()))
def slices_IndexFunc_f57_M1 (n : Nat) (s : List TRequest) (f : Int) (f_ : List TWant) : Option Int :=
  (loopF (fun (x : Int) => slices_IndexFunc_f57_M1_b2 n f f_ s (s.length : Int) x) n 0).bind fun y4 =>
  match y4 with
  | .inl vv =>
    some vv
  | .inr vv =>
    slices_IndexFunc_f57_M1_k1 n f f_
theorem cslices_IndexFunc_f57_M1 (n : Nat) (s : List TRequest) (f : Int) (f_ : List TWant) (r : Int) (H : slices_IndexFunc_f57_M1 n s f f_ = some r) : CallsM Try.prog 57 [.dat (false, [.slice 61]) [.slice (List.map e_TRequest s)], .ref (.fnv 60 [.box 0 0])] [.box [.c (.int .i64) (.int f), .c (.slice 92) (.slice (List.map e_TWant f_))]] [.c (.int .i64) (.int r)] [.box [.c (.int .i64) (.int f), .c (.slice 92) (.slice (List.map e_TWant f_))]] := by
  have hΓ := @g0 (Contract Try.prog)
  refine callsM_of (Try.f57.body.getD .skip) h00 Try.func57 rfl Try.call57 (Nat.le_of_ble_eq_true rfl) (Nat.le_of_ble_eq_true rfl) ?_
  unfold slices_IndexFunc_f57_M1 at H
  simp only [Try.f57, Option.getD]
  refine rA ?_
  refine Sm.cut (fun (x : Unit) => slices_IndexFunc_f57_M1_s1 f f_) (fun x => slices_IndexFunc_f57_M1_k1 n f f_ = some r) ?_ ?_
  · refine rA ?_
    refine Sm.block ?_
    obtain ⟨y4, hy4, Ho4⟩ := bind_some H
    refine Sm.loopB _ (fun x => slices_IndexFunc_f57_M1_t2 f f_ s (s.length : Int) x) hy4 (wb [some 0]) ?_
    rintro v8 z4 H
    try dsimp only at H
    unfold slices_IndexFunc_f57_M1_b2 at H
    refine Sm.st (slices_IndexFunc_f57_M1_t2.eq_1 ..) ?_
    refine rA ?_
    refine Sm.seqK fun K6 hK6 => ?_
    refine cnd H (fun h7 H => ?_) (fun h7 H => ?_)
    · refine Sm.skip ?_
      refine hK6 _ ?_
      refine Sm.seqK fun K8 hK8 => ?_
      refine Sm.block ?_
      refine rA ?_
      refine sX fun K10 hK10 => ?_
      obtain ⟨hg11, H⟩ := gd_some H
      obtain ⟨r1, hr1, H⟩ := bind_some H
      have q := hr1
      iterate 5 refine oX ?_
      refine oMq (cenqueue_Request__blocked_1_M1 n _ _ _ r1 hr1) [0] [] ?_
      refine hK10 _ ?_
      refine cnd H (fun h12 H => ?_) (fun h12 H => ?_)
      · refine rA ?_
        refine Sm.ret ?_
        refine lf ?_
        refine lx H fun hyy => ?_
        subst hyy
        have H := Ho4
        try dsimp only at H
        refine lf ?_
        obtain rfl := Option.some.inj H
        exact rtM [some 0]
      refine Sm.skip ?_
      refine hK8 _ ?_
      refine eA ?_
      refine lf ?_
      exact nx H (wb [some 0])
    refine Sm.exit ?_
    refine lf ?_
    refine lx H fun hyy => ?_
    subst hyy
    have H := Ho4
    try dsimp only at H
    refine lf ?_
    exact ⟨(), H, wb [some 0]⟩
  rintro ⟨⟩ H
  try dsimp only at H
  unfold slices_IndexFunc_f57_M1_k1 at H
  refine Sm.st (slices_IndexFunc_f57_M1_s1.eq_1 ..) ?_
  refine rA ?_
  refine Sm.ret ?_
  refine lf ?_
  obtain rfl := Option.some.inj H
  exact rtM [some 0]
def enqueue_some_f59_M1 (n : Nat) (l : List TRequest) (has : Int) (has_ : List TWant) : Option Bool :=
  (slices_IndexFunc_f57_M1 n l has has_).bind fun r1 =>
  some (decide (r1 ≥ 0))
theorem cenqueue_some_f59_M1 (n : Nat) (l : List TRequest) (has : Int) (has_ : List TWant) (r : Bool) (H : enqueue_some_f59_M1 n l has has_ = some r) : CallsM Try.prog 59 [.dat (false, [.slice 61]) [.slice (List.map e_TRequest l)], .ref (.fnv 60 [.box 0 0])] [.box [.c (.int .i64) (.int has), .c (.slice 92) (.slice (List.map e_TWant has_))]] [.c .bool (.bool r)] [.box [.c (.int .i64) (.int has), .c (.slice 92) (.slice (List.map e_TWant has_))]] := by
  have hΓ := @g0 (Contract Try.prog)
  refine callsM_of (Try.f59.body.getD .skip) h00 Try.func59 rfl Try.call59 (Nat.le_of_ble_eq_true rfl) (Nat.le_of_ble_eq_true rfl) ?_
  unfold enqueue_some_f59_M1 at H
  simp only [Try.f59, Option.getD]
  refine rA ?_
  refine sX fun K2 hK2 => ?_
  obtain ⟨r1, hr1, H⟩ := bind_some H
  have q := hr1
  iterate 2 refine oX ?_
  refine oMq (cslices_IndexFunc_f57_M1 n _ _ _ r1 hr1) [0] [] ?_
  iterate 2 refine oXq ?_
  refine hK2 _ ?_
  refine Sm.ret ?_
  refine lf ?_
  obtain rfl := Option.some.inj H
  exact rtM [some 0]
def enqueue_Request__blocked (n : Nat) (r_ : TRequest) (l : List TRequest) : Option Bool :=
  (enqueue_some_f59_M1 n l r_.Job r_.Wants).bind fun r1 =>
  some r1
def xenqueue_Request__blocked (n : Nat) : Go.AE.Fn := mkFn (A := TRequest × (List TRequest)) (R := Bool) 37 [(true, [.int .i64, .slice 92]), (false, [.slice 61])] false (fun xs => ((⟨(cg (xs.getD 0 []) 0).toInt, ((cg (xs.getD 0 []) 1).toSl.map d_TWant)⟩ : TRequest), ((cg (xs.getD 1 []) 0).toSl.map d_TRequest))) (fun a => [[.int a.1.Job, .slice (List.map e_TWant a.1.Wants)], [.slice (List.map e_TRequest a.2)]]) (fun a => enqueue_Request__blocked n a.1 a.2) (fun r => [.c .bool (.bool r)]) (fun r => [])
theorem cenqueue_Request__blocked (n : Nat) : Contract Try.prog (xenqueue_Request__blocked n) := by
  have hΓ := @g0 (Contract Try.prog)
  refine contract_f (Try.f37.body.getD .skip) h00 Try.func37 rfl Try.call37 (by decide) (by intro _ r; exact ⟨rfl, by simp⟩) ?_
  rintro ⟨r_, l⟩ r H
  try dsimp only at H
  unfold enqueue_Request__blocked at H
  simp only [Try.f37, Option.getD]
  refine rA ?_
  refine sX fun K2 hK2 => ?_
  obtain ⟨r1, hr1, H⟩ := bind_some H
  have q := hr1
  refine oX ?_
  refine oY ?_
  refine oMq (cenqueue_some_f59_M1 n _ _ _ r1 hr1) [32] [] ?_
  refine oXq ?_
  refine hK2 _ ?_
  refine Sm.ret ?_
  refine lf ?_
  obtain rfl := Option.some.inj H
  exact rt []
abbrev enqueue_Check_s2 : S := stB [] []
def enqueue_Check_k2 (n : Nat) : Option Int :=
  some 0
abbrev enqueue_Check_t3 (t : TTable) (v40 : Int) (seen_1 : List (Int × Bool)) (v41 : Int) : S := stB [(1, .box 9004 0), (3, .mref 9005), (39, .c (.slice 61) (.slice (List.map e_TRequest t.Waiting))), (40, .c (.int .i64) (.int v40)), (41, .c (.int .i64) (.int v41))] [(9004, .box [.c (.slice 61) (.slice (List.map e_TRequest t.Held)), .c (.slice 61) (.slice (List.map e_TRequest t.Waiting))]), (9005, .mp (.int .i64) (false, [.bool]) (List.map em_Int_Bool seen_1))]
def enqueue_Check_b3 (n : Nat) (t : TTable) (v40 : Int) (seen_1 : List (Int × Bool)) (v41 : Int) : Option (((List (Int × Bool)) × Int) ⊕ (((Int) ⊕ (Unit)))) :=
  bif (decide (v41 < v40)) then
    gd ((0 ≤ v41 ∧ v41 < (t.Waiting.length : Int))) <|
    gd (((!((tget ((gt t.Waiting (Int.toNat v41)).Job) seen_1).getD default)) = true → (enqueue_Request__normal n (gt t.Waiting (Int.toNat v41))).isSome = true) ∧ ((!(if ((tget ((gt t.Waiting (Int.toNat v41)).Job) seen_1).getD default) = true then true else (!((enqueue_Request__normal n (gt t.Waiting (Int.toNat v41))).getD default)))) = true → (enqueue_Request__blocked n (gt t.Waiting (Int.toNat v41)) t.Held).isSome = true) ∧ (((!(if ((tget ((gt t.Waiting (Int.toNat v41)).Job) seen_1).getD default) = true then true else (!((enqueue_Request__normal n (gt t.Waiting (Int.toNat v41))).getD default)))) && (!((enqueue_Request__blocked n (gt t.Waiting (Int.toNat v41)) t.Held).getD default))) = true → (0 ≤ v41 ∧ v41 ≤ (t.Waiting.length : Int))) ∧ (((!(if ((tget ((gt t.Waiting (Int.toNat v41)).Job) seen_1).getD default) = true then true else (!((enqueue_Request__normal n (gt t.Waiting (Int.toNat v41))).getD default)))) && (!((enqueue_Request__blocked n (gt t.Waiting (Int.toNat v41)) t.Held).getD default))) = true → (enqueue_Request__blocked n (gt t.Waiting (Int.toNat v41)) (List.take (Int.toNat v41) t.Waiting)).isSome = true)) <|
    bif (if (if ((tget ((gt t.Waiting (Int.toNat v41)).Job) seen_1).getD default) = true then true else (!((enqueue_Request__normal n (gt t.Waiting (Int.toNat v41))).getD default))) = true then true else (if (!((enqueue_Request__blocked n (gt t.Waiting (Int.toNat v41)) t.Held).getD default)) = true then (!((enqueue_Request__blocked n (gt t.Waiting (Int.toNat v41)) (List.take (Int.toNat v41) t.Waiting)).getD default)) else false)) then
      some (.inr (.inl 5))
    else
      some (.inl ((tset ((gt t.Waiting (Int.toNat v41)).Job) true seen_1), (IntKind.wrap .i64 (v41 + 1))))
  else
    some (.inr (.inr ()))
abbrev enqueue_Check_s1 (t : TTable) (seen : List (Int × Bool)) : S := stB [(1, .box 9000 0), (3, .mref 9001)] [(9000, .box [.c (.slice 61) (.slice (List.map e_TRequest t.Held)), .c (.slice 61) (.slice (List.map e_TRequest t.Waiting))]), (9001, .mp (.int .i64) (false, [.bool]) (List.map em_Int_Bool seen))]
def enqueue_Check_k1 (n : Nat) (t : TTable) (seen : List (Int × Bool)) : Option Int :=
  (loopF (fun (x : (List (Int × Bool)) × Int) => enqueue_Check_b3 n t (t.Waiting.length : Int) x.1 x.2) n (seen, 0)).bind fun y5 =>
  match y5 with
  | .inl vv =>
    some vv
  | .inr vv =>
    enqueue_Check_k2 n
abbrev enqueue_Check_t4 (t : TTable) (v11 : Int) (seen_2 : List (Int × Bool)) (v12 : Int) : S := stB [(1, .box 9008 0), (3, .mref 9009), (10, .c (.slice 61) (.slice (List.map e_TRequest t.Held))), (11, .c (.int .i64) (.int v11)), (12, .c (.int .i64) (.int v12))] [(9008, .box [.c (.slice 61) (.slice (List.map e_TRequest t.Held)), .c (.slice 61) (.slice (List.map e_TRequest t.Waiting))]), (9009, .mp (.int .i64) (false, [.bool]) (List.map em_Int_Bool seen_2))]
def enqueue_Check_b4 (n : Nat) (t : TTable) (v11 : Int) (seen_2 : List (Int × Bool)) (v12 : Int) : Option (((List (Int × Bool)) × Int) ⊕ (((Int) ⊕ ((List (Int × Bool)))))) :=
  bif (decide (v12 < v11)) then
    gd ((0 ≤ v12 ∧ v12 < (t.Held.length : Int))) <|
    gd (((!((tget ((gt t.Held (Int.toNat v12)).Job) seen_2).getD default)) = true → (enqueue_Request__normal n (gt t.Held (Int.toNat v12))).isSome = true) ∧ ((!(if ((tget ((gt t.Held (Int.toNat v12)).Job) seen_2).getD default) = true then true else (!((enqueue_Request__normal n (gt t.Held (Int.toNat v12))).getD default)))) = true → (0 ≤ v12 ∧ v12 ≤ (t.Held.length : Int))) ∧ ((!(if ((tget ((gt t.Held (Int.toNat v12)).Job) seen_2).getD default) = true then true else (!((enqueue_Request__normal n (gt t.Held (Int.toNat v12))).getD default)))) = true → (enqueue_Request__blocked n (gt t.Held (Int.toNat v12)) (List.take (Int.toNat v12) t.Held)).isSome = true)) <|
    bif (if (if ((tget ((gt t.Held (Int.toNat v12)).Job) seen_2).getD default) = true then true else (!((enqueue_Request__normal n (gt t.Held (Int.toNat v12))).getD default))) = true then true else ((enqueue_Request__blocked n (gt t.Held (Int.toNat v12)) (List.take (Int.toNat v12) t.Held)).getD default)) then
      some (.inr (.inl 5))
    else
      some (.inl ((tset ((gt t.Held (Int.toNat v12)).Job) true seen_2), (IntKind.wrap .i64 (v12 + 1))))
  else
    some (.inr (.inr seen_2))
def enqueue_Check (n : Nat) (t : TTable) : Option Int :=
  (loopF (fun (x : (List (Int × Bool)) × Int) => enqueue_Check_b4 n t (t.Held.length : Int) x.1 x.2) n ([], 0)).bind fun y21 =>
  match y21 with
  | .inl vv =>
    some vv
  | .inr vv =>
    enqueue_Check_k1 n t vv
def xenqueue_Check (n : Nat) : Go.AE.Fn := mkFn (A := TTable) (R := Int) 23 [(true, [.slice 61, .slice 61])] false (fun xs => (⟨((cg (xs.getD 0 []) 0).toSl.map d_TRequest), ((cg (xs.getD 0 []) 1).toSl.map d_TRequest)⟩ : TTable)) (fun a => [[.slice (List.map e_TRequest a.Held), .slice (List.map e_TRequest a.Waiting)]]) (fun a => enqueue_Check n a) (fun r => [.c (.int .i64) (.int r)]) (fun r => [])
theorem cenqueue_Check (n : Nat) : Contract Try.prog (xenqueue_Check n) := by
  have hΓ := g1 (cenqueue_Request__normal n) (g1 (cenqueue_Request__blocked n) (@g0 (Contract Try.prog)))
  refine contract_f (Try.f23.body.getD .skip) h00 Try.func23 rfl Try.call23 (by decide) (by intro _ r; exact ⟨rfl, by simp⟩) ?_
  rintro t r H
  try dsimp only at H
  unfold enqueue_Check at H
  simp only [Try.f23, Option.getD]
  refine rA ?_
  refine rA ?_
  refine Sm.cut (fun (x : (List (Int × Bool))) => enqueue_Check_s1 t x) (fun x => enqueue_Check_k1 n t x = some r) ?_ ?_
  · refine rA ?_
    refine Sm.block ?_
    obtain ⟨y21, hy21, Ho21⟩ := bind_some H
    refine Sm.loopB _ (fun x => enqueue_Check_t4 t (t.Held.length : Int) x.1 x.2) hy21 (wb [some 16, some 128]) ?_
    rintro ⟨seen_2, v12⟩ z21 H
    try dsimp only at H
    unfold enqueue_Check_b4 at H
    refine Sm.st (enqueue_Check_t4.eq_1 ..) ?_
    refine rA ?_
    refine Sm.seqK fun K23 hK23 => ?_
    refine cnd H (fun h24 H => ?_) (fun h24 H => ?_)
    · refine Sm.skip ?_
      refine hK23 _ ?_
      refine Sm.seqK fun K25 hK25 => ?_
      refine Sm.block ?_
      obtain ⟨hg34, H⟩ := gd_some H
      refine rA ?_
      refine Sm.seqK fun K27 hK27 => ?_
      obtain ⟨⟨hg31, hg32, hg33⟩, H⟩ := gd_some H
      have q := And.intro @xenqueue_Request__normal.eq_1 @xenqueue_Request__blocked.eq_1
      refine rDq ?_
      refine cnd H (fun h29 H => ?_) (fun h29 H => ?_)
      · refine rA ?_
        refine Sm.ret ?_
        refine lf ?_
        refine lx H fun hyy => ?_
        subst hyy
        have H := Ho21
        try dsimp only at H
        refine lf ?_
        obtain rfl := Option.some.inj H
        exact rt []
      refine Sm.skip ?_
      refine hK27 _ ?_
      refine eA ?_
      refine hK25 _ ?_
      refine eA ?_
      refine lf ?_
      exact nx H (wb [some 9008, some 9009])
    refine Sm.exit ?_
    refine lf ?_
    refine lx H fun hyy => ?_
    subst hyy
    have H := Ho21
    try dsimp only at H
    refine lf ?_
    exact ⟨_, H, wb [some 9008, some 9009]⟩
  rintro seen H
  try dsimp only at H
  unfold enqueue_Check_k1 at H
  refine Sm.st (enqueue_Check_s1.eq_1 ..) ?_
  refine Sm.cut (fun (x : Unit) => enqueue_Check_s2) (fun x => enqueue_Check_k2 n = some r) ?_ ?_
  · refine rA ?_
    refine Sm.block ?_
    obtain ⟨y5, hy5, Ho5⟩ := bind_some H
    refine Sm.loopB _ (fun x => enqueue_Check_t3 t (t.Waiting.length : Int) x.1 x.2) hy5 (wb [some 9000, some 9001]) ?_
    rintro ⟨seen_1, v41⟩ z5 H
    try dsimp only at H
    unfold enqueue_Check_b3 at H
    refine Sm.st (enqueue_Check_t3.eq_1 ..) ?_
    refine rA ?_
    refine Sm.seqK fun K7 hK7 => ?_
    refine cnd H (fun h8 H => ?_) (fun h8 H => ?_)
    · refine Sm.skip ?_
      refine hK7 _ ?_
      refine Sm.seqK fun K9 hK9 => ?_
      refine Sm.block ?_
      obtain ⟨hg19, H⟩ := gd_some H
      refine rA ?_
      refine Sm.seqK fun K11 hK11 => ?_
      obtain ⟨⟨hg15, hg16, hg17, hg18⟩, H⟩ := gd_some H
      have q := And.intro @xenqueue_Request__normal.eq_1 @xenqueue_Request__blocked.eq_1
      refine rDq ?_
      refine cnd H (fun h13 H => ?_) (fun h13 H => ?_)
      · refine rA ?_
        refine Sm.ret ?_
        refine lf ?_
        refine lx H fun hyy => ?_
        subst hyy
        have H := Ho5
        try dsimp only at H
        refine lf ?_
        obtain rfl := Option.some.inj H
        exact rt []
      refine Sm.skip ?_
      refine hK11 _ ?_
      refine eA ?_
      refine hK9 _ ?_
      refine eA ?_
      refine lf ?_
      exact nx H (wb [some 9004, some 9005])
    refine Sm.exit ?_
    refine lf ?_
    refine lx H fun hyy => ?_
    subst hyy
    have H := Ho5
    try dsimp only at H
    refine lf ?_
    exact ⟨(), H, wb []⟩
  rintro ⟨⟩ H
  try dsimp only at H
  unfold enqueue_Check_k2 at H
  refine Sm.st (enqueue_Check_s2.eq_1 ..) ?_
  refine rA ?_
  refine Sm.ret ?_
  refine lf ?_
  obtain rfl := Option.some.inj H
  exact rt []
def enqueue_index_1_M1 (n : Nat) (r_ : TRequest) (p1 : Int) : Option Bool :=
  some (r_.Job == p1)
theorem cenqueue_index_1_M1 (n : Nat) (r_ : TRequest) (p1 : Int) (r : Bool) (H : enqueue_index_1_M1 n r_ p1 = some r) : CallsM Try.prog 58 [.dat (true, [.int .i64, .slice 92]) [.int r_.Job, .slice (List.map e_TWant r_.Wants)], .ref (.box 0 0)] [.box [.c (.int .i64) (.int p1)]] [.c .bool (.bool r)] [.box [.c (.int .i64) (.int p1)]] := by
  have hΓ := @g0 (Contract Try.prog)
  refine callsM_of (Try.f58.body.getD .skip) h00 Try.func58 rfl Try.call58 (Nat.le_of_ble_eq_true rfl) (Nat.le_of_ble_eq_true rfl) ?_
  unfold enqueue_index_1_M1 at H
  simp only [Try.f58, Option.getD]
  refine rA ?_
  refine rA ?_
  refine Sm.ret ?_
  refine lf ?_
  obtain rfl := Option.some.inj H
  exact rtM [some 0]
abbrev slices_IndexFunc_f57_M2_s1 (f : Int) : S := stB [] [(0, .box [.c (.int .i64) (.int f)])]
def slices_IndexFunc_f57_M2_k1 (n : Nat) (f : Int) : Option Int :=
  some (-1)
abbrev slices_IndexFunc_f57_M2_t2 (f : Int) (s : List TRequest) (v7 : Int) (v8 : Int) : S := stB [(0, .c (.slice 61) (.slice (List.map e_TRequest s))), (1, .fnv 58 [.box 0 0]), (7, .c (.int .i64) (.int v7)), (8, .c (.int .i64) (.int v8))] [(0, .box [.c (.int .i64) (.int f)])]
def slices_IndexFunc_f57_M2_b2 (n : Nat) (f : Int) (s : List TRequest) (v7 : Int) (v8 : Int) : Option ((Int) ⊕ (((Int) ⊕ (Unit)))) :=
  bif (decide (v8 < v7)) then
    gd ((0 ≤ v8 ∧ v8 < (s.length : Int))) <|
    (enqueue_index_1_M1 n (gt s (Int.toNat v8)) f).bind fun r1 =>
    bif r1 then
      some (.inr (.inl v8))
    else
      some (.inl (IntKind.wrap .i64 (v8 + 1)))
  else
    some (.inr (.inr ()))
def slices_IndexFunc_f57_M2 (n : Nat) (s : List TRequest) (f : Int) : Option Int :=
  (loopF (fun (x : Int) => slices_IndexFunc_f57_M2_b2 n f s (s.length : Int) x) n 0).bind fun y4 =>
  match y4 with
  | .inl vv =>
    some vv
  | .inr vv =>
    slices_IndexFunc_f57_M2_k1 n f
theorem cslices_IndexFunc_f57_M2 (n : Nat) (s : List TRequest) (f : Int) (r : Int) (H : slices_IndexFunc_f57_M2 n s f = some r) : CallsM Try.prog 57 [.dat (false, [.slice 61]) [.slice (List.map e_TRequest s)], .ref (.fnv 58 [.box 0 0])] [.box [.c (.int .i64) (.int f)]] [.c (.int .i64) (.int r)] [.box [.c (.int .i64) (.int f)]] := by
  have hΓ := @g0 (Contract Try.prog)
  refine callsM_of (Try.f57.body.getD .skip) h00 Try.func57 rfl Try.call57 (Nat.le_of_ble_eq_true rfl) (Nat.le_of_ble_eq_true rfl) ?_
  unfold slices_IndexFunc_f57_M2 at H
  simp only [Try.f57, Option.getD]
  refine rA ?_
  refine Sm.cut (fun (x : Unit) => slices_IndexFunc_f57_M2_s1 f) (fun x => slices_IndexFunc_f57_M2_k1 n f = some r) ?_ ?_
  · refine rA ?_
    refine Sm.block ?_
    obtain ⟨y4, hy4, Ho4⟩ := bind_some H
    refine Sm.loopB _ (fun x => slices_IndexFunc_f57_M2_t2 f s (s.length : Int) x) hy4 (wb [some 0]) ?_
    rintro v8 z4 H
    try dsimp only at H
    unfold slices_IndexFunc_f57_M2_b2 at H
    refine Sm.st (slices_IndexFunc_f57_M2_t2.eq_1 ..) ?_
    refine rA ?_
    refine Sm.seqK fun K6 hK6 => ?_
    refine cnd H (fun h7 H => ?_) (fun h7 H => ?_)
    · refine Sm.skip ?_
      refine hK6 _ ?_
      refine Sm.seqK fun K8 hK8 => ?_
      refine Sm.block ?_
      refine rA ?_
      refine sX fun K10 hK10 => ?_
      obtain ⟨hg11, H⟩ := gd_some H
      obtain ⟨r1, hr1, H⟩ := bind_some H
      have q := hr1
      iterate 5 refine oX ?_
      refine oMq (cenqueue_index_1_M1 n _ _ r1 hr1) [0] [] ?_
      refine hK10 _ ?_
      refine cnd H (fun h12 H => ?_) (fun h12 H => ?_)
      · refine rA ?_
        refine Sm.ret ?_
        refine lf ?_
        refine lx H fun hyy => ?_
        subst hyy
        have H := Ho4
        try dsimp only at H
        refine lf ?_
        obtain rfl := Option.some.inj H
        exact rtM [some 0]
      refine Sm.skip ?_
      refine hK8 _ ?_
      refine eA ?_
      refine lf ?_
      exact nx H (wb [some 0])
    refine Sm.exit ?_
    refine lf ?_
    refine lx H fun hyy => ?_
    subst hyy
    have H := Ho4
    try dsimp only at H
    refine lf ?_
    exact ⟨(), H, wb [some 0]⟩
  rintro ⟨⟩ H
  try dsimp only at H
  unfold slices_IndexFunc_f57_M2_k1 at H
  refine Sm.st (slices_IndexFunc_f57_M2_s1.eq_1 ..) ?_
  refine rA ?_
  refine Sm.ret ?_
  refine lf ?_
  obtain rfl := Option.some.inj H
  exact rtM [some 0]
def enqueue_index (n : Nat) (l : List TRequest) (job : Int) : Option Int :=
  (slices_IndexFunc_f57_M2 n l job).bind fun r1 =>
  some r1
def xenqueue_index (n : Nat) : Go.AE.Fn := mkFn (A := (List TRequest) × Int) (R := Int) 35 [(false, [.slice 61]), (false, [.int .i64])] false (fun xs => (((cg (xs.getD 0 []) 0).toSl.map d_TRequest), (cg (xs.getD 1 []) 0).toInt)) (fun a => [[.slice (List.map e_TRequest a.1)], [.int a.2]]) (fun a => enqueue_index n a.1 a.2) (fun r => [.c (.int .i64) (.int r)]) (fun r => [])
theorem cenqueue_index (n : Nat) : Contract Try.prog (xenqueue_index n) := by
  have hΓ := @g0 (Contract Try.prog)
  refine contract_f (Try.f35.body.getD .skip) h00 Try.func35 rfl Try.call35 (by decide) (by intro _ r; exact ⟨rfl, by simp⟩) ?_
  rintro ⟨l, job⟩ r H
  try dsimp only at H
  unfold enqueue_index at H
  simp only [Try.f35, Option.getD]
  refine rA ?_
  refine sX fun K2 hK2 => ?_
  obtain ⟨r1, hr1, H⟩ := bind_some H
  have q := hr1
  refine oX ?_
  refine oY ?_
  refine oMq (cslices_IndexFunc_f57_M2 n _ _ r1 hr1) [48] [] ?_
  refine oXq ?_
  refine hK2 _ ?_
  refine Sm.ret ?_
  refine lf ?_
  obtain rfl := Option.some.inj H
  exact rt []
def slices_SortFunc_f67_c68 (n : Nat) (s : List TWant) : Option (List TWant) := sortG (fun x y => enqueue_normalize_1 n x y) s
theorem cslices_SortFunc_f67_c68 (n : Nat) (s : List TWant) (r : List TWant) (H : slices_SortFunc_f67_c68 n s = some r) : CallsM Try.prog 67 [.ref (.own 0 [.str, .bool] 0 s.length), .ref (.fnv 68 [])] [.row 92 (List.map e_TWant s)] [] [.row 92 (List.map e_TWant r)] :=
  callsM_sortG lay67 ty92 Try.isAgg92 Try.sizeOf92 (by decide) (by decide) (by intro args w; exact Try.call68 args w) e_TWant (fun _ => rfl) (fun x y => enqueue_normalize_1 n x y) (fun x y c h => raw68 x y c h) s r H
abbrev enqueue_normalize_s2 (out : List TWant) : S := stB [(6, .own 9001 [.str, .bool] 0 out.length)] [(9001, .row 92 (List.map e_TWant out))]
def enqueue_normalize_k2 (n : Nat) (out : List TWant) : Option (List TWant) :=
  (slices_SortFunc_f67_c68 n out).bind fun r1 =>
  some (List.take out.length r1)
abbrev enqueue_normalize_t3 (out_1 : List TWant) (rest : List (List UInt8 × Bool)) : S := stB [(6, .own 9005 [.str, .bool] 0 out_1.length), (29, .mref 9006)] [(9005, .row 92 (List.map e_TWant out_1)), (9006, .it .str (false, [.bool]) none (List.map em_Str_Bool rest))]
def enqueue_normalize_b3 (n : Nat) (out_1 : List TWant) (oo : Option ((List UInt8) × Bool)) : Option (((List TWant)) ⊕ (((List TWant)))) :=
  match oo with
  | none =>
    some (.inr out_1)
  | some e9 =>
    gd ((out_1.length + 1) ≤ 2147483648) <|
    some (.inl (out_1 ++ [(⟨e9.1, e9.2⟩ : TWant)]))
abbrev enqueue_normalize_s1 (exclusive : List (List UInt8 × Bool)) : S := stB [(3, .mref 9000)] [(9000, .mp .str (false, [.bool]) (List.map em_Str_Bool exclusive))]
def enqueue_normalize_k1 (n : Nat) (exclusive : List (List UInt8 × Bool)) : Option (List TWant) :=
  allP exclusive fun q => (loopE (fun (x : (List TWant)) oo => enqueue_normalize_b3 n x oo) n [] q).bind fun y7 =>
  enqueue_normalize_k2 n y7
abbrev enqueue_normalize_t4 (l : List TWant) (v11 : Int) (exclusive_1 : List (List UInt8 × Bool)) (v12 : Int) : S := stB [(3, .mref 9008), (10, .c (.slice 92) (.slice (List.map e_TWant l))), (11, .c (.int .i64) (.int v11)), (12, .c (.int .i64) (.int v12))] [(9008, .mp .str (false, [.bool]) (List.map em_Str_Bool exclusive_1))]
def enqueue_normalize_b4 (n : Nat) (l : List TWant) (v11 : Int) (exclusive_1 : List (List UInt8 × Bool)) (v12 : Int) : Option (((List (List UInt8 × Bool)) × Int) ⊕ (((List (List UInt8 × Bool))))) :=
  bif (decide (v12 < v11)) then
    gd ((0 ≤ v12 ∧ v12 < (l.length : Int))) <|
    some (.inl ((tset ((gt l (Int.toNat v12)).Name) (if ((tget ((gt l (Int.toNat v12)).Name) exclusive_1).getD default) = true then true else (gt l (Int.toNat v12)).Exclusive) exclusive_1), (IntKind.wrap .i64 (v12 + 1))))
  else
    some (.inr exclusive_1)
def enqueue_normalize (n : Nat) (l : List TWant) : Option (List TWant) :=
  (loopF (fun (x : (List (List UInt8 × Bool)) × Int) => enqueue_normalize_b4 n l (l.length : Int) x.1 x.2) n ([], 0)).bind fun y17 =>
  enqueue_normalize_k1 n y17
def xenqueue_normalize (n : Nat) : Go.AE.Fn := mkFn (A := (List TWant)) (R := (List TWant)) 43 [(false, [.slice 92])] true (fun xs => ((cg (xs.getD 0 []) 0).toSl.map d_TWant)) (fun a => [[.slice (List.map e_TWant a)]]) (fun a => enqueue_normalize n a) (fun r => [.c (.slice 92) (.slice (List.map e_TWant r))]) (fun r => [])
theorem cenqueue_normalize (n : Nat) : Contract Try.prog (xenqueue_normalize n) := by
  have hΓ := @g0 (Contract Try.prog)
  refine contract_f (Try.f43.body.getD .skip) h00 Try.func43 rfl Try.call43 (by decide) (by intro h; cases h) ?_
  rintro l r H
  try dsimp only at H
  unfold enqueue_normalize at H
  simp only [Try.f43, Option.getD]
  refine rA ?_
  refine rA ?_
  refine Sm.cut (fun (x : (List (List UInt8 × Bool))) => enqueue_normalize_s1 x) (fun x => enqueue_normalize_k1 n x = some r) ?_ ?_
  · refine rA ?_
    refine Sm.block ?_
    obtain ⟨y17, hy17, Ho17⟩ := bind_some H
    refine Sm.loopB _ (fun x => enqueue_normalize_t4 l (l.length : Int) x.1 x.2) hy17 (wb [some 144]) ?_
    rintro ⟨exclusive_1, v12⟩ z17 H
    try dsimp only at H
    unfold enqueue_normalize_b4 at H
    refine Sm.st (enqueue_normalize_t4.eq_1 ..) ?_
    refine rA ?_
    refine Sm.seqK fun K19 hK19 => ?_
    refine cnd H (fun h20 H => ?_) (fun h20 H => ?_)
    · refine Sm.skip ?_
      refine hK19 _ ?_
      refine Sm.seqK fun K21 hK21 => ?_
      refine Sm.block ?_
      obtain ⟨hg23, H⟩ := gd_some H
      refine rA ?_
      refine eA ?_
      refine hK21 _ ?_
      refine eA ?_
      refine lf ?_
      exact nx H (wb [some 9008])
    refine Sm.exit ?_
    refine lf ?_
    refine lx H fun hyy => ?_
    subst hyy
    have H := Ho17
    try dsimp only at H
    refine lf ?_
    exact ⟨_, H, wb [some 9008]⟩
  rintro exclusive H
  try dsimp only at H
  unfold enqueue_normalize_k1 at H
  refine Sm.st (enqueue_normalize_s1.eq_1 ..) ?_
  refine rA ?_
  refine Sm.cut (fun (x : (List TWant)) => enqueue_normalize_s2 x) (fun x => enqueue_normalize_k2 n x = some r) ?_ ?_
  · refine sX fun K6 hK6 => ?_
    refine oX ?_
    refine oE stepZ_ok ?_
    refine hK6 _ ?_
    refine Sm.block ?_
    refine Sm.loopE (fun (x : (List TWant)) oo => enqueue_normalize_b3 n x oo) (fun x l => enqueue_normalize_t3 x l) _ (allP_some H) ?_ ?_
    · exact wb [none, some 464]
    rintro out_1 rest hdef_b3
    refine Sm.st (enqueue_normalize_t3.eq_1 ..) ?_
    refine sX fun K8 hK8 => ?_
    refine opsE (stepLT_ok em_Str_Bool rest) fun K hK => ?_; simp only [z, seval]; (repeat (first | refine gcI ?_ | refine fun (_ : _ ≤ _) => ?_)); refine ⟨fun hl9 => hK _ ?_, fun e9 L9 hp9 => hK _ ?_⟩ <;> clear hK K
    · obtain ⟨z7, Hz9⟩ := hdef_b3 none [] ⟨hl9, rfl⟩
      have H := Hz9
      try dsimp only at H
      unfold enqueue_normalize_b3 at H
      try dsimp only at H
      refine oX ?_
      refine hK8 _ ?_
      refine Sm.seqK fun K10 hK10 => ?_
      refine cndF ?_
      refine Sm.exit ?_
      refine ⟨none, [], _, ⟨hl9, rfl⟩, Hz9, ?_⟩
      refine lf ?_
      refine ⟨⟨_, (Option.some.inj H).symm⟩, fun y7 hz Ho7 => ?_⟩
      have hyy := Sum.inr.inj ((Option.some.inj H).trans hz)
      subst hyy
      have H := Ho7
      try dsimp only at H
      refine lf ?_
      exact ⟨_, H, wb [some 9005]⟩
    · obtain ⟨z7, Hz9⟩ := hdef_b3 (some e9) L9 hp9
      have H := Hz9
      try dsimp only at H
      unfold enqueue_normalize_b3 at H
      try dsimp only at H
      refine oX ?_
      refine hK8 _ ?_
      refine Sm.seqK fun K12 hK12 => ?_
      refine cndT ?_
      refine Sm.skip ?_
      refine hK12 _ ?_
      refine Sm.block ?_
      refine sX fun K14 hK14 => ?_
      refine oE stepZ_ok ?_
      iterate 4 refine oX ?_
      refine hK14 _ ?_
      obtain ⟨hg15, H⟩ := gd_some H
      refine eA ?_
      refine ⟨some e9, L9, _, hp9, Hz9, ?_⟩
      refine lf ?_
      exact nx H (wb [some 640, some 9006])
  rintro out H
  try dsimp only at H
  unfold enqueue_normalize_k2 at H
  refine Sm.st (enqueue_normalize_s2.eq_1 ..) ?_
  refine sX fun K4 hK4 => ?_
  obtain ⟨r1, hr1, H⟩ := bind_some H
  have q := hr1
  refine oX ?_
  refine oMq (cslices_SortFunc_f67_c68 n _ r1 hr1) [9001] [] ?_
  refine hK4 _ ?_
  refine rA ?_
  refine Sm.ret ?_
  refine lf ?_
  obtain rfl := Option.some.inj H
  exact rt []
def slices_Clone_f79 (n : Nat) (s : List TWant) : Option (List TWant) :=
  uniB s fun nb1 =>
  bif nb1 then
    some []
  else
    gd (s.length ≤ 2147483648) <|
    some s
def xslices_Clone_f79 (n : Nat) : Go.AE.Fn := mkFn (A := (List TWant)) (R := (List TWant)) 79 [(false, [.slice 92])] false (fun xs => ((cg (xs.getD 0 []) 0).toSl.map d_TWant)) (fun a => [[.slice (List.map e_TWant a)]]) (fun a => slices_Clone_f79 n a) (fun r => [.own 0 [.str, .bool] 0 r.length]) (fun r => [.row 92 (List.map e_TWant r)])
theorem cslices_Clone_f79 (n : Nat) : Contract Try.prog (xslices_Clone_f79 n) := by
  have hΓ := @g0 (Contract Try.prog)
  refine contract_f (Try.f79.body.getD .skip) h00 Try.func79 rfl Try.call79 (by decide) (fun _ r => ⟨rfl, m1 ⟨92, _, _, rfl, ty92, rfl⟩ m0⟩) ?_
  rintro s r H
  try dsimp only at H
  unfold slices_Clone_f79 at H
  simp only [Try.f79, Option.getD]
  refine rA ?_
  refine Sm.seqK fun K2 hK2 => ?_
  refine sX fun K3 hK3 => ?_
  refine oX ?_
  refine opsN fun K hK => ?_; simp only [z, seval]; (repeat (first | refine gcI ?_ | refine fun (_ : _ ≤ _) => ?_)); intro nb1 hnb1; refine hK _ ?_; clear hK K
  replace H := uniB_some H nb1 (fun hb => by simpa using hnb1 hb)
  refine hK3 _ ?_
  refine cnd H (fun h4 H => ?_) (fun h4 H => ?_)
  · refine rA ?_
    refine Sm.ret ?_
    refine lf ?_
    obtain rfl := Option.some.inj H
    exact rto [none]
  refine Sm.skip ?_
  refine hK2 _ ?_
  obtain ⟨hg7, H⟩ := gd_some H
  refine rA ?_
  refine Sm.ret ?_
  refine lf ?_
  obtain rfl := Option.some.inj H
  exact rto [some 112]
abbrev enqueue_copied_s1 (out : List TRequest) : S := stB [(3, .own 9000 [.int .i64, .slice 92] 0 out.length)] [(9000, .row 61 (List.map e_TRequest out))]
def enqueue_copied_k1 (n : Nat) (out : List TRequest) : Option (List TRequest) :=
  some out
abbrev enqueue_copied_t2 (l : List TRequest) (v7 : Int) (out_1 : List TRequest) (v8 : Int) : S := stB [(3, .own 9002 [.int .i64, .slice 92] 0 out_1.length), (6, .c (.slice 61) (.slice (List.map e_TRequest l))), (7, .c (.int .i64) (.int v7)), (8, .c (.int .i64) (.int v8))] [(9002, .row 61 (List.map e_TRequest out_1))]
def enqueue_copied_b2 (n : Nat) (l : List TRequest) (v7 : Int) (out_1 : List TRequest) (v8 : Int) : Option (((List TRequest) × Int) ⊕ (((List TRequest)))) :=
  bif (decide (v8 < v7)) then
    gd ((0 ≤ v8 ∧ v8 < (l.length : Int))) <|
    (slices_Clone_f79 n ((gt l (Int.toNat v8)).Wants)).bind fun r1 =>
    gd ((out_1.length + 1) ≤ 2147483648) <|
    some (.inl ((out_1 ++ [(⟨(gt l (Int.toNat v8)).Job, r1⟩ : TRequest)]), (IntKind.wrap .i64 (v8 + 1))))
  else
    some (.inr out_1)
def enqueue_copied (n : Nat) (l : List TRequest) : Option (List TRequest) :=
  (loopF (fun (x : (List TRequest) × Int) => enqueue_copied_b2 n l (l.length : Int) x.1 x.2) n ([], 0)).bind fun y5 =>
  enqueue_copied_k1 n y5
def xenqueue_copied (n : Nat) : Go.AE.Fn := mkFn (A := (List TRequest)) (R := (List TRequest)) 56 [(false, [.slice 61])] true (fun xs => ((cg (xs.getD 0 []) 0).toSl.map d_TRequest)) (fun a => [[.slice (List.map e_TRequest a)]]) (fun a => enqueue_copied n a) (fun r => [.own 0 [.int .i64, .slice 92] 0 r.length]) (fun r => [.row 61 (List.map e_TRequest r)])
theorem cenqueue_copied (n : Nat) : Contract Try.prog (xenqueue_copied n) := by
  have hΓ := g1 (cslices_Clone_f79 n) (@g0 (Contract Try.prog))
  refine contract_f (Try.f56.body.getD .skip) h00 Try.func56 rfl Try.call56 (by decide) (by intro h; cases h) ?_
  rintro l r H
  try dsimp only at H
  unfold enqueue_copied at H
  simp only [Try.f56, Option.getD]
  refine rA ?_
  refine rA ?_
  refine Sm.cut (fun (x : (List TRequest)) => enqueue_copied_s1 x) (fun x => enqueue_copied_k1 n x = some r) ?_ ?_
  · refine rA ?_
    refine Sm.block ?_
    obtain ⟨y5, hy5, Ho5⟩ := bind_some H
    refine Sm.loopB _ (fun x => enqueue_copied_t2 l (l.length : Int) x.1 x.2) hy5 (wb [none]) ?_
    rintro ⟨out_1, v8⟩ z5 H
    try dsimp only at H
    unfold enqueue_copied_b2 at H
    refine Sm.st (enqueue_copied_t2.eq_1 ..) ?_
    refine rA ?_
    refine Sm.seqK fun K7 hK7 => ?_
    refine cnd H (fun h8 H => ?_) (fun h8 H => ?_)
    · refine Sm.skip ?_
      refine hK7 _ ?_
      refine Sm.seqK fun K9 hK9 => ?_
      refine Sm.block ?_
      obtain ⟨hg12, H⟩ := gd_some H
      refine rA ?_
      obtain ⟨r1, hr1, H⟩ := bind_some H
      obtain ⟨hg11, H⟩ := gd_some H
      refine eQ [0, 1, 2, 3, 4, 5, 6, 7, 8, 9] [(none, [], []), (none, [80], []), (none, [80], []), (none, [80], []), (none, [80], []), (none, [], [287, 286, 285, 284, 283, 282, 281, 280, 279, 278, 277, 276, 275, 274, 273, 272]), (none, [272], []), (none, [272], [304, 272]), (none, [304, 9002], [320, 9002]), (none, [], [])] ?_
      have q := And.intro @xslices_Clone_f79.eq_1 hr1
      iterate 10 refine oQq ?_
      refine opsQ0 ?_
      refine hK9 _ ?_
      refine eA ?_
      refine lf ?_
      exact nx H (wb [some 320])
    refine Sm.exit ?_
    refine lf ?_
    refine lx H fun hyy => ?_
    subst hyy
    have H := Ho5
    try dsimp only at H
    refine lf ?_
    exact ⟨_, H, wb [some 9002]⟩
  rintro out H
  try dsimp only at H
  unfold enqueue_copied_k1 at H
  refine Sm.st (enqueue_copied_s1.eq_1 ..) ?_
  refine rA ?_
  refine Sm.ret ?_
  refine lf ?_
  obtain rfl := Option.some.inj H
  exact rto [some 9000]
def enqueue_Table__copied (n : Nat) (t : TTable) : Option TTable :=
  (enqueue_copied n t.Held).bind fun r1 =>
  (enqueue_copied n t.Waiting).bind fun r2 =>
  some (⟨r1, r2⟩ : TTable)
def xenqueue_Table__copied (n : Nat) : Go.AE.Fn := mkFn (A := TTable) (R := TTable) 34 [(true, [.slice 61, .slice 61])] true (fun xs => (⟨((cg (xs.getD 0 []) 0).toSl.map d_TRequest), ((cg (xs.getD 0 []) 1).toSl.map d_TRequest)⟩ : TTable)) (fun a => [[.slice (List.map e_TRequest a.Held), .slice (List.map e_TRequest a.Waiting)]]) (fun a => enqueue_Table__copied n a) (fun r => [.agg [.own 0 [.int .i64, .slice 92] 0 r.Held.length, .own 1 [.int .i64, .slice 92] 0 r.Waiting.length]]) (fun r => [.row 61 (List.map e_TRequest r.Held), .row 61 (List.map e_TRequest r.Waiting)])
theorem cenqueue_Table__copied (n : Nat) : Contract Try.prog (xenqueue_Table__copied n) := by
  have hΓ := g1 (cenqueue_copied n) (@g0 (Contract Try.prog))
  refine contract_f (Try.f34.body.getD .skip) h00 Try.func34 rfl Try.call34 (by decide) (by intro h; cases h) ?_
  rintro t r H
  try dsimp only at H
  unfold enqueue_Table__copied at H
  simp only [Try.f34, Option.getD]
  refine rA ?_
  obtain ⟨r1, hr1, H⟩ := bind_some H
  obtain ⟨r2, hr2, H⟩ := bind_some H
  refine sQ [0, 1, 2, 3, 4, 5, 6, 7] [(none, [16], []), (none, [16], []), (none, [], [95, 94, 93, 92, 91, 90, 89, 88, 87, 86, 85, 84, 83, 82, 81, 80]), (none, [16], []), (none, [16], []), (none, [], [143, 142, 141, 140, 139, 138, 137, 136, 135, 134, 133, 132, 131, 130, 129, 128]), (none, [80, 128], []), (none, [32, 80, 128], [32])] fun K2 hK2 => ?_
  have q := And.intro @xenqueue_copied.eq_1 (And.intro hr1 hr2)
  iterate 8 refine oQq ?_
  refine opsQ0 ?_
  refine hK2 _ ?_
  refine Sm.ret ?_
  refine lf ?_
  obtain rfl := Option.some.inj H
  exact rto [some 80, some 128]
def enqueue_Ask (n : Nat) (t : TTable) (job : Int) (wants : List TWant) : Option (TTable × Bool × Int) :=
  (enqueue_Check n t).bind fun r1 =>
  bif (r1 != 0) then
    some ((⟨[], []⟩ : TTable), false, r1)
  else
    (enqueue_index n t.Held job).bind fun r2 =>
    gd (((!(decide (r2 ≥ 0))) = true → (enqueue_index n t.Waiting job).isSome = true)) <|
    bif (if (decide (r2 ≥ 0)) = true then true else (decide (((enqueue_index n t.Waiting job).getD default) ≥ 0))) then
      some ((⟨[], []⟩ : TTable), false, 4)
    else
      (enqueue_normalize n wants).bind fun r3 =>
      bif (decide ((r3.length : Int) > 512)) then
        some ((⟨[], []⟩ : TTable), false, 2)
      else
        (enqueue_Table__copied n t).bind fun r4 =>
        (enqueue_Request__blocked n (⟨job, r3⟩ : TRequest) t.Held).bind fun r5 =>
        gd (((!r5) = true → (enqueue_Request__blocked n (⟨job, r3⟩ : TRequest) t.Waiting).isSome = true)) <|
        bif (if r5 = true then true else ((enqueue_Request__blocked n (⟨job, r3⟩ : TRequest) t.Waiting).getD default)) then
          gd ((r4.Waiting.length + 1) ≤ 2147483648) <|
          some ((⟨r4.Held, (r4.Waiting ++ [(⟨job, r3⟩ : TRequest)])⟩ : TTable), false, 0)
        else
          gd ((r4.Held.length + 1) ≤ 2147483648) <|
          some ((⟨(r4.Held ++ [(⟨job, r3⟩ : TRequest)]), r4.Waiting⟩ : TTable), true, 0)
def xenqueue_Ask (n : Nat) : Go.AE.Fn := mkFn (A := TTable × Int × (List TWant)) (R := TTable × Bool × Int) 20 [(true, [.slice 61, .slice 61]), (false, [.int .i64]), (false, [.slice 92])] true (fun xs => ((⟨((cg (xs.getD 0 []) 0).toSl.map d_TRequest), ((cg (xs.getD 0 []) 1).toSl.map d_TRequest)⟩ : TTable), (cg (xs.getD 1 []) 0).toInt, ((cg (xs.getD 2 []) 0).toSl.map d_TWant))) (fun a => [[.slice (List.map e_TRequest a.1.Held), .slice (List.map e_TRequest a.1.Waiting)], [.int a.2.1], [.slice (List.map e_TWant a.2.2)]]) (fun a => enqueue_Ask n a.1 a.2.1 a.2.2) (fun r => [.agg [.own 0 [.int .i64, .slice 92] 0 r.1.Held.length, .own 1 [.int .i64, .slice 92] 0 r.1.Waiting.length], .c .bool (.bool r.2.1), .c (.int .i64) (.int r.2.2)]) (fun r => [.row 61 (List.map e_TRequest r.1.Held), .row 61 (List.map e_TRequest r.1.Waiting)])
theorem cenqueue_Ask (n : Nat) : Contract Try.prog (xenqueue_Ask n) := by
  have hΓ := g1 (cenqueue_Check n) (g1 (cenqueue_index n) (g1 (cenqueue_normalize n) (g1 (cenqueue_Table__copied n) (g1 (cenqueue_Request__blocked n) (@g0 (Contract Try.prog))))))
  refine contract_f (Try.f20.body.getD .skip) h00 Try.func20 rfl Try.call20 (by decide) (by intro h; cases h) ?_
  rintro ⟨t, job, wants⟩ r H
  try dsimp only at H
  unfold enqueue_Ask at H
  simp only [Try.f20, Option.getD]
  refine rA ?_
  refine Sm.seqK fun K2 hK2 => ?_
  obtain ⟨r1, hr1, H⟩ := bind_some H
  have q := And.intro @xenqueue_Check.eq_1 hr1
  refine rAq ?_
  refine rA ?_
  refine cnd H (fun h5 H => ?_) (fun h5 H => ?_)
  · refine rA ?_
    refine Sm.ret ?_
    refine lf ?_
    obtain rfl := Option.some.inj H
    exact rto [none, none]
  refine Sm.skip ?_
  refine hK2 _ ?_
  refine Sm.seqK fun K7 hK7 => ?_
  obtain ⟨r2, hr2, H⟩ := bind_some H
  obtain ⟨hg27, H⟩ := gd_some H
  have q := And.intro @xenqueue_Check.eq_1 (And.intro @xenqueue_index.eq_1 hr2)
  refine rAq ?_
  refine cnd H (fun h9 H => ?_) (fun h9 H => ?_)
  · refine rA ?_
    refine Sm.ret ?_
    refine lf ?_
    obtain rfl := Option.some.inj H
    exact rto [none, none]
  refine Sm.skip ?_
  refine hK7 _ ?_
  obtain ⟨r3, hr3, H⟩ := bind_some H
  have q := And.intro @xenqueue_Check.eq_1 (And.intro @xenqueue_index.eq_1 (And.intro @xenqueue_normalize.eq_1 hr3))
  refine rAq ?_
  refine Sm.seqK fun K12 hK12 => ?_
  refine rA ?_
  refine cnd H (fun h14 H => ?_) (fun h14 H => ?_)
  · refine rA ?_
    refine Sm.ret ?_
    refine lf ?_
    obtain rfl := Option.some.inj H
    exact rto [none, none]
  refine Sm.skip ?_
  refine hK12 _ ?_
  obtain ⟨r4, hr4, H⟩ := bind_some H
  have q := And.intro @xenqueue_Check.eq_1 (And.intro @xenqueue_index.eq_1 (And.intro @xenqueue_normalize.eq_1 (And.intro @xenqueue_Table__copied.eq_1 hr4)))
  refine rAq ?_
  refine Sm.seqK fun K17 hK17 => ?_
  obtain ⟨r5, hr5, H⟩ := bind_some H
  obtain ⟨hg26, H⟩ := gd_some H
  have q := And.intro @xenqueue_Check.eq_1 (And.intro @xenqueue_index.eq_1 (And.intro @xenqueue_normalize.eq_1 (And.intro @xenqueue_Table__copied.eq_1 (And.intro @xenqueue_Request__blocked.eq_1 hr5))))
  refine rAq ?_
  refine cnd H (fun h19 H => ?_) (fun h19 H => ?_)
  · obtain ⟨hg22, H⟩ := gd_some H
    refine rA ?_
    refine rA ?_
    refine Sm.ret ?_
    refine lf ?_
    obtain rfl := Option.some.inj H
    exact rto [some 656, some 896]
  refine Sm.skip ?_
  refine hK17 _ ?_
  obtain ⟨hg25, H⟩ := gd_some H
  refine rA ?_
  refine rA ?_
  refine Sm.ret ?_
  refine lf ?_
  obtain rfl := Option.some.inj H
  exact rto [some 1008, some 657]
def slices_Delete_f36_M1 (n : Nat) (s : List TRequest) (i : Int) (j : Int) : Option (Nat × (List TRequest)) :=
  gd ((0 ≤ i ∧ i ≤ j ∧ j ≤ ((s.length : Nat) : Int) ∧ ((s.length : Nat) : Int) ≤ (s.length : Int))) <|
  bif (i == j) then
    some (s.length, s)
  else
    gd ((0 ≤ i ∧ i ≤ (s.length : Int)) ∧ (0 ≤ j ∧ j ≤ (s.length : Int) ∧ (s.length : Int) ≤ (s.length : Int)) ∧ ((Int.toNat (i - 0)) + (List.take (Int.toNat ((s.length : Int) - j)) (List.drop (Int.toNat j) s)).length) ≤ s.length) <|
    gd ((0 ≤ ((((Int.toNat (i - 0)) + (List.take (Int.toNat ((s.length : Int) - j)) (List.drop (Int.toNat j) s)).length) : Nat) : Int) ∧ ((((Int.toNat (i - 0)) + (List.take (Int.toNat ((s.length : Int) - j)) (List.drop (Int.toNat j) s)).length) : Nat) : Int) ≤ ((s.length : Nat) : Int) ∧ ((s.length : Nat) : Int) ≤ (s.length : Int)) ∧ (((Int.toNat (i - 0)) + (List.take (Int.toNat ((s.length : Int) - j)) (List.drop (Int.toNat j) s)).length) + (Int.toNat (((s.length : Nat) : Int) - ((((Int.toNat (i - 0)) + (List.take (Int.toNat ((s.length : Int) - j)) (List.drop (Int.toNat j) s)).length) : Nat) : Int)))) ≤ s.length) <|
    some (((Int.toNat (i - 0)) + (List.take (Int.toNat ((s.length : Int) - j)) (List.drop (Int.toNat j) s)).length), (overL (overL s (Int.toNat (i - 0)) (List.take (Int.toNat ((s.length : Int) - j)) (List.drop (Int.toNat j) s))) ((Int.toNat (i - 0)) + (List.take (Int.toNat ((s.length : Int) - j)) (List.drop (Int.toNat j) s)).length) (zreps (Int.toNat (((s.length : Nat) : Int) - ((((Int.toNat (i - 0)) + (List.take (Int.toNat ((s.length : Int) - j)) (List.drop (Int.toNat j) s)).length) : Nat) : Int))) (⟨0, []⟩ : TRequest))))
theorem cslices_Delete_f36_M1 (n : Nat) (s : List TRequest) (i : Int) (j : Int) (r : Nat × (List TRequest)) (H : slices_Delete_f36_M1 n s i j = some r) : CallsM Try.prog 36 [.ref (.own 0 [.int .i64, .slice 92] 0 s.length), .dat (false, [.int .i64]) [.int i], .dat (false, [.int .i64]) [.int j]] [.row 61 (List.map e_TRequest s)] [.own 0 [.int .i64, .slice 92] 0 r.1] [.row 61 (List.map e_TRequest r.2)] := by
  have hΓ := @g0 (Contract Try.prog)
  refine callsM_of (Try.f36.body.getD .skip) h00 Try.func36 rfl Try.call36 (Nat.le_of_ble_eq_true rfl) (Nat.le_of_ble_eq_true rfl) ?_
  unfold slices_Delete_f36_M1 at H
  simp only [Try.f36, Option.getD]
  refine rA ?_
  refine sX fun K2 hK2 => ?_
  obtain ⟨hg3, H⟩ := gd_some H
  iterate 5 refine oX ?_
  refine oY ?_
  refine hK2 _ ?_
  refine Sm.seqK fun K4 hK4 => ?_
  refine rA ?_
  refine cnd H (fun h6 H => ?_) (fun h6 H => ?_)
  · refine rA ?_
    refine Sm.ret ?_
    refine lf ?_
    obtain rfl := Option.some.inj H
    exact rtM [some 0]
  refine Sm.skip ?_
  refine hK4 _ ?_
  refine rA ?_
  obtain ⟨⟨hg14, hg15, hg16⟩, H⟩ := gd_some H
  refine rD ?_
  refine sX fun K10 hK10 => ?_
  obtain ⟨⟨hg11, hg12⟩, H⟩ := gd_some H
  iterate 5 refine oX ?_
  refine oY ?_
  refine hK10 _ ?_
  refine rA ?_
  refine Sm.ret ?_
  refine lf ?_
  obtain rfl := Option.some.inj H
  exact rtM [some 0]
abbrev enqueue_Release_s2 (out_4 : List TRequest) (out_5 : Nat) (out_6 : List TRequest) (jobs : List Int) : S := stB [(4, .box 9004 0), (8, .box 9005 0), (11, .own 9008 [.int .i64] 0 jobs.length)] [(9004, .box [.nilsl, .nilsl]), (9005, .box [.own 9006 [.int .i64, .slice 92] 0 out_5, .own 9007 [.int .i64, .slice 92] 0 out_6.length]), (9006, .row 61 (List.map e_TRequest out_4)), (9007, .row 61 (List.map e_TRequest out_6)), (9008, .row 3 (List.map e_Int jobs))]
def enqueue_Release_k2 (n : Nat) (out_4 : List TRequest) (out_5 : Nat) (out_6 : List TRequest) (jobs : List Int) : Option (TTable × (List Int) × Int) :=
  some ((⟨(List.take out_5 out_4), out_6⟩ : TTable), jobs, 0)
abbrev enqueue_Release_s4 (out_10 : List TRequest) (out_11 : Nat) (out_12 : List TRequest) (jobs_2 : List Int) (out_2 : List TRequest) (v53_1 : Nat) (v54 : Int) (v55 : Int) : S := stB [(4, .box 9025 0), (8, .box 9026 0), (11, .own 9029 [.int .i64] 0 jobs_2.length), (53, .own 9030 [.int .i64, .slice 92] 0 v53_1), (54, .c (.int .i64) (.int v54)), (55, .c (.int .i64) (.int v55))] [(9025, .box [.nilsl, .nilsl]), (9026, .box [.own 9027 [.int .i64, .slice 92] 0 out_11, .own 9028 [.int .i64, .slice 92] 0 out_12.length]), (9027, .row 61 (List.map e_TRequest out_10)), (9028, .row 61 (List.map e_TRequest out_12)), (9029, .row 3 (List.map e_Int jobs_2)), (9030, .row 61 (List.map e_TRequest out_2))]
def enqueue_Release_k4 (n : Nat) (out_10 : List TRequest) (out_11 : Nat) (out_12 : List TRequest) (jobs_2 : List Int) (out_2 : List TRequest) (v53_1 : Nat) (v54 : Int) (v55 : Int) : Option (((List TRequest) × Nat × (List TRequest) × (List Int) × Nat × Int) ⊕ (((List TRequest) × Nat × (List TRequest) × (List Int)))) :=
  some (.inl (out_10, out_11, out_12, jobs_2, v53_1, (IntKind.wrap .i64 (v55 + 1))))
abbrev enqueue_Release_t3 (out_2 : List TRequest) (v54 : Int) (out_7 : List TRequest) (out_8 : Nat) (out_9 : List TRequest) (jobs_1 : List Int) (v53 : Nat) (v55 : Int) : S := stB [(4, .box 9019 0), (8, .box 9020 0), (11, .own 9023 [.int .i64] 0 jobs_1.length), (53, .own 9024 [.int .i64, .slice 92] 0 v53), (54, .c (.int .i64) (.int v54)), (55, .c (.int .i64) (.int v55))] [(9019, .box [.nilsl, .nilsl]), (9020, .box [.own 9021 [.int .i64, .slice 92] 0 out_8, .own 9022 [.int .i64, .slice 92] 0 out_9.length]), (9021, .row 61 (List.map e_TRequest out_7)), (9022, .row 61 (List.map e_TRequest out_9)), (9023, .row 3 (List.map e_Int jobs_1)), (9024, .row 61 (List.map e_TRequest out_2))]
def enqueue_Release_b3 (n : Nat) (out_2 : List TRequest) (v54 : Int) (out_7 : List TRequest) (out_8 : Nat) (out_9 : List TRequest) (jobs_1 : List Int) (v53 : Nat) (v55 : Int) : Option (((List TRequest) × Nat × (List TRequest) × (List Int) × Nat × Int) ⊕ (((List TRequest) × Nat × (List TRequest) × (List Int)))) :=
  bif (decide (v55 < v54)) then
    gd ((0 ≤ v55 ∧ v55 < (v53 : Int)) ∧ (Int.toNat v55) < out_2.length) <|
    (enqueue_Request__blocked n (gt out_2 (Int.toNat v55)) (List.take out_8 out_7)).bind fun r3 =>
    gd (((!r3) = true → (enqueue_Request__blocked n (gt out_2 (Int.toNat v55)) out_9).isSome = true)) <|
    bif (if r3 = true then true else ((enqueue_Request__blocked n (gt out_2 (Int.toNat v55)) out_9).getD default)) then
      gd ((out_9.length + 1) ≤ 2147483648) <|
      enqueue_Release_k4 n out_7 out_8 (out_9 ++ [(gt out_2 (Int.toNat v55))]) jobs_1 out_2 v53 v54 v55
    else
      gd (out_8 ≤ out_7.length ∧ (out_8 + 1) ≤ 2147483648) <|
      gd ((jobs_1.length + 1) ≤ 2147483648) <|
      enqueue_Release_k4 n ((List.take out_8 out_7) ++ [(gt out_2 (Int.toNat v55))]) (out_8 + 1) out_9 (jobs_1 ++ [(gt out_2 (Int.toNat v55)).Job]) out_2 v53 v54 v55
  else
    some (.inr (out_7, out_8, out_9, jobs_1))
abbrev enqueue_Release_s1 (out : List TRequest) (out_1 : Nat) (out_2 : List TRequest) (out_3 : Nat) : S := stB [(4, .box 9000 0), (8, .box 9001 0)] [(9000, .box [.nilsl, .nilsl]), (9001, .box [.own 9002 [.int .i64, .slice 92] 0 out_1, .own 9003 [.int .i64, .slice 92] 0 out_3]), (9002, .row 61 (List.map e_TRequest out)), (9003, .row 61 (List.map e_TRequest out_2))]
def enqueue_Release_k1 (n : Nat) (out : List TRequest) (out_1 : Nat) (out_2 : List TRequest) (out_3 : Nat) : Option (TTable × (List Int) × Int) :=
  (loopF (fun (x : (List TRequest) × Nat × (List TRequest) × (List Int) × Nat × Int) => enqueue_Release_b3 n out_2 ((out_3 : Nat) : Int) x.1 x.2.1 x.2.2.1 x.2.2.2.1 x.2.2.2.2.1 x.2.2.2.2.2) n (out, out_1, [], [], out_3, 0)).bind fun y13 =>
  enqueue_Release_k2 n y13.1 y13.2.1 y13.2.2.1 y13.2.2.2
def enqueue_Release (n : Nat) (t : TTable) (job : Int) : Option (TTable × (List Int) × Int) :=
  (enqueue_Check n t).bind fun r1 =>
  bif (r1 != 0) then
    some ((⟨[], []⟩ : TTable), [], r1)
  else
    (enqueue_Table__copied n t).bind fun r2 =>
    (enqueue_index n r2.Held job).bind fun r4 =>
    bif (decide (r4 ≥ 0)) then
      (slices_Delete_f36_M1 n r2.Held r4 (IntKind.wrap .i64 (r4 + 1))).bind fun r5 =>
      enqueue_Release_k1 n r5.2 r5.1 r2.Waiting r2.Waiting.length
    else
      (enqueue_index n r2.Waiting job).bind fun r6 =>
      bif (decide (r6 ≥ 0)) then
        (slices_Delete_f36_M1 n r2.Waiting r6 (IntKind.wrap .i64 (r6 + 1))).bind fun r7 =>
        enqueue_Release_k1 n r2.Held r2.Held.length r7.2 r7.1
      else
        some ((⟨[], []⟩ : TTable), [], 3)
def xenqueue_Release (n : Nat) : Go.AE.Fn := mkFn (A := TTable × Int) (R := TTable × (List Int) × Int) 14 [(true, [.slice 61, .slice 61]), (false, [.int .i64])] true (fun xs => ((⟨((cg (xs.getD 0 []) 0).toSl.map d_TRequest), ((cg (xs.getD 0 []) 1).toSl.map d_TRequest)⟩ : TTable), (cg (xs.getD 1 []) 0).toInt)) (fun a => [[.slice (List.map e_TRequest a.1.Held), .slice (List.map e_TRequest a.1.Waiting)], [.int a.2]]) (fun a => enqueue_Release n a.1 a.2) (fun r => [.agg [.c (.slice 61) (.slice (List.map e_TRequest r.1.Held)), .own 0 [.int .i64, .slice 92] 0 r.1.Waiting.length], .own 1 [.int .i64] 0 r.2.1.length, .c (.int .i64) (.int r.2.2)]) (fun r => [.row 61 (List.map e_TRequest r.1.Waiting), .row 3 (List.map e_Int r.2.1)])
theorem cenqueue_Release (n : Nat) : Contract Try.prog (xenqueue_Release n) := by
  have hΓ := g1 (cenqueue_Check n) (g1 (cenqueue_Table__copied n) (g1 (cenqueue_index n) (g1 (cenqueue_Request__blocked n) (@g0 (Contract Try.prog)))))
  refine contract_f (Try.f14.body.getD .skip) h00 Try.func14 rfl Try.call14 (by decide) (by intro h; cases h) ?_
  rintro ⟨t, job⟩ r H
  try dsimp only at H
  unfold enqueue_Release at H
  simp only [Try.f14, Option.getD]
  refine rA ?_
  refine Sm.seqK fun K2 hK2 => ?_
  obtain ⟨r1, hr1, H⟩ := bind_some H
  have q := And.intro @xenqueue_Check.eq_1 hr1
  refine rAq ?_
  refine rA ?_
  refine cnd H (fun h5 H => ?_) (fun h5 H => ?_)
  · refine rA ?_
    refine Sm.ret ?_
    refine lf ?_
    obtain rfl := Option.some.inj H
    exact rto [none, none]
  refine Sm.skip ?_
  refine hK2 _ ?_
  obtain ⟨r2, hr2, H⟩ := bind_some H
  have q := And.intro @xenqueue_Check.eq_1 (And.intro @xenqueue_Table__copied.eq_1 hr2)
  refine rAq ?_
  refine Sm.cut (fun (x : (List TRequest) × Nat × (List TRequest) × Nat) => enqueue_Release_s1 x.1 x.2.1 x.2.2.1 x.2.2.2) (fun x => enqueue_Release_k1 n x.1 x.2.1 x.2.2.1 x.2.2.2 = some r) ?_ ?_
  · obtain ⟨r4, hr4, H⟩ := bind_some H
    have q := And.intro @xenqueue_Check.eq_1 (And.intro @xenqueue_Table__copied.eq_1 (And.intro @xenqueue_index.eq_1 hr4))
    refine rAq ?_
    refine rA ?_
    refine cnd H (fun h32 H => ?_) (fun h32 H => ?_)
    · refine eX ?_
      obtain ⟨r5, hr5, H⟩ := bind_some H
      have q := hr5
      iterate 5 refine oX ?_
      refine oMq (cslices_Delete_f36_M1 n _ _ _ r5 hr5) [352] [] ?_
      iterate 2 refine oXq ?_
      refine opsX0 ?_
      refine lf ?_
      exact ⟨(r5.2, r5.1, r2.Waiting, r2.Waiting.length), H, wb [some 64, some 128, some 352, some 353]⟩
    obtain ⟨r6, hr6, H⟩ := bind_some H
    have q := And.intro @xenqueue_Check.eq_1 (And.intro @xenqueue_Table__copied.eq_1 (And.intro @xenqueue_index.eq_1 hr6))
    refine rAq ?_
    refine rA ?_
    refine cnd H (fun h35 H => ?_) (fun h35 H => ?_)
    · refine eX ?_
      obtain ⟨r7, hr7, H⟩ := bind_some H
      have q := hr7
      iterate 5 refine oX ?_
      refine oMq (cslices_Delete_f36_M1 n _ _ _ r7 hr7) [353] [] ?_
      iterate 2 refine oXq ?_
      refine opsX0 ?_
      refine lf ?_
      exact ⟨(r2.Held, r2.Held.length, r7.2, r7.1), H, wb [some 64, some 128, some 352, some 353]⟩
    refine rA ?_
    refine Sm.ret ?_
    refine lf ?_
    obtain rfl := Option.some.inj H
    exact rto [none, none]
  rintro ⟨out, out_1, out_2, out_3⟩ H
  try dsimp only at H
  unfold enqueue_Release_k1 at H
  refine Sm.st (enqueue_Release_s1.eq_1 ..) ?_
  refine rA ?_
  refine rA ?_
  refine rA ?_
  refine Sm.cut (fun (x : (List TRequest) × Nat × (List TRequest) × (List Int)) => enqueue_Release_s2 x.1 x.2.1 x.2.2.1 x.2.2.2) (fun x => enqueue_Release_k2 n x.1 x.2.1 x.2.2.1 x.2.2.2 = some r) ?_ ?_
  · refine rA ?_
    refine Sm.block ?_
    obtain ⟨y13, hy13, Ho13⟩ := bind_some H
    refine Sm.loopB _ (fun x => enqueue_Release_t3 out_2 ((out_3 : Nat) : Int) x.1 x.2.1 x.2.2.1 x.2.2.2.1 x.2.2.2.2.1 x.2.2.2.2.2) hy13 (wb [some 9000, some 9001, some 9002, none, none, some 9003]) ?_
    rintro ⟨out_7, out_8, out_9, jobs_1, v53, v55⟩ z13 H
    try dsimp only at H
    unfold enqueue_Release_b3 at H
    refine Sm.st (enqueue_Release_t3.eq_1 ..) ?_
    refine rA ?_
    refine Sm.seqK fun K15 hK15 => ?_
    refine cnd H (fun h16 H => ?_) (fun h16 H => ?_)
    · refine Sm.skip ?_
      refine hK15 _ ?_
      refine Sm.cut (fun (x : (List TRequest) × Nat × (List TRequest) × (List Int)) => enqueue_Release_s4 x.1 x.2.1 x.2.2.1 x.2.2.2 out_2 v53 ((out_3 : Nat) : Int) v55) (fun x => enqueue_Release_k4 n x.1 x.2.1 x.2.2.1 x.2.2.2 out_2 v53 ((out_3 : Nat) : Int) v55 = some z13) ?_ ?_
      · refine Sm.block ?_
        obtain ⟨⟨hg28, hg29⟩, H⟩ := gd_some H
        refine rA ?_
        refine Sm.seqK fun K18 hK18 => ?_
        obtain ⟨r3, hr3, H⟩ := bind_some H
        obtain ⟨hg27, H⟩ := gd_some H
        have q := And.intro @xenqueue_Check.eq_1 (And.intro @xenqueue_Table__copied.eq_1 (And.intro @xenqueue_index.eq_1 (And.intro @xenqueue_Request__blocked.eq_1 hr3)))
        refine rAq ?_
        refine cnd H (fun h20 H => ?_) (fun h20 H => ?_)
        · obtain ⟨hg22, H⟩ := gd_some H
          refine rA ?_
          refine Sm.exit ?_
          refine lf ?_
          exact ⟨(out_7, out_8, (out_9 ++ [(gt out_2 (Int.toNat v55))]), jobs_1), H, wb [some 9019, some 9020, some 9021, some 1168, some 9023, some 9024]⟩
        refine Sm.skip ?_
        refine hK18 _ ?_
        obtain ⟨⟨hg25, hg26⟩, H⟩ := gd_some H
        refine rA ?_
        obtain ⟨hg24, H⟩ := gd_some H
        refine eA ?_
        refine lf ?_
        exact ⟨(((List.take out_8 out_7) ++ [(gt out_2 (Int.toNat v55))]), (out_8 + 1), out_9, (jobs_1 ++ [(gt out_2 (Int.toNat v55)).Job])), H, wb [some 9019, some 9020, some 1264, some 9022, some 1360, some 9024]⟩
      rintro ⟨out_10, out_11, out_12, jobs_2⟩ H
      try dsimp only at H
      unfold enqueue_Release_k4 at H
      refine Sm.st (enqueue_Release_s4.eq_1 ..) ?_
      refine eA ?_
      refine lf ?_
      exact nx H (wb [some 9025, some 9026, some 9027, some 9028, some 9029, some 9030])
    refine Sm.exit ?_
    refine lf ?_
    refine lx H fun hyy => ?_
    subst hyy
    have H := Ho13
    try dsimp only at H
    refine lf ?_
    exact ⟨(out_7, out_8, out_9, jobs_1), H, wb [some 9019, some 9020, some 9021, some 9022, some 9023]⟩
  rintro ⟨out_4, out_5, out_6, jobs⟩ H
  try dsimp only at H
  unfold enqueue_Release_k2 at H
  refine Sm.st (enqueue_Release_s2.eq_1 ..) ?_
  refine rA ?_
  refine Sm.ret ?_
  refine lf ?_
  obtain rfl := Option.some.inj H
  exact rto [some 9007, some 9008]
abbrev law37_ints_s1 : S := stB [] []
def law37_ints_k1 (n : Nat) : Option Bool :=
  some true
abbrev law37_ints_t2 (a : List Int) (b : List Int) (k : Int) : S := stB [(0, .c (.slice 3) (.slice (List.map e_Int a))), (1, .c (.slice 3) (.slice (List.map e_Int b))), (5, .c (.int .i64) (.int k))] []
def law37_ints_b2 (n : Nat) (a : List Int) (b : List Int) (k : Int) : Option ((Int) ⊕ (((Bool) ⊕ (Unit)))) :=
  bif (decide (k < (a.length : Int))) then
    gd ((0 ≤ k ∧ k < (a.length : Int)) ∧ (0 ≤ k ∧ k < (b.length : Int))) <|
    bif ((gt a (Int.toNat k)) != (gt b (Int.toNat k))) then
      some (.inr (.inl false))
    else
      some (.inl (IntKind.wrap .i64 (k + 1)))
  else
    some (.inr (.inr ()))
def law37_ints (n : Nat) (a : List Int) (b : List Int) : Option Bool :=
  bif ((a.length : Int) != (b.length : Int)) then
    some false
  else
    (loopF (fun (x : Int) => law37_ints_b2 n a b x) n 0).bind fun y8 =>
    match y8 with
    | .inl vv =>
      some vv
    | .inr vv =>
      law37_ints_k1 n
def xlaw37_ints (n : Nat) : Go.AE.Fn := mkFn (A := (List Int) × (List Int)) (R := Bool) 16 [(false, [.slice 3]), (false, [.slice 3])] false (fun xs => (((cg (xs.getD 0 []) 0).toSl.map d_Int), ((cg (xs.getD 1 []) 0).toSl.map d_Int))) (fun a => [[.slice (List.map e_Int a.1)], [.slice (List.map e_Int a.2)]]) (fun a => law37_ints n a.1 a.2) (fun r => [.c .bool (.bool r)]) (fun r => [])
theorem claw37_ints (n : Nat) : Contract Try.prog (xlaw37_ints n) := by
  have hΓ := @g0 (Contract Try.prog)
  refine contract_f (Try.f16.body.getD .skip) h00 Try.func16 rfl Try.call16 (by decide) (by intro _ r; exact ⟨rfl, by simp⟩) ?_
  rintro ⟨a, b⟩ r H
  try dsimp only at H
  unfold law37_ints at H
  simp only [Try.f16, Option.getD]
  refine rA ?_
  refine Sm.seqK fun K2 hK2 => ?_
  refine rA ?_
  refine cnd H (fun h4 H => ?_) (fun h4 H => ?_)
  · refine rA ?_
    refine Sm.ret ?_
    refine lf ?_
    obtain rfl := Option.some.inj H
    exact rt []
  refine Sm.skip ?_
  refine hK2 _ ?_
  refine Sm.cut (fun (x : Unit) => law37_ints_s1) (fun x => law37_ints_k1 n = some r) ?_ ?_
  · refine rA ?_
    refine Sm.block ?_
    obtain ⟨y8, hy8, Ho8⟩ := bind_some H
    refine Sm.loopB _ (fun x => law37_ints_t2 a b x) hy8 (wb []) ?_
    rintro k z8 H
    try dsimp only at H
    unfold law37_ints_b2 at H
    refine Sm.st (law37_ints_t2.eq_1 ..) ?_
    refine Sm.seqK fun K9 hK9 => ?_
    refine rA ?_
    refine cnd H (fun h11 H => ?_) (fun h11 H => ?_)
    · refine Sm.skip ?_
      refine hK9 _ ?_
      refine Sm.seqK fun K12 hK12 => ?_
      refine Sm.block ?_
      obtain ⟨⟨hg16, hg17⟩, H⟩ := gd_some H
      refine rD ?_
      refine cnd H (fun h14 H => ?_) (fun h14 H => ?_)
      · refine rA ?_
        refine Sm.ret ?_
        refine lf ?_
        refine lx H fun hyy => ?_
        subst hyy
        have H := Ho8
        try dsimp only at H
        refine lf ?_
        obtain rfl := Option.some.inj H
        exact rt []
      refine Sm.skip ?_
      refine hK12 _ ?_
      refine eA ?_
      refine lf ?_
      exact nx H (wb [])
    refine Sm.exit ?_
    refine lf ?_
    refine lx H fun hyy => ?_
    subst hyy
    have H := Ho8
    try dsimp only at H
    refine lf ?_
    exact ⟨(), H, wb []⟩
  rintro ⟨⟩ H
  try dsimp only at H
  unfold law37_ints_k1 at H
  refine Sm.st (law37_ints_s1.eq_1 ..) ?_
  refine rA ?_
  refine Sm.ret ?_
  refine lf ?_
  obtain rfl := Option.some.inj H
  exact rt []
def law37_works (n : Nat) : Option Bool :=
  (law37_one n [65] false).bind fun r1 =>
  (enqueue_Ask n (⟨[], []⟩ : TTable) 1 r1).bind fun r2 =>
  (law37_one n [65] true).bind fun r3 =>
  (enqueue_Ask n r2.1 2 r3).bind fun r4 =>
  (law37_one n [65] false).bind fun r5 =>
  (enqueue_Ask n r4.1 3 r5).bind fun r6 =>
  (enqueue_Release n r6.1 1).bind fun r7 =>
  bif (if (if (if (if (if (if (r2.2.2 == 0) = true then (r4.2.2 == 0) else false) = true then (r6.2.2 == 0) else false) = true then (r7.2.2 == 0) else false) = true then r2.2.1 else false) = true then (!r4.2.1) else false) = true then (!r6.2.1) else false) then
    gd ((if (if (if (if (if (if (r2.2.2 == 0) = true then (r4.2.2 == 0) else false) = true then (r6.2.2 == 0) else false) = true then (r7.2.2 == 0) else false) = true then r2.2.1 else false) = true then (!r4.2.1) else false) = true then (!r6.2.1) else false) = true) <|
    (law37_ints n r7.2.1 [2]).bind fun r8 =>
    some (if (if r8 = true then ((r7.1.Held.length : Int) == 1) else false) = true then (((r7.1.Waiting.length : Nat) : Int) == 1) else false)
  else
    some false
def xlaw37_works (n : Nat) : Go.AE.Fn := mkFn (A := Unit) (R := Bool) 11 [] false (fun xs => ()) (fun a => []) (fun a => law37_works n) (fun r => [.c .bool (.bool r)]) (fun r => [])
theorem claw37_works (n : Nat) : Contract Try.prog (xlaw37_works n) := by
  have hΓ := g1 (claw37_one n) (g1 (cenqueue_Ask n) (g1 (cenqueue_Release n) (g1 (claw37_ints n) (@g0 (Contract Try.prog)))))
  refine contract_f (Try.f11.body.getD .skip) h00 Try.func11 rfl Try.call11 (by decide) (by intro _ r; exact ⟨rfl, by simp⟩) ?_
  rintro ⟨⟩ r H
  try dsimp only at H
  unfold law37_works at H
  simp only [Try.f11, Option.getD]
  refine rA ?_
  obtain ⟨r1, hr1, H⟩ := bind_some H
  obtain ⟨r2, hr2, H⟩ := bind_some H
  have q := And.intro @xlaw37_one.eq_1 (And.intro @xenqueue_Ask.eq_1 (And.intro hr1 hr2))
  refine rAq ?_
  obtain ⟨r3, hr3, H⟩ := bind_some H
  obtain ⟨r4, hr4, H⟩ := bind_some H
  refine sQ [0, 1, 2, 3, 4, 5, 6, 7, 8, 9] [(none, [16], []), (none, [], [335, 334, 333, 332, 331, 330, 329, 328, 327, 326, 325, 324, 323, 322, 321, 320]), (none, [224, 225, 320], [351, 350, 349, 348, 347, 346, 345, 344, 343, 342, 341, 340, 339, 338, 337, 336, 224, 225, 320]), (none, [], []), (none, [], []), (none, [], []), (none, [], []), (none, [16, 336, 337], [16]), (none, [], []), (none, [], [])] fun K3 hK3 => ?_
  have q := And.intro @xlaw37_one.eq_1 (And.intro @xenqueue_Ask.eq_1 (And.intro @xenqueue_Release.eq_1 (And.intro @xlaw37_ints.eq_1 (And.intro hr3 hr4))))
  iterate 10 refine oQq ?_
  refine opsQ0 ?_
  refine hK3 _ ?_
  obtain ⟨r5, hr5, H⟩ := bind_some H
  obtain ⟨r6, hr6, H⟩ := bind_some H
  refine sQ [0, 1, 2, 3, 4, 5, 6, 7, 8, 9] [(none, [16], []), (none, [], [447, 446, 445, 444, 443, 442, 441, 440, 439, 438, 437, 436, 435, 434, 433, 432]), (none, [336, 337, 432], [463, 462, 461, 460, 459, 458, 457, 456, 455, 454, 453, 452, 451, 450, 449, 448, 336, 337, 432]), (none, [], []), (none, [], []), (none, [], []), (none, [], []), (none, [16, 448, 449], [16]), (none, [], []), (none, [], [])] fun K4 hK4 => ?_
  have q := And.intro @xlaw37_one.eq_1 (And.intro @xenqueue_Ask.eq_1 (And.intro @xenqueue_Release.eq_1 (And.intro @xlaw37_ints.eq_1 (And.intro hr5 hr6))))
  iterate 10 refine oQq ?_
  refine opsQ0 ?_
  refine hK4 _ ?_
  obtain ⟨r7, hr7, H⟩ := bind_some H
  have q := And.intro @xlaw37_one.eq_1 (And.intro @xenqueue_Ask.eq_1 (And.intro @xenqueue_Release.eq_1 hr7))
  refine rAq ?_
  refine sX fun K6 hK6 => ?_
  have q := And.intro @xlaw37_one.eq_1 (And.intro @xenqueue_Ask.eq_1 (And.intro @xenqueue_Release.eq_1 @xlaw37_ints.eq_1))
  iterate 27 refine oXq ?_
  refine bif_cases H (fun hs7 H => ?_) (fun hs7 H => ?_)
  · obtain ⟨hg8, H⟩ := gd_some H
    obtain ⟨r8, hr8, H⟩ := bind_some H
    have q := And.intro @xlaw37_one.eq_1 (And.intro @xenqueue_Ask.eq_1 (And.intro @xenqueue_Release.eq_1 (And.intro @xlaw37_ints.eq_1 (And.intro hs7 hr8))))
    refine oTG ?_
    refine oTG ?_
    refine oPl ?_
    iterate 13 refine oXq ?_
    refine hK6 _ ?_
    refine Sm.ret ?_
    refine lf ?_
    obtain rfl := Option.some.inj H
    exact rt []
  have q := And.intro @xlaw37_one.eq_1 (And.intro @xenqueue_Ask.eq_1 (And.intro @xenqueue_Release.eq_1 (And.intro @xlaw37_ints.eq_1 hs7)))
  refine oFq ?_
  refine oFq ?_
  refine oPr ?_
  refine oXq ?_
  refine oFq ?_
  refine oFq ?_
  refine oFq ?_
  refine oFq ?_
  refine oPr ?_
  refine oXq ?_
  refine oFq ?_
  refine oFq ?_
  refine oFq ?_
  refine oFq ?_
  refine oPr ?_
  refine oXq ?_
  refine hK6 _ ?_
  refine Sm.ret ?_
  refine lf ?_
  obtain rfl := Option.some.inj H
  exact rt []
abbrev law37_few_s1 (l : List TWant) : S := stB [(0, .c (.slice 92) (.slice (List.map e_TWant l)))] []
def law37_few_k1 (n : Nat) (l : List TWant) : Option Bool :=
  some (decide ((l.length : Int) ≤ 40))
abbrev law37_few_t2 (l : List TWant) (k : Int) : S := stB [(0, .c (.slice 92) (.slice (List.map e_TWant l))), (3, .c (.int .i64) (.int k))] []
def law37_few_b2 (n : Nat) (l : List TWant) (k : Int) : Option ((Int) ⊕ (((Bool) ⊕ (Unit)))) :=
  bif (decide (k < (l.length : Int))) then
    gd ((0 ≤ k ∧ k < (l.length : Int))) <|
    bif (decide ((((gt l (Int.toNat k)).Name).length : Int) > 60)) then
      some (.inr (.inl false))
    else
      some (.inl (IntKind.wrap .i64 (k + 1)))
  else
    some (.inr (.inr ()))
def law37_few (n : Nat) (l : List TWant) : Option Bool :=
  (loopF (fun (x : Int) => law37_few_b2 n l x) n 0).bind fun y4 =>
  match y4 with
  | .inl vv =>
    some vv
  | .inr vv =>
    law37_few_k1 n l
def xlaw37_few (n : Nat) : Go.AE.Fn := mkFn (A := (List TWant)) (R := Bool) 19 [(false, [.slice 92])] false (fun xs => ((cg (xs.getD 0 []) 0).toSl.map d_TWant)) (fun a => [[.slice (List.map e_TWant a)]]) (fun a => law37_few n a) (fun r => [.c .bool (.bool r)]) (fun r => [])
theorem claw37_few (n : Nat) : Contract Try.prog (xlaw37_few n) := by
  have hΓ := @g0 (Contract Try.prog)
  refine contract_f (Try.f19.body.getD .skip) h00 Try.func19 rfl Try.call19 (by decide) (by intro _ r; exact ⟨rfl, by simp⟩) ?_
  rintro l r H
  try dsimp only at H
  unfold law37_few at H
  simp only [Try.f19, Option.getD]
  refine rA ?_
  refine Sm.cut (fun (x : Unit) => law37_few_s1 l) (fun x => law37_few_k1 n l = some r) ?_ ?_
  · refine rA ?_
    refine Sm.block ?_
    obtain ⟨y4, hy4, Ho4⟩ := bind_some H
    refine Sm.loopB _ (fun x => law37_few_t2 l x) hy4 (wb []) ?_
    rintro k z4 H
    try dsimp only at H
    unfold law37_few_b2 at H
    refine Sm.st (law37_few_t2.eq_1 ..) ?_
    refine Sm.seqK fun K5 hK5 => ?_
    refine rA ?_
    refine cnd H (fun h7 H => ?_) (fun h7 H => ?_)
    · refine Sm.skip ?_
      refine hK5 _ ?_
      refine Sm.seqK fun K8 hK8 => ?_
      refine Sm.block ?_
      obtain ⟨hg12, H⟩ := gd_some H
      refine rA ?_
      refine cnd H (fun h10 H => ?_) (fun h10 H => ?_)
      · refine rA ?_
        refine Sm.ret ?_
        refine lf ?_
        refine lx H fun hyy => ?_
        subst hyy
        have H := Ho4
        try dsimp only at H
        refine lf ?_
        obtain rfl := Option.some.inj H
        exact rt []
      refine Sm.skip ?_
      refine hK8 _ ?_
      refine eA ?_
      refine lf ?_
      exact nx H (wb [])
    refine Sm.exit ?_
    refine lf ?_
    refine lx H fun hyy => ?_
    subst hyy
    have H := Ho4
    try dsimp only at H
    refine lf ?_
    exact ⟨(), H, wb []⟩
  rintro ⟨⟩ H
  try dsimp only at H
  unfold law37_few_k1 at H
  refine Sm.st (law37_few_s1.eq_1 ..) ?_
  refine rA ?_
  refine Sm.ret ?_
  refine lf ?_
  obtain rfl := Option.some.inj H
  exact rt []
abbrev law37_light_s1 (all : List TRequest) : S := stB [(3, .own 9000 [.int .i64, .slice 92] 0 all.length)] [(9000, .row 61 (List.map e_TRequest all))]
def law37_light_k1 (n : Nat) (all : List TRequest) : Option Bool :=
  some (decide (((all.length : Nat) : Int) ≤ 30))
abbrev law37_light_t2 (all_1 : List TRequest) (k : Int) : S := stB [(3, .own 9002 [.int .i64, .slice 92] 0 all_1.length), (4, .c (.int .i64) (.int k))] [(9002, .row 61 (List.map e_TRequest all_1))]
def law37_light_b2 (n : Nat) (all_1 : List TRequest) (k : Int) : Option ((Int) ⊕ (((Bool) ⊕ (Unit)))) :=
  bif (decide (k < ((all_1.length : Nat) : Int))) then
    gd ((0 ≤ k ∧ k < (all_1.length : Int)) ∧ (Int.toNat k) < all_1.length) <|
    (law37_few n ((gt all_1 (Int.toNat k)).Wants)).bind fun r1 =>
    bif (!r1) then
      some (.inr (.inl false))
    else
      some (.inl (IntKind.wrap .i64 (k + 1)))
  else
    some (.inr (.inr ()))
def law37_light (n : Nat) (t : TTable) : Option Bool :=
  gd (t.Held.length ≤ 2147483648 ∧ (t.Held.length + t.Waiting.length) ≤ 2147483648) <|
  (loopF (fun (x : Int) => law37_light_b2 n (t.Held ++ t.Waiting) x) n 0).bind fun y7 =>
  match y7 with
  | .inl vv =>
    some vv
  | .inr vv =>
    law37_light_k1 n (t.Held ++ t.Waiting)
def xlaw37_light (n : Nat) : Go.AE.Fn := mkFn (A := TTable) (R := Bool) 12 [(true, [.slice 61, .slice 61])] false (fun xs => (⟨((cg (xs.getD 0 []) 0).toSl.map d_TRequest), ((cg (xs.getD 0 []) 1).toSl.map d_TRequest)⟩ : TTable)) (fun a => [[.slice (List.map e_TRequest a.Held), .slice (List.map e_TRequest a.Waiting)]]) (fun a => law37_light n a) (fun r => [.c .bool (.bool r)]) (fun r => [])
theorem claw37_light (n : Nat) : Contract Try.prog (xlaw37_light n) := by
  have hΓ := g1 (claw37_few n) (@g0 (Contract Try.prog))
  refine contract_f (Try.f12.body.getD .skip) h00 Try.func12 rfl Try.call12 (by decide) (by intro _ r; exact ⟨rfl, by simp⟩) ?_
  rintro t r H
  try dsimp only at H
  unfold law37_light at H
  simp only [Try.f12, Option.getD]
  refine rA ?_
  obtain ⟨⟨hg3, hg4⟩, H⟩ := gd_some H
  refine sQ [0, 1, 2, 3, 4, 5, 6, 7] [(none, [], [80]), (none, [16], []), (none, [16], []), (none, [80], [128, 80]), (none, [16], []), (none, [16], []), (none, [128], [176, 128]), (none, [], [])] fun K2 hK2 => ?_
  iterate 8 refine oQ ?_
  refine opsQ0 ?_
  refine hK2 _ ?_
  refine Sm.cut (fun (x : (List TRequest)) => law37_light_s1 x) (fun x => law37_light_k1 n x = some r) ?_ ?_
  · refine rA ?_
    refine Sm.block ?_
    obtain ⟨y7, hy7, Ho7⟩ := bind_some H
    refine Sm.loopB _ (fun x => law37_light_t2 (t.Held ++ t.Waiting) x) hy7 (wb [some 176]) ?_
    rintro k z7 H
    try dsimp only at H
    unfold law37_light_b2 at H
    refine Sm.st (law37_light_t2.eq_1 ..) ?_
    refine Sm.seqK fun K8 hK8 => ?_
    refine rA ?_
    refine cnd H (fun h10 H => ?_) (fun h10 H => ?_)
    · refine Sm.skip ?_
      refine hK8 _ ?_
      refine Sm.seqK fun K11 hK11 => ?_
      refine Sm.block ?_
      obtain ⟨⟨hg15, hg16⟩, H⟩ := gd_some H
      try simp only [List.length_append] at hg15 hg16
      obtain ⟨r1, hr1, H⟩ := bind_some H
      have q := And.intro @xlaw37_few.eq_1 hr1
      refine rAq ?_
      refine cnd H (fun h13 H => ?_) (fun h13 H => ?_)
      · refine rA ?_
        refine Sm.ret ?_
        refine lf ?_
        refine lx H fun hyy => ?_
        subst hyy
        have H := Ho7
        try dsimp only at H
        refine lf ?_
        obtain rfl := Option.some.inj H
        exact rt []
      refine Sm.skip ?_
      refine hK11 _ ?_
      refine eA ?_
      refine lf ?_
      exact nx H (wb [some 9002])
    refine Sm.exit ?_
    refine lf ?_
    refine lx H fun hyy => ?_
    subst hyy
    have H := Ho7
    try dsimp only at H
    refine lf ?_
    exact ⟨_, H, wb [some 9002]⟩
  rintro all H
  try dsimp only at H
  unfold law37_light_k1 at H
  refine Sm.st (law37_light_s1.eq_1 ..) ?_
  refine rA ?_
  refine Sm.ret ?_
  refine lf ?_
  obtain rfl := Option.some.inj H
  exact rt []
abbrev law37_wants_s1 (out : List TWant) : S := stB [(3, .own 9000 [.str, .bool] 0 out.length)] [(9000, .row 95 (List.map e_TWant out))]
def law37_wants_k1 (n : Nat) (out : List TWant) : Option (List TWant) :=
  some out
abbrev law37_wants_t2 (l : List TWant) (out_1 : List TWant) (k : Int) : S := stB [(0, .c (.slice 92) (.slice (List.map e_TWant l))), (3, .own 9002 [.str, .bool] 0 out_1.length), (4, .c (.int .i64) (.int k))] [(9002, .row 95 (List.map e_TWant out_1))]
def law37_wants_b2 (n : Nat) (l : List TWant) (out_1 : List TWant) (k : Int) : Option (((List TWant) × Int) ⊕ (((List TWant)))) :=
  bif (decide (k < (l.length : Int))) then
    gd ((0 ≤ k ∧ k < (l.length : Int)) ∧ (0 ≤ k ∧ k < (l.length : Int)) ∧ (out_1.length + 1) ≤ 2147483648) <|
    some (.inl ((out_1 ++ [(gt l (Int.toNat k))]), (IntKind.wrap .i64 (k + 1))))
  else
    some (.inr out_1)
def law37_wants (n : Nat) (l : List TWant) : Option (List TWant) :=
  (loopF (fun (x : (List TWant) × Int) => law37_wants_b2 n l x.1 x.2) n ([], 0)).bind fun y5 =>
  law37_wants_k1 n y5
def xlaw37_wants (n : Nat) : Go.AE.Fn := mkFn (A := (List TWant)) (R := (List TWant)) 22 [(false, [.slice 92])] false (fun xs => ((cg (xs.getD 0 []) 0).toSl.map d_TWant)) (fun a => [[.slice (List.map e_TWant a)]]) (fun a => law37_wants n a) (fun r => [.own 0 [.str, .bool] 0 r.length]) (fun r => [.row 95 (List.map e_TWant r)])
theorem claw37_wants (n : Nat) : Contract Try.prog (xlaw37_wants n) := by
  have hΓ := @g0 (Contract Try.prog)
  refine contract_f (Try.f22.body.getD .skip) h00 Try.func22 rfl Try.call22 (by decide) (fun _ r => ⟨rfl, m1 ⟨95, _, _, rfl, ty95, rfl⟩ m0⟩) ?_
  rintro l r H
  try dsimp only at H
  unfold law37_wants at H
  simp only [Try.f22, Option.getD]
  refine rA ?_
  refine rA ?_
  refine Sm.cut (fun (x : (List TWant)) => law37_wants_s1 x) (fun x => law37_wants_k1 n x = some r) ?_ ?_
  · refine rA ?_
    refine Sm.block ?_
    obtain ⟨y5, hy5, Ho5⟩ := bind_some H
    refine Sm.loopB _ (fun x => law37_wants_t2 l x.1 x.2) hy5 (wb [none]) ?_
    rintro ⟨out_1, k⟩ z5 H
    try dsimp only at H
    unfold law37_wants_b2 at H
    refine Sm.st (law37_wants_t2.eq_1 ..) ?_
    refine Sm.seqK fun K6 hK6 => ?_
    refine rA ?_
    refine cnd H (fun h8 H => ?_) (fun h8 H => ?_)
    · refine Sm.skip ?_
      refine hK6 _ ?_
      refine Sm.seqK fun K9 hK9 => ?_
      refine Sm.block ?_
      obtain ⟨⟨hg10, hg11, hg12⟩, H⟩ := gd_some H
      refine eD ?_
      refine hK9 _ ?_
      refine eA ?_
      refine lf ?_
      exact nx H (wb [some 384])
    refine Sm.exit ?_
    refine lf ?_
    refine lx H fun hyy => ?_
    subst hyy
    have H := Ho5
    try dsimp only at H
    refine lf ?_
    exact ⟨_, H, wb [some 9002]⟩
  rintro out H
  try dsimp only at H
  unfold law37_wants_k1 at H
  refine Sm.st (law37_wants_s1.eq_1 ..) ?_
  refine rA ?_
  refine Sm.ret ?_
  refine lf ?_
  obtain rfl := Option.some.inj H
  exact rto [some 9000]
abbrev law37_requests_s1 (out : List TRequest) : S := stB [(3, .own 9000 [.int .i64, .slice 95] 0 out.length)] [(9000, .row 88 (List.map e_TRequest out))]
def law37_requests_k1 (n : Nat) (out : List TRequest) : Option (List TRequest) :=
  some out
abbrev law37_requests_t2 (l : List TRequest) (out_1 : List TRequest) (k : Int) : S := stB [(0, .c (.slice 61) (.slice (List.map e_TRequest l))), (3, .own 9002 [.int .i64, .slice 95] 0 out_1.length), (4, .c (.int .i64) (.int k))] [(9002, .row 88 (List.map e_TRequest out_1))]
def law37_requests_b2 (n : Nat) (l : List TRequest) (out_1 : List TRequest) (k : Int) : Option (((List TRequest) × Int) ⊕ (((List TRequest)))) :=
  bif (decide (k < (l.length : Int))) then
    gd ((0 ≤ k ∧ k < (l.length : Int)) ∧ (0 ≤ k ∧ k < (l.length : Int))) <|
    (law37_wants n ((gt l (Int.toNat k)).Wants)).bind fun r1 =>
    gd ((out_1.length + 1) ≤ 2147483648) <|
    some (.inl ((out_1 ++ [(⟨(gt l (Int.toNat k)).Job, r1⟩ : TRequest)]), (IntKind.wrap .i64 (k + 1))))
  else
    some (.inr out_1)
def law37_requests (n : Nat) (l : List TRequest) : Option (List TRequest) :=
  (loopF (fun (x : (List TRequest) × Int) => law37_requests_b2 n l x.1 x.2) n ([], 0)).bind fun y5 =>
  law37_requests_k1 n y5
def xlaw37_requests (n : Nat) : Go.AE.Fn := mkFn (A := (List TRequest)) (R := (List TRequest)) 33 [(false, [.slice 61])] true (fun xs => ((cg (xs.getD 0 []) 0).toSl.map d_TRequest)) (fun a => [[.slice (List.map e_TRequest a)]]) (fun a => law37_requests n a) (fun r => [.own 0 [.int .i64, .slice 95] 0 r.length]) (fun r => [.row 88 (List.map e_TRequest r)])
theorem claw37_requests (n : Nat) : Contract Try.prog (xlaw37_requests n) := by
  have hΓ := g1 (claw37_wants n) (@g0 (Contract Try.prog))
  refine contract_f (Try.f33.body.getD .skip) h00 Try.func33 rfl Try.call33 (by decide) (by intro h; cases h) ?_
  rintro l r H
  try dsimp only at H
  unfold law37_requests at H
  simp only [Try.f33, Option.getD]
  refine rA ?_
  refine rA ?_
  refine Sm.cut (fun (x : (List TRequest)) => law37_requests_s1 x) (fun x => law37_requests_k1 n x = some r) ?_ ?_
  · refine rA ?_
    refine Sm.block ?_
    obtain ⟨y5, hy5, Ho5⟩ := bind_some H
    refine Sm.loopB _ (fun x => law37_requests_t2 l x.1 x.2) hy5 (wb [none]) ?_
    rintro ⟨out_1, k⟩ z5 H
    try dsimp only at H
    unfold law37_requests_b2 at H
    refine Sm.st (law37_requests_t2.eq_1 ..) ?_
    refine Sm.seqK fun K6 hK6 => ?_
    refine rA ?_
    refine cnd H (fun h8 H => ?_) (fun h8 H => ?_)
    · refine Sm.skip ?_
      refine hK6 _ ?_
      refine Sm.seqK fun K9 hK9 => ?_
      refine Sm.block ?_
      obtain ⟨⟨hg10, hg11⟩, H⟩ := gd_some H
      obtain ⟨r1, hr1, H⟩ := bind_some H
      obtain ⟨hg12, H⟩ := gd_some H
      refine eQ [0, 1, 2, 3, 4, 5, 6, 7, 8, 9, 10, 11, 12, 13, 14, 15] [(none, [], []), (none, [], []), (none, [], []), (none, [], []), (none, [], []), (none, [], []), (none, [], []), (none, [], []), (none, [], []), (none, [], []), (none, [], []), (none, [], [367, 366, 365, 364, 363, 362, 361, 360, 359, 358, 357, 356, 355, 354, 353, 352]), (none, [352], []), (none, [352], [384, 352]), (none, [384, 9002], [400, 9002]), (none, [], [])] ?_
      have q := And.intro @xlaw37_wants.eq_1 hr1
      iterate 16 refine oQq ?_
      refine opsQ0 ?_
      refine hK9 _ ?_
      refine eA ?_
      refine lf ?_
      exact nx H (wb [some 400])
    refine Sm.exit ?_
    refine lf ?_
    refine lx H fun hyy => ?_
    subst hyy
    have H := Ho5
    try dsimp only at H
    refine lf ?_
    exact ⟨_, H, wb [some 9002]⟩
  rintro out H
  try dsimp only at H
  unfold law37_requests_k1 at H
  refine Sm.st (law37_requests_s1.eq_1 ..) ?_
  refine rA ?_
  refine Sm.ret ?_
  refine lf ?_
  obtain rfl := Option.some.inj H
  exact rto [some 9000]
def law37_table (n : Nat) (t : TTable) : Option TTable :=
  (law37_requests n t.Held).bind fun r1 =>
  (law37_requests n t.Waiting).bind fun r2 =>
  some (⟨r1, r2⟩ : TTable)
def xlaw37_table (n : Nat) : Go.AE.Fn := mkFn (A := TTable) (R := TTable) 13 [(true, [.slice 61, .slice 61])] true (fun xs => (⟨((cg (xs.getD 0 []) 0).toSl.map d_TRequest), ((cg (xs.getD 0 []) 1).toSl.map d_TRequest)⟩ : TTable)) (fun a => [[.slice (List.map e_TRequest a.Held), .slice (List.map e_TRequest a.Waiting)]]) (fun a => law37_table n a) (fun r => [.agg [.own 0 [.int .i64, .slice 95] 0 r.Held.length, .own 1 [.int .i64, .slice 95] 0 r.Waiting.length]]) (fun r => [.row 88 (List.map e_TRequest r.Held), .row 88 (List.map e_TRequest r.Waiting)])
theorem claw37_table (n : Nat) : Contract Try.prog (xlaw37_table n) := by
  have hΓ := g1 (claw37_requests n) (@g0 (Contract Try.prog))
  refine contract_f (Try.f13.body.getD .skip) h00 Try.func13 rfl Try.call13 (by decide) (by intro h; cases h) ?_
  rintro t r H
  try dsimp only at H
  unfold law37_table at H
  simp only [Try.f13, Option.getD]
  refine rA ?_
  obtain ⟨r1, hr1, H⟩ := bind_some H
  obtain ⟨r2, hr2, H⟩ := bind_some H
  refine sQ [0, 1, 2, 3, 4, 5, 6, 7] [(none, [16], []), (none, [16], []), (none, [], [95, 94, 93, 92, 91, 90, 89, 88, 87, 86, 85, 84, 83, 82, 81, 80]), (none, [16], []), (none, [16], []), (none, [], [143, 142, 141, 140, 139, 138, 137, 136, 135, 134, 133, 132, 131, 130, 129, 128]), (none, [80, 128], []), (none, [32, 80, 128], [32])] fun K2 hK2 => ?_
  have q := And.intro @xlaw37_requests.eq_1 (And.intro hr1 hr2)
  iterate 8 refine oQq ?_
  refine opsQ0 ?_
  refine hK2 _ ?_
  refine Sm.ret ?_
  refine lf ?_
  obtain rfl := Option.some.inj H
  exact rto [some 80, some 128]
abbrev enqueue_copied_R_s1 (out : List TRequest) : S := stB [(3, .own 9000 [.int .i64, .slice 92] 0 out.length)] [(0, .reg), (9000, .row 61 (List.map e_TRequest out))]
abbrev enqueue_copied_R_t2 (l : List TRequest) (v7 : Int) (out_1 : List TRequest) (v8 : Int) : S := stB [(3, .own 9002 [.int .i64, .slice 92] 0 out_1.length), (6, .rg 0 (.slice 61) (.slice (List.map e_TRequest l))), (7, .c (.int .i64) (.int v7)), (8, .c (.int .i64) (.int v8))] [(0, .reg), (9002, .row 61 (List.map e_TRequest out_1))]
theorem cenqueue_copied_R (n : Nat) (l : List TRequest) (r : (List TRequest)) (H : enqueue_copied n l = some r) : CallsM Try.prog 56 [.ref (.rg 0 (.slice 61) (.slice (List.map e_TRequest l)))] [.reg] [.own 1 [.int .i64, .slice 92] 0 r.length] [.reg, .row 61 (List.map e_TRequest r)] := by
  have hΓ := g1 (cslices_Clone_f79 n) (@g0 (Contract Try.prog))
  refine callsM_of (Try.f56.body.getD .skip) h00 Try.func56 rfl Try.call56 (Nat.le_of_ble_eq_true rfl) (Nat.le_of_ble_eq_true rfl) ?_
  unfold enqueue_copied at H
  simp only [Try.f56, Option.getD]
  refine rA ?_
  refine rA ?_
  refine Sm.cut (fun (x : (List TRequest)) => enqueue_copied_R_s1 x) (fun x => enqueue_copied_k1 n x = some r) ?_ ?_
  · refine sX fun K4 hK4 => ?_
    refine oX ?_
    refine oE stepRg_ok ?_
    refine oX ?_
    refine hK4 _ ?_
    refine Sm.block ?_
    obtain ⟨y5, hy5, Ho5⟩ := bind_some H
    refine Sm.loopB _ (fun x => enqueue_copied_R_t2 l (l.length : Int) x.1 x.2) hy5 (wb [some 0, none]) ?_
    rintro ⟨out_1, v8⟩ z5 H
    try dsimp only at H
    unfold enqueue_copied_b2 at H
    refine Sm.st (enqueue_copied_R_t2.eq_1 ..) ?_
    refine rA ?_
    refine Sm.seqK fun K7 hK7 => ?_
    refine cnd H (fun h8 H => ?_) (fun h8 H => ?_)
    · refine Sm.skip ?_
      refine hK7 _ ?_
      refine Sm.seqK fun K9 hK9 => ?_
      refine Sm.block ?_
      refine sX fun K10 hK10 => ?_
      obtain ⟨hg11, H⟩ := gd_some H
      refine oE stepRg_ok ?_
      refine oE stepRg_ok ?_
      iterate 2 refine oX ?_
      refine hK10 _ ?_
      obtain ⟨r1, hr1, H⟩ := bind_some H
      obtain ⟨hg12, H⟩ := gd_some H
      refine eQ [0, 1, 2, 3, 4, 5, 6, 7, 8, 9] [(none, [], []), (none, [80], []), (none, [80], []), (none, [80], []), (none, [80], []), (none, [0], [287, 286, 285, 284, 283, 282, 281, 280, 279, 278, 277, 276, 275, 274, 273, 272, 0]), (none, [272], []), (none, [272], [304, 272]), (none, [304, 9002], [320, 9002]), (none, [], [])] ?_
      have q := And.intro @xslices_Clone_f79.eq_1 hr1
      iterate 10 refine oQq ?_
      refine opsQ0 ?_
      refine hK9 _ ?_
      refine eA ?_
      refine lf ?_
      exact nx H (wb [some 0, some 320])
    refine Sm.exit ?_
    refine lf ?_
    refine lx H fun hyy => ?_
    subst hyy
    have H := Ho5
    try dsimp only at H
    refine lf ?_
    exact ⟨_, H, wb [some 0, some 9002]⟩
  rintro out H
  try dsimp only at H
  unfold enqueue_copied_k1 at H
  refine Sm.st (enqueue_copied_R_s1.eq_1 ..) ?_
  refine rA ?_
  refine Sm.ret ?_
  refine lf ?_
  obtain rfl := Option.some.inj H
  exact rtM [some 0, some 9000]
theorem cenqueue_Table__copied_R (n : Nat) (t : TTable) (r : TTable) (H : enqueue_Table__copied n t = some r) : CallsM Try.prog 34 [.ref (.agg [.rg 0 (.slice 61) (.slice (List.map e_TRequest t.Held)), .rg 0 (.slice 61) (.slice (List.map e_TRequest t.Waiting))])] [.reg] [.agg [.own 1 [.int .i64, .slice 92] 0 r.Held.length, .own 2 [.int .i64, .slice 92] 0 r.Waiting.length]] [.reg, .row 61 (List.map e_TRequest r.Held), .row 61 (List.map e_TRequest r.Waiting)] := by
  have hΓ := @g0 (Contract Try.prog)
  refine callsM_of (Try.f34.body.getD .skip) h00 Try.func34 rfl Try.call34 (Nat.le_of_ble_eq_true rfl) (Nat.le_of_ble_eq_true rfl) ?_
  unfold enqueue_Table__copied at H
  simp only [Try.f34, Option.getD]
  refine rA ?_
  obtain ⟨r1, hr1, H⟩ := bind_some H
  obtain ⟨r2, hr2, H⟩ := bind_some H
  refine Sm.seqT h00 mixed hΓ (by kernel_rfl) fun K2 hK2 => ?_
  refine wpT_node 0 [3] (by kernel_rfl) ?_
  simp only [rs]
  refine ⟨?_, ?_, trivial⟩
  · refine opsX fun K hK => ?_; simp only [z, seval, hr1, hr2]; (repeat (first | refine gcI ?_ | refine fun (_ : _ ≤ _) => ?_)); refine hK _ ?_; clear hK K
    refine opsX0 ?_
    refine wpT_node 1 [3] (by kernel_rfl) ?_
    simp only [rs]
    refine ⟨?_, ?_, trivial⟩
    · refine opsX fun K hK => ?_; simp only [z, seval, hr1, hr2]; (repeat (first | refine gcI ?_ | refine fun (_ : _ ≤ _) => ?_)); refine hK _ ?_; clear hK K
      refine opsX0 ?_
      refine wpT_node 2 [3] (by kernel_rfl) ?_
      simp only [rs]
      refine ⟨?_, ?_, trivial⟩
      · refine opsM (cenqueue_copied_R n _ r1 hr1) [0] [80] (by simp only [z, seval, hr1, hr2]; try rfl) (by simp only [z, seval, hr1, hr2]) (by simp only [z, seval, hr1, hr2]) (by simp only [z, seval, hr1, hr2]) (by simp only [z, seval, hr1, hr2]) rfl (by simp only [z, seval, hr1, hr2]) rfl ?_
        refine opsX0 ?_
        refine wpT_node 3 [] (by kernel_rfl) ?_
        simp only [rs]
        refine ⟨?_, trivial⟩
        refine opsX fun K hK => ?_; simp only [z, seval, hr1, hr2]; (repeat (first | refine gcI ?_ | refine fun (_ : _ ≤ _) => ?_)); refine hK _ ?_; clear hK K
        refine opsX0 ?_
        refine wpT_node 4 [] (by kernel_rfl) ?_
        simp only [rs]
        refine ⟨?_, trivial⟩
        refine opsX fun K hK => ?_; simp only [z, seval, hr1, hr2]; (repeat (first | refine gcI ?_ | refine fun (_ : _ ≤ _) => ?_)); refine hK _ ?_; clear hK K
        refine opsX0 ?_
        refine wpT_node 5 [] (by kernel_rfl) ?_
        simp only [rs]
        refine ⟨?_, trivial⟩
        refine opsM (cenqueue_copied_R n _ r2 hr2) [0] [128] (by simp only [z, seval, hr1, hr2]; try rfl) (by simp only [z, seval, hr1, hr2]) (by simp only [z, seval, hr1, hr2]) (by simp only [z, seval, hr1, hr2]) (by simp only [z, seval, hr1, hr2]) rfl (by simp only [z, seval, hr1, hr2]) rfl ?_
        refine opsX0 ?_
        refine wpT_node 6 [] (by kernel_rfl) ?_
        simp only [rs]
        refine ⟨?_, trivial⟩
        refine opsX fun K hK => ?_; simp only [z, seval, hr1, hr2]; (repeat (first | refine gcI ?_ | refine fun (_ : _ ≤ _) => ?_)); refine hK _ ?_; clear hK K
        refine opsX0 ?_
        refine wpT_node 7 [] (by kernel_rfl) ?_
        simp only [rs]
        refine ⟨?_, trivial⟩
        refine opsX fun K hK => ?_; simp only [z, seval, hr1, hr2]; (repeat (first | refine gcI ?_ | refine fun (_ : _ ≤ _) => ?_)); refine hK _ ?_; clear hK K
        refine opsX0 ?_
        refine ⟨by kernel_rfl, ?_⟩
        refine hK2 _ ?_
        refine Sm.ret ?_
        refine lf ?_
        obtain rfl := Option.some.inj H
        exact rtM [some 0, some 80, some 128]
      · refine opsX fun K hK => ?_; simp only [z, seval, hr1, hr2]; (repeat (first | refine gcI ?_ | refine fun (_ : _ ≤ _) => ?_)); refine hK _ ?_; clear hK K
        refine opsX0 ?_
        refine wpT_node 2 [4] (by kernel_rfl) ?_
        simp only [rs]
        refine ⟨?_, ?_, trivial⟩
        · refine opsM (cenqueue_copied_R n _ r1 hr1) [0] [80] (by simp only [z, seval, hr1, hr2]; try rfl) (by simp only [z, seval, hr1, hr2]) (by simp only [z, seval, hr1, hr2]) (by simp only [z, seval, hr1, hr2]) (by simp only [z, seval, hr1, hr2]) rfl (by simp only [z, seval, hr1, hr2]) rfl ?_
          refine opsX0 ?_
          refine wpT_node 4 [] (by kernel_rfl) ?_
          simp only [rs]
          refine ⟨?_, trivial⟩
          refine opsX fun K hK => ?_; simp only [z, seval, hr1, hr2]; (repeat (first | refine gcI ?_ | refine fun (_ : _ ≤ _) => ?_)); refine hK _ ?_; clear hK K
          refine opsX0 ?_
          refine wpT_node 5 [] (by kernel_rfl) ?_
          simp only [rs]
          refine ⟨?_, trivial⟩
          refine opsM (cenqueue_copied_R n _ r2 hr2) [0] [128] (by simp only [z, seval, hr1, hr2]; try rfl) (by simp only [z, seval, hr1, hr2]) (by simp only [z, seval, hr1, hr2]) (by simp only [z, seval, hr1, hr2]) (by simp only [z, seval, hr1, hr2]) rfl (by simp only [z, seval, hr1, hr2]) rfl ?_
          refine opsX0 ?_
          refine wpT_node 6 [] (by kernel_rfl) ?_
          simp only [rs]
          refine ⟨?_, trivial⟩
          refine opsX fun K hK => ?_; simp only [z, seval, hr1, hr2]; (repeat (first | refine gcI ?_ | refine fun (_ : _ ≤ _) => ?_)); refine hK _ ?_; clear hK K
          refine opsX0 ?_
          refine wpT_node 7 [] (by kernel_rfl) ?_
          simp only [rs]
          refine ⟨?_, trivial⟩
          refine opsX fun K hK => ?_; simp only [z, seval, hr1, hr2]; (repeat (first | refine gcI ?_ | refine fun (_ : _ ≤ _) => ?_)); refine hK _ ?_; clear hK K
          refine opsX0 ?_
          refine ⟨by kernel_rfl, ?_⟩
          refine hK2 _ ?_
          refine Sm.ret ?_
          refine lf ?_
          obtain rfl := Option.some.inj H
          exact rtM [some 0, some 80, some 128]
        · refine opsX fun K hK => ?_; simp only [z, seval, hr1, hr2]; (repeat (first | refine gcI ?_ | refine fun (_ : _ ≤ _) => ?_)); refine hK _ ?_; clear hK K
          refine opsX0 ?_
          refine wpT_node 2 [] (by kernel_rfl) ?_
          simp only [rs]
          refine ⟨?_, trivial⟩
          refine opsM (cenqueue_copied_R n _ r1 hr1) [0] [80] (by simp only [z, seval, hr1, hr2]; try rfl) (by simp only [z, seval, hr1, hr2]) (by simp only [z, seval, hr1, hr2]) (by simp only [z, seval, hr1, hr2]) (by simp only [z, seval, hr1, hr2]) rfl (by simp only [z, seval, hr1, hr2]) rfl ?_
          refine opsX0 ?_
          refine wpT_node 5 [] (by kernel_rfl) ?_
          simp only [rs]
          refine ⟨?_, trivial⟩
          refine opsM (cenqueue_copied_R n _ r2 hr2) [0] [128] (by simp only [z, seval, hr1, hr2]; try rfl) (by simp only [z, seval, hr1, hr2]) (by simp only [z, seval, hr1, hr2]) (by simp only [z, seval, hr1, hr2]) (by simp only [z, seval, hr1, hr2]) rfl (by simp only [z, seval, hr1, hr2]) rfl ?_
          refine opsX0 ?_
          refine wpT_node 6 [] (by kernel_rfl) ?_
          simp only [rs]
          refine ⟨?_, trivial⟩
          refine opsX fun K hK => ?_; simp only [z, seval, hr1, hr2]; (repeat (first | refine gcI ?_ | refine fun (_ : _ ≤ _) => ?_)); refine hK _ ?_; clear hK K
          refine opsX0 ?_
          refine wpT_node 7 [] (by kernel_rfl) ?_
          simp only [rs]
          refine ⟨?_, trivial⟩
          refine opsX fun K hK => ?_; simp only [z, seval, hr1, hr2]; (repeat (first | refine gcI ?_ | refine fun (_ : _ ≤ _) => ?_)); refine hK _ ?_; clear hK K
          refine opsX0 ?_
          refine ⟨by kernel_rfl, ?_⟩
          refine hK2 _ ?_
          refine Sm.ret ?_
          refine lf ?_
          obtain rfl := Option.some.inj H
          exact rtM [some 0, some 80, some 128]
    · refine opsX fun K hK => ?_; simp only [z, seval, hr1, hr2]; (repeat (first | refine gcI ?_ | refine fun (_ : _ ≤ _) => ?_)); refine hK _ ?_; clear hK K
      refine opsX0 ?_
      refine wpT_node 1 [4] (by kernel_rfl) ?_
      simp only [rs]
      refine ⟨?_, ?_, trivial⟩
      · refine opsX fun K hK => ?_; simp only [z, seval, hr1, hr2]; (repeat (first | refine gcI ?_ | refine fun (_ : _ ≤ _) => ?_)); refine hK _ ?_; clear hK K
        refine opsX0 ?_
        refine wpT_node 2 [4] (by kernel_rfl) ?_
        simp only [rs]
        refine ⟨?_, ?_, trivial⟩
        · refine opsM (cenqueue_copied_R n _ r1 hr1) [0] [80] (by simp only [z, seval, hr1, hr2]; try rfl) (by simp only [z, seval, hr1, hr2]) (by simp only [z, seval, hr1, hr2]) (by simp only [z, seval, hr1, hr2]) (by simp only [z, seval, hr1, hr2]) rfl (by simp only [z, seval, hr1, hr2]) rfl ?_
          refine opsX0 ?_
          refine wpT_node 4 [] (by kernel_rfl) ?_
          simp only [rs]
          refine ⟨?_, trivial⟩
          refine opsX fun K hK => ?_; simp only [z, seval, hr1, hr2]; (repeat (first | refine gcI ?_ | refine fun (_ : _ ≤ _) => ?_)); refine hK _ ?_; clear hK K
          refine opsX0 ?_
          refine wpT_node 5 [] (by kernel_rfl) ?_
          simp only [rs]
          refine ⟨?_, trivial⟩
          refine opsM (cenqueue_copied_R n _ r2 hr2) [0] [128] (by simp only [z, seval, hr1, hr2]; try rfl) (by simp only [z, seval, hr1, hr2]) (by simp only [z, seval, hr1, hr2]) (by simp only [z, seval, hr1, hr2]) (by simp only [z, seval, hr1, hr2]) rfl (by simp only [z, seval, hr1, hr2]) rfl ?_
          refine opsX0 ?_
          refine wpT_node 6 [] (by kernel_rfl) ?_
          simp only [rs]
          refine ⟨?_, trivial⟩
          refine opsX fun K hK => ?_; simp only [z, seval, hr1, hr2]; (repeat (first | refine gcI ?_ | refine fun (_ : _ ≤ _) => ?_)); refine hK _ ?_; clear hK K
          refine opsX0 ?_
          refine wpT_node 7 [] (by kernel_rfl) ?_
          simp only [rs]
          refine ⟨?_, trivial⟩
          refine opsX fun K hK => ?_; simp only [z, seval, hr1, hr2]; (repeat (first | refine gcI ?_ | refine fun (_ : _ ≤ _) => ?_)); refine hK _ ?_; clear hK K
          refine opsX0 ?_
          refine ⟨by kernel_rfl, ?_⟩
          refine hK2 _ ?_
          refine Sm.ret ?_
          refine lf ?_
          obtain rfl := Option.some.inj H
          exact rtM [some 0, some 80, some 128]
        · refine opsX fun K hK => ?_; simp only [z, seval, hr1, hr2]; (repeat (first | refine gcI ?_ | refine fun (_ : _ ≤ _) => ?_)); refine hK _ ?_; clear hK K
          refine opsX0 ?_
          refine wpT_node 2 [] (by kernel_rfl) ?_
          simp only [rs]
          refine ⟨?_, trivial⟩
          refine opsM (cenqueue_copied_R n _ r1 hr1) [0] [80] (by simp only [z, seval, hr1, hr2]; try rfl) (by simp only [z, seval, hr1, hr2]) (by simp only [z, seval, hr1, hr2]) (by simp only [z, seval, hr1, hr2]) (by simp only [z, seval, hr1, hr2]) rfl (by simp only [z, seval, hr1, hr2]) rfl ?_
          refine opsX0 ?_
          refine wpT_node 5 [] (by kernel_rfl) ?_
          simp only [rs]
          refine ⟨?_, trivial⟩
          refine opsM (cenqueue_copied_R n _ r2 hr2) [0] [128] (by simp only [z, seval, hr1, hr2]; try rfl) (by simp only [z, seval, hr1, hr2]) (by simp only [z, seval, hr1, hr2]) (by simp only [z, seval, hr1, hr2]) (by simp only [z, seval, hr1, hr2]) rfl (by simp only [z, seval, hr1, hr2]) rfl ?_
          refine opsX0 ?_
          refine wpT_node 6 [] (by kernel_rfl) ?_
          simp only [rs]
          refine ⟨?_, trivial⟩
          refine opsX fun K hK => ?_; simp only [z, seval, hr1, hr2]; (repeat (first | refine gcI ?_ | refine fun (_ : _ ≤ _) => ?_)); refine hK _ ?_; clear hK K
          refine opsX0 ?_
          refine wpT_node 7 [] (by kernel_rfl) ?_
          simp only [rs]
          refine ⟨?_, trivial⟩
          refine opsX fun K hK => ?_; simp only [z, seval, hr1, hr2]; (repeat (first | refine gcI ?_ | refine fun (_ : _ ≤ _) => ?_)); refine hK _ ?_; clear hK K
          refine opsX0 ?_
          refine ⟨by kernel_rfl, ?_⟩
          refine hK2 _ ?_
          refine Sm.ret ?_
          refine lf ?_
          obtain rfl := Option.some.inj H
          exact rtM [some 0, some 80, some 128]
      · refine opsX fun K hK => ?_; simp only [z, seval, hr1, hr2]; (repeat (first | refine gcI ?_ | refine fun (_ : _ ≤ _) => ?_)); refine hK _ ?_; clear hK K
        refine opsX0 ?_
        refine wpT_node 1 [] (by kernel_rfl) ?_
        simp only [rs]
        refine ⟨?_, trivial⟩
        refine opsX fun K hK => ?_; simp only [z, seval, hr1, hr2]; (repeat (first | refine gcI ?_ | refine fun (_ : _ ≤ _) => ?_)); refine hK _ ?_; clear hK K
        refine opsX0 ?_
        refine wpT_node 2 [] (by kernel_rfl) ?_
        simp only [rs]
        refine ⟨?_, trivial⟩
        refine opsM (cenqueue_copied_R n _ r1 hr1) [0] [80] (by simp only [z, seval, hr1, hr2]; try rfl) (by simp only [z, seval, hr1, hr2]) (by simp only [z, seval, hr1, hr2]) (by simp only [z, seval, hr1, hr2]) (by simp only [z, seval, hr1, hr2]) rfl (by simp only [z, seval, hr1, hr2]) rfl ?_
        refine opsX0 ?_
        refine wpT_node 5 [] (by kernel_rfl) ?_
        simp only [rs]
        refine ⟨?_, trivial⟩
        refine opsM (cenqueue_copied_R n _ r2 hr2) [0] [128] (by simp only [z, seval, hr1, hr2]; try rfl) (by simp only [z, seval, hr1, hr2]) (by simp only [z, seval, hr1, hr2]) (by simp only [z, seval, hr1, hr2]) (by simp only [z, seval, hr1, hr2]) rfl (by simp only [z, seval, hr1, hr2]) rfl ?_
        refine opsX0 ?_
        refine wpT_node 6 [] (by kernel_rfl) ?_
        simp only [rs]
        refine ⟨?_, trivial⟩
        refine opsX fun K hK => ?_; simp only [z, seval, hr1, hr2]; (repeat (first | refine gcI ?_ | refine fun (_ : _ ≤ _) => ?_)); refine hK _ ?_; clear hK K
        refine opsX0 ?_
        refine wpT_node 7 [] (by kernel_rfl) ?_
        simp only [rs]
        refine ⟨?_, trivial⟩
        refine opsX fun K hK => ?_; simp only [z, seval, hr1, hr2]; (repeat (first | refine gcI ?_ | refine fun (_ : _ ≤ _) => ?_)); refine hK _ ?_; clear hK K
        refine opsX0 ?_
        refine ⟨by kernel_rfl, ?_⟩
        refine hK2 _ ?_
        refine Sm.ret ?_
        refine lf ?_
        obtain rfl := Option.some.inj H
        exact rtM [some 0, some 80, some 128]
  · refine opsX fun K hK => ?_; simp only [z, seval, hr1, hr2]; (repeat (first | refine gcI ?_ | refine fun (_ : _ ≤ _) => ?_)); refine hK _ ?_; clear hK K
    refine opsX0 ?_
    refine wpT_node 0 [4] (by kernel_rfl) ?_
    simp only [rs]
    refine ⟨?_, ?_, trivial⟩
    · refine opsX fun K hK => ?_; simp only [z, seval, hr1, hr2]; (repeat (first | refine gcI ?_ | refine fun (_ : _ ≤ _) => ?_)); refine hK _ ?_; clear hK K
      refine opsX0 ?_
      refine wpT_node 1 [4] (by kernel_rfl) ?_
      simp only [rs]
      refine ⟨?_, ?_, trivial⟩
      · refine opsX fun K hK => ?_; simp only [z, seval, hr1, hr2]; (repeat (first | refine gcI ?_ | refine fun (_ : _ ≤ _) => ?_)); refine hK _ ?_; clear hK K
        refine opsX0 ?_
        refine wpT_node 2 [4] (by kernel_rfl) ?_
        simp only [rs]
        refine ⟨?_, ?_, trivial⟩
        · refine opsM (cenqueue_copied_R n _ r1 hr1) [0] [80] (by simp only [z, seval, hr1, hr2]; try rfl) (by simp only [z, seval, hr1, hr2]) (by simp only [z, seval, hr1, hr2]) (by simp only [z, seval, hr1, hr2]) (by simp only [z, seval, hr1, hr2]) rfl (by simp only [z, seval, hr1, hr2]) rfl ?_
          refine opsX0 ?_
          refine wpT_node 4 [] (by kernel_rfl) ?_
          simp only [rs]
          refine ⟨?_, trivial⟩
          refine opsX fun K hK => ?_; simp only [z, seval, hr1, hr2]; (repeat (first | refine gcI ?_ | refine fun (_ : _ ≤ _) => ?_)); refine hK _ ?_; clear hK K
          refine opsX0 ?_
          refine wpT_node 5 [] (by kernel_rfl) ?_
          simp only [rs]
          refine ⟨?_, trivial⟩
          refine opsM (cenqueue_copied_R n _ r2 hr2) [0] [128] (by simp only [z, seval, hr1, hr2]; try rfl) (by simp only [z, seval, hr1, hr2]) (by simp only [z, seval, hr1, hr2]) (by simp only [z, seval, hr1, hr2]) (by simp only [z, seval, hr1, hr2]) rfl (by simp only [z, seval, hr1, hr2]) rfl ?_
          refine opsX0 ?_
          refine wpT_node 6 [] (by kernel_rfl) ?_
          simp only [rs]
          refine ⟨?_, trivial⟩
          refine opsX fun K hK => ?_; simp only [z, seval, hr1, hr2]; (repeat (first | refine gcI ?_ | refine fun (_ : _ ≤ _) => ?_)); refine hK _ ?_; clear hK K
          refine opsX0 ?_
          refine wpT_node 7 [] (by kernel_rfl) ?_
          simp only [rs]
          refine ⟨?_, trivial⟩
          refine opsX fun K hK => ?_; simp only [z, seval, hr1, hr2]; (repeat (first | refine gcI ?_ | refine fun (_ : _ ≤ _) => ?_)); refine hK _ ?_; clear hK K
          refine opsX0 ?_
          refine ⟨by kernel_rfl, ?_⟩
          refine hK2 _ ?_
          refine Sm.ret ?_
          refine lf ?_
          obtain rfl := Option.some.inj H
          exact rtM [some 0, some 80, some 128]
        · refine opsX fun K hK => ?_; simp only [z, seval, hr1, hr2]; (repeat (first | refine gcI ?_ | refine fun (_ : _ ≤ _) => ?_)); refine hK _ ?_; clear hK K
          refine opsX0 ?_
          refine wpT_node 2 [] (by kernel_rfl) ?_
          simp only [rs]
          refine ⟨?_, trivial⟩
          refine opsM (cenqueue_copied_R n _ r1 hr1) [0] [80] (by simp only [z, seval, hr1, hr2]; try rfl) (by simp only [z, seval, hr1, hr2]) (by simp only [z, seval, hr1, hr2]) (by simp only [z, seval, hr1, hr2]) (by simp only [z, seval, hr1, hr2]) rfl (by simp only [z, seval, hr1, hr2]) rfl ?_
          refine opsX0 ?_
          refine wpT_node 5 [] (by kernel_rfl) ?_
          simp only [rs]
          refine ⟨?_, trivial⟩
          refine opsM (cenqueue_copied_R n _ r2 hr2) [0] [128] (by simp only [z, seval, hr1, hr2]; try rfl) (by simp only [z, seval, hr1, hr2]) (by simp only [z, seval, hr1, hr2]) (by simp only [z, seval, hr1, hr2]) (by simp only [z, seval, hr1, hr2]) rfl (by simp only [z, seval, hr1, hr2]) rfl ?_
          refine opsX0 ?_
          refine wpT_node 6 [] (by kernel_rfl) ?_
          simp only [rs]
          refine ⟨?_, trivial⟩
          refine opsX fun K hK => ?_; simp only [z, seval, hr1, hr2]; (repeat (first | refine gcI ?_ | refine fun (_ : _ ≤ _) => ?_)); refine hK _ ?_; clear hK K
          refine opsX0 ?_
          refine wpT_node 7 [] (by kernel_rfl) ?_
          simp only [rs]
          refine ⟨?_, trivial⟩
          refine opsX fun K hK => ?_; simp only [z, seval, hr1, hr2]; (repeat (first | refine gcI ?_ | refine fun (_ : _ ≤ _) => ?_)); refine hK _ ?_; clear hK K
          refine opsX0 ?_
          refine ⟨by kernel_rfl, ?_⟩
          refine hK2 _ ?_
          refine Sm.ret ?_
          refine lf ?_
          obtain rfl := Option.some.inj H
          exact rtM [some 0, some 80, some 128]
      · refine opsX fun K hK => ?_; simp only [z, seval, hr1, hr2]; (repeat (first | refine gcI ?_ | refine fun (_ : _ ≤ _) => ?_)); refine hK _ ?_; clear hK K
        refine opsX0 ?_
        refine wpT_node 1 [] (by kernel_rfl) ?_
        simp only [rs]
        refine ⟨?_, trivial⟩
        refine opsX fun K hK => ?_; simp only [z, seval, hr1, hr2]; (repeat (first | refine gcI ?_ | refine fun (_ : _ ≤ _) => ?_)); refine hK _ ?_; clear hK K
        refine opsX0 ?_
        refine wpT_node 2 [] (by kernel_rfl) ?_
        simp only [rs]
        refine ⟨?_, trivial⟩
        refine opsM (cenqueue_copied_R n _ r1 hr1) [0] [80] (by simp only [z, seval, hr1, hr2]; try rfl) (by simp only [z, seval, hr1, hr2]) (by simp only [z, seval, hr1, hr2]) (by simp only [z, seval, hr1, hr2]) (by simp only [z, seval, hr1, hr2]) rfl (by simp only [z, seval, hr1, hr2]) rfl ?_
        refine opsX0 ?_
        refine wpT_node 5 [] (by kernel_rfl) ?_
        simp only [rs]
        refine ⟨?_, trivial⟩
        refine opsM (cenqueue_copied_R n _ r2 hr2) [0] [128] (by simp only [z, seval, hr1, hr2]; try rfl) (by simp only [z, seval, hr1, hr2]) (by simp only [z, seval, hr1, hr2]) (by simp only [z, seval, hr1, hr2]) (by simp only [z, seval, hr1, hr2]) rfl (by simp only [z, seval, hr1, hr2]) rfl ?_
        refine opsX0 ?_
        refine wpT_node 6 [] (by kernel_rfl) ?_
        simp only [rs]
        refine ⟨?_, trivial⟩
        refine opsX fun K hK => ?_; simp only [z, seval, hr1, hr2]; (repeat (first | refine gcI ?_ | refine fun (_ : _ ≤ _) => ?_)); refine hK _ ?_; clear hK K
        refine opsX0 ?_
        refine wpT_node 7 [] (by kernel_rfl) ?_
        simp only [rs]
        refine ⟨?_, trivial⟩
        refine opsX fun K hK => ?_; simp only [z, seval, hr1, hr2]; (repeat (first | refine gcI ?_ | refine fun (_ : _ ≤ _) => ?_)); refine hK _ ?_; clear hK K
        refine opsX0 ?_
        refine ⟨by kernel_rfl, ?_⟩
        refine hK2 _ ?_
        refine Sm.ret ?_
        refine lf ?_
        obtain rfl := Option.some.inj H
        exact rtM [some 0, some 80, some 128]
    · refine opsX fun K hK => ?_; simp only [z, seval, hr1, hr2]; (repeat (first | refine gcI ?_ | refine fun (_ : _ ≤ _) => ?_)); refine hK _ ?_; clear hK K
      refine opsX0 ?_
      refine wpT_node 0 [] (by kernel_rfl) ?_
      simp only [rs]
      refine ⟨?_, trivial⟩
      refine opsX fun K hK => ?_; simp only [z, seval, hr1, hr2]; (repeat (first | refine gcI ?_ | refine fun (_ : _ ≤ _) => ?_)); refine hK _ ?_; clear hK K
      refine opsX0 ?_
      refine wpT_node 1 [] (by kernel_rfl) ?_
      simp only [rs]
      refine ⟨?_, trivial⟩
      refine opsX fun K hK => ?_; simp only [z, seval, hr1, hr2]; (repeat (first | refine gcI ?_ | refine fun (_ : _ ≤ _) => ?_)); refine hK _ ?_; clear hK K
      refine opsX0 ?_
      refine wpT_node 2 [] (by kernel_rfl) ?_
      simp only [rs]
      refine ⟨?_, trivial⟩
      refine opsM (cenqueue_copied_R n _ r1 hr1) [0] [80] (by simp only [z, seval, hr1, hr2]; try rfl) (by simp only [z, seval, hr1, hr2]) (by simp only [z, seval, hr1, hr2]) (by simp only [z, seval, hr1, hr2]) (by simp only [z, seval, hr1, hr2]) rfl (by simp only [z, seval, hr1, hr2]) rfl ?_
      refine opsX0 ?_
      refine wpT_node 5 [] (by kernel_rfl) ?_
      simp only [rs]
      refine ⟨?_, trivial⟩
      refine opsM (cenqueue_copied_R n _ r2 hr2) [0] [128] (by simp only [z, seval, hr1, hr2]; try rfl) (by simp only [z, seval, hr1, hr2]) (by simp only [z, seval, hr1, hr2]) (by simp only [z, seval, hr1, hr2]) (by simp only [z, seval, hr1, hr2]) rfl (by simp only [z, seval, hr1, hr2]) rfl ?_
      refine opsX0 ?_
      refine wpT_node 6 [] (by kernel_rfl) ?_
      simp only [rs]
      refine ⟨?_, trivial⟩
      refine opsX fun K hK => ?_; simp only [z, seval, hr1, hr2]; (repeat (first | refine gcI ?_ | refine fun (_ : _ ≤ _) => ?_)); refine hK _ ?_; clear hK K
      refine opsX0 ?_
      refine wpT_node 7 [] (by kernel_rfl) ?_
      simp only [rs]
      refine ⟨?_, trivial⟩
      refine opsX fun K hK => ?_; simp only [z, seval, hr1, hr2]; (repeat (first | refine gcI ?_ | refine fun (_ : _ ≤ _) => ?_)); refine hK _ ?_; clear hK K
      refine opsX0 ?_
      refine ⟨by kernel_rfl, ?_⟩
      refine hK2 _ ?_
      refine Sm.ret ?_
      refine lf ?_
      obtain rfl := Option.some.inj H
      exact rtM [some 0, some 80, some 128]
abbrev enqueue_Release_R_s2 (out_4 : List TRequest) (out_5 : Nat) (out_6 : List TRequest) (jobs : List Int) : S := stB [(4, .box 9004 0), (8, .box 9005 0), (11, .own 9008 [.int .i64] 0 jobs.length)] [(0, .reg), (9004, .box [.nilsl, .nilsl]), (9005, .box [.own 9006 [.int .i64, .slice 92] 0 out_5, .own 9007 [.int .i64, .slice 92] 0 out_6.length]), (9006, .row 61 (List.map e_TRequest out_4)), (9007, .row 61 (List.map e_TRequest out_6)), (9008, .row 3 (List.map e_Int jobs))]
abbrev enqueue_Release_R_s4 (out_10 : List TRequest) (out_11 : Nat) (out_12 : List TRequest) (jobs_2 : List Int) (out_2 : List TRequest) (v53_1 : Nat) (v54 : Int) (v55 : Int) : S := stB [(4, .box 9025 0), (8, .box 9026 0), (11, .own 9029 [.int .i64] 0 jobs_2.length), (53, .own 9030 [.int .i64, .slice 92] 0 v53_1), (54, .c (.int .i64) (.int v54)), (55, .c (.int .i64) (.int v55))] [(0, .reg), (9025, .box [.nilsl, .nilsl]), (9026, .box [.own 9027 [.int .i64, .slice 92] 0 out_11, .own 9028 [.int .i64, .slice 92] 0 out_12.length]), (9027, .row 61 (List.map e_TRequest out_10)), (9028, .row 61 (List.map e_TRequest out_12)), (9029, .row 3 (List.map e_Int jobs_2)), (9030, .row 61 (List.map e_TRequest out_2))]
abbrev enqueue_Release_R_t3 (out_2 : List TRequest) (v54 : Int) (out_7 : List TRequest) (out_8 : Nat) (out_9 : List TRequest) (jobs_1 : List Int) (v53 : Nat) (v55 : Int) : S := stB [(4, .box 9019 0), (8, .box 9020 0), (11, .own 9023 [.int .i64] 0 jobs_1.length), (53, .own 9024 [.int .i64, .slice 92] 0 v53), (54, .c (.int .i64) (.int v54)), (55, .c (.int .i64) (.int v55))] [(0, .reg), (9019, .box [.nilsl, .nilsl]), (9020, .box [.own 9021 [.int .i64, .slice 92] 0 out_8, .own 9022 [.int .i64, .slice 92] 0 out_9.length]), (9021, .row 61 (List.map e_TRequest out_7)), (9022, .row 61 (List.map e_TRequest out_9)), (9023, .row 3 (List.map e_Int jobs_1)), (9024, .row 61 (List.map e_TRequest out_2))]
abbrev enqueue_Release_R_s1 (out : List TRequest) (out_1 : Nat) (out_2 : List TRequest) (out_3 : Nat) : S := stB [(4, .box 9000 0), (8, .box 9001 0)] [(0, .reg), (9000, .box [.nilsl, .nilsl]), (9001, .box [.own 9002 [.int .i64, .slice 92] 0 out_1, .own 9003 [.int .i64, .slice 92] 0 out_3]), (9002, .row 61 (List.map e_TRequest out)), (9003, .row 61 (List.map e_TRequest out_2))]
theorem cenqueue_Release_R (n : Nat) (t : TTable) (job : Int) (r : TTable × (List Int) × Int) (H : enqueue_Release n t job = some r) : CallsM Try.prog 14 [.ref (.agg [.rg 0 (.slice 61) (.slice (List.map e_TRequest t.Held)), .rg 0 (.slice 61) (.slice (List.map e_TRequest t.Waiting))]), .dat (false, [.int .i64]) [.int job]] [.reg] [.agg [.c (.slice 61) (.slice (List.map e_TRequest r.1.Held)), .own 1 [.int .i64, .slice 92] 0 r.1.Waiting.length], .own 2 [.int .i64] 0 r.2.1.length, .c (.int .i64) (.int r.2.2)] [.reg, .row 61 (List.map e_TRequest r.1.Waiting), .row 3 (List.map e_Int r.2.1)] := by
  have hΓ := g1 (cenqueue_Check n) (g1 (cenqueue_index n) (g1 (cenqueue_Request__blocked n) (@g0 (Contract Try.prog))))
  refine callsM_of (Try.f14.body.getD .skip) h00 Try.func14 rfl Try.call14 (Nat.le_of_ble_eq_true rfl) (Nat.le_of_ble_eq_true rfl) ?_
  unfold enqueue_Release at H
  simp only [Try.f14, Option.getD]
  refine rA ?_
  refine Sm.seqK fun K2 hK2 => ?_
  obtain ⟨r1, hr1, H⟩ := bind_some H
  have q := And.intro @xenqueue_Check.eq_1 hr1
  refine rAq ?_
  refine rA ?_
  refine cnd H (fun h5 H => ?_) (fun h5 H => ?_)
  · refine rA ?_
    refine Sm.ret ?_
    refine lf ?_
    obtain rfl := Option.some.inj H
    exact rtM [some 0, none, none]
  refine Sm.skip ?_
  refine hK2 _ ?_
  refine sX fun K7 hK7 => ?_
  obtain ⟨r2, hr2, H⟩ := bind_some H
  have q := hr2
  refine oX ?_
  refine oMq (cenqueue_Table__copied_R n _ r2 hr2) [0] [352, 353] ?_
  iterate 2 refine oXq ?_
  refine hK7 _ ?_
  refine Sm.cut (fun (x : (List TRequest) × Nat × (List TRequest) × Nat) => enqueue_Release_R_s1 x.1 x.2.1 x.2.2.1 x.2.2.2) (fun x => enqueue_Release_k1 n x.1 x.2.1 x.2.2.1 x.2.2.2 = some r) ?_ ?_
  · obtain ⟨r4, hr4, H⟩ := bind_some H
    have q := And.intro @xenqueue_Check.eq_1 (And.intro @xenqueue_index.eq_1 hr4)
    refine rAq ?_
    refine rA ?_
    refine cnd H (fun h32 H => ?_) (fun h32 H => ?_)
    · refine eX ?_
      obtain ⟨r5, hr5, H⟩ := bind_some H
      have q := hr5
      iterate 5 refine oX ?_
      refine oMq (cslices_Delete_f36_M1 n _ _ _ r5 hr5) [352] [] ?_
      iterate 2 refine oXq ?_
      refine opsX0 ?_
      refine lf ?_
      exact ⟨(r5.2, r5.1, r2.Waiting, r2.Waiting.length), H, wb [some 0, some 64, some 128, some 352, some 353]⟩
    obtain ⟨r6, hr6, H⟩ := bind_some H
    have q := And.intro @xenqueue_Check.eq_1 (And.intro @xenqueue_index.eq_1 hr6)
    refine rAq ?_
    refine rA ?_
    refine cnd H (fun h35 H => ?_) (fun h35 H => ?_)
    · refine eX ?_
      obtain ⟨r7, hr7, H⟩ := bind_some H
      have q := hr7
      iterate 5 refine oX ?_
      refine oMq (cslices_Delete_f36_M1 n _ _ _ r7 hr7) [353] [] ?_
      iterate 2 refine oXq ?_
      refine opsX0 ?_
      refine lf ?_
      exact ⟨(r2.Held, r2.Held.length, r7.2, r7.1), H, wb [some 0, some 64, some 128, some 352, some 353]⟩
    refine rA ?_
    refine Sm.ret ?_
    refine lf ?_
    obtain rfl := Option.some.inj H
    exact rtM [some 0, none, none]
  rintro ⟨out, out_1, out_2, out_3⟩ H
  try dsimp only at H
  unfold enqueue_Release_k1 at H
  refine Sm.st (enqueue_Release_R_s1.eq_1 ..) ?_
  refine rA ?_
  refine rA ?_
  refine rA ?_
  refine Sm.cut (fun (x : (List TRequest) × Nat × (List TRequest) × (List Int)) => enqueue_Release_R_s2 x.1 x.2.1 x.2.2.1 x.2.2.2) (fun x => enqueue_Release_k2 n x.1 x.2.1 x.2.2.1 x.2.2.2 = some r) ?_ ?_
  · refine rA ?_
    refine Sm.block ?_
    obtain ⟨y13, hy13, Ho13⟩ := bind_some H
    refine Sm.loopB _ (fun x => enqueue_Release_R_t3 out_2 ((out_3 : Nat) : Int) x.1 x.2.1 x.2.2.1 x.2.2.2.1 x.2.2.2.2.1 x.2.2.2.2.2) hy13 (wb [some 0, some 9000, some 9001, some 9002, none, none, some 9003]) ?_
    rintro ⟨out_7, out_8, out_9, jobs_1, v53, v55⟩ z13 H
    try dsimp only at H
    unfold enqueue_Release_b3 at H
    refine Sm.st (enqueue_Release_R_t3.eq_1 ..) ?_
    refine rA ?_
    refine Sm.seqK fun K15 hK15 => ?_
    refine cnd H (fun h16 H => ?_) (fun h16 H => ?_)
    · refine Sm.skip ?_
      refine hK15 _ ?_
      refine Sm.cut (fun (x : (List TRequest) × Nat × (List TRequest) × (List Int)) => enqueue_Release_R_s4 x.1 x.2.1 x.2.2.1 x.2.2.2 out_2 v53 ((out_3 : Nat) : Int) v55) (fun x => enqueue_Release_k4 n x.1 x.2.1 x.2.2.1 x.2.2.2 out_2 v53 ((out_3 : Nat) : Int) v55 = some z13) ?_ ?_
      · refine Sm.block ?_
        obtain ⟨⟨hg28, hg29⟩, H⟩ := gd_some H
        refine rA ?_
        refine Sm.seqK fun K18 hK18 => ?_
        obtain ⟨r3, hr3, H⟩ := bind_some H
        obtain ⟨hg27, H⟩ := gd_some H
        have q := And.intro @xenqueue_Check.eq_1 (And.intro @xenqueue_index.eq_1 (And.intro @xenqueue_Request__blocked.eq_1 hr3))
        refine rAq ?_
        refine cnd H (fun h20 H => ?_) (fun h20 H => ?_)
        · obtain ⟨hg22, H⟩ := gd_some H
          refine rA ?_
          refine Sm.exit ?_
          refine lf ?_
          exact ⟨(out_7, out_8, (out_9 ++ [(gt out_2 (Int.toNat v55))]), jobs_1), H, wb [some 0, some 9019, some 9020, some 9021, some 1168, some 9023, some 9024]⟩
        refine Sm.skip ?_
        refine hK18 _ ?_
        obtain ⟨⟨hg25, hg26⟩, H⟩ := gd_some H
        refine rA ?_
        obtain ⟨hg24, H⟩ := gd_some H
        refine eA ?_
        refine lf ?_
        exact ⟨(((List.take out_8 out_7) ++ [(gt out_2 (Int.toNat v55))]), (out_8 + 1), out_9, (jobs_1 ++ [(gt out_2 (Int.toNat v55)).Job])), H, wb [some 0, some 9019, some 9020, some 1264, some 9022, some 1360, some 9024]⟩
      rintro ⟨out_10, out_11, out_12, jobs_2⟩ H
      try dsimp only at H
      unfold enqueue_Release_k4 at H
      refine Sm.st (enqueue_Release_R_s4.eq_1 ..) ?_
      refine eA ?_
      refine lf ?_
      exact nx H (wb [some 0, some 9025, some 9026, some 9027, some 9028, some 9029, some 9030])
    refine Sm.exit ?_
    refine lf ?_
    refine lx H fun hyy => ?_
    subst hyy
    have H := Ho13
    try dsimp only at H
    refine lf ?_
    exact ⟨(out_7, out_8, out_9, jobs_1), H, wb [some 0, some 9019, some 9020, some 9021, some 9022, some 9023]⟩
  rintro ⟨out_4, out_5, out_6, jobs⟩ H
  try dsimp only at H
  unfold enqueue_Release_k2 at H
  refine Sm.st (enqueue_Release_R_s2.eq_1 ..) ?_
  refine rA ?_
  refine Sm.ret ?_
  refine lf ?_
  obtain rfl := Option.some.inj H
  exact rtM [some 0, some 9007, some 9008]
abbrev ref37_normal_s1 (r_ : TRequest) : S := stB [(1, .box 9000 0)] [(9000, .box [.c (.int .i64) (.int r_.Job), .c (.slice 95) (.slice (List.map e_TWant r_.Wants))])]
def ref37_normal_k1 (n : Nat) (r_ : TRequest) : Option Bool :=
  some (decide ((r_.Wants.length : Int) ≤ 512))
abbrev ref37_normal_t2 (r_ : TRequest) (k : Int) : S := stB [(1, .box 9002 0), (3, .c (.int .i64) (.int k))] [(9002, .box [.c (.int .i64) (.int r_.Job), .c (.slice 95) (.slice (List.map e_TWant r_.Wants))])]
def ref37_normal_b2 (n : Nat) (r_ : TRequest) (k : Int) : Option ((Int) ⊕ (((Bool) ⊕ (Unit)))) :=
  bif (decide (k < (r_.Wants.length : Int))) then
    gd ((0 ≤ (IntKind.wrap .i64 (k - 1)) ∧ (IntKind.wrap .i64 (k - 1)) < (r_.Wants.length : Int)) ∧ (0 ≤ k ∧ k < (r_.Wants.length : Int))) <|
    bif (!Op.bytesLess ((gt r_.Wants (Int.toNat (IntKind.wrap .i64 (k - 1)))).Name) ((gt r_.Wants (Int.toNat k)).Name)) then
      some (.inr (.inl false))
    else
      some (.inl (IntKind.wrap .i64 (k + 1)))
  else
    some (.inr (.inr ()))
def ref37_normal (n : Nat) (r_ : TRequest) : Option Bool :=
  (loopF (fun (x : Int) => ref37_normal_b2 n r_ x) n 1).bind fun y4 =>
  match y4 with
  | .inl vv =>
    some vv
  | .inr vv =>
    ref37_normal_k1 n r_
def xref37_normal (n : Nat) : Go.AE.Fn := mkFn (A := TRequest) (R := Bool) 64 [(true, [.int .i64, .slice 95])] false (fun xs => (⟨(cg (xs.getD 0 []) 0).toInt, ((cg (xs.getD 0 []) 1).toSl.map d_TWant)⟩ : TRequest)) (fun a => [[.int a.Job, .slice (List.map e_TWant a.Wants)]]) (fun a => ref37_normal n a) (fun r => [.c .bool (.bool r)]) (fun r => [])
theorem cref37_normal (n : Nat) : Contract Try.prog (xref37_normal n) := by
  have hΓ := @g0 (Contract Try.prog)
  refine contract_f (Try.f64.body.getD .skip) h00 Try.func64 rfl Try.call64 (by decide) (by intro _ r; exact ⟨rfl, by simp⟩) ?_
  rintro r_ r H
  try dsimp only at H
  unfold ref37_normal at H
  simp only [Try.f64, Option.getD]
  refine rA ?_
  refine Sm.cut (fun (x : Unit) => ref37_normal_s1 r_) (fun x => ref37_normal_k1 n r_ = some r) ?_ ?_
  · refine rA ?_
    refine Sm.block ?_
    obtain ⟨y4, hy4, Ho4⟩ := bind_some H
    refine Sm.loopB _ (fun x => ref37_normal_t2 r_ x) hy4 (wb [some 16]) ?_
    rintro k z4 H
    try dsimp only at H
    unfold ref37_normal_b2 at H
    refine Sm.st (ref37_normal_t2.eq_1 ..) ?_
    refine Sm.seqK fun K5 hK5 => ?_
    refine rA ?_
    refine cnd H (fun h7 H => ?_) (fun h7 H => ?_)
    · refine Sm.skip ?_
      refine hK5 _ ?_
      refine Sm.seqK fun K8 hK8 => ?_
      refine Sm.block ?_
      obtain ⟨⟨hg12, hg13⟩, H⟩ := gd_some H
      refine rD ?_
      refine cnd H (fun h10 H => ?_) (fun h10 H => ?_)
      · refine rA ?_
        refine Sm.ret ?_
        refine lf ?_
        refine lx H fun hyy => ?_
        subst hyy
        have H := Ho4
        try dsimp only at H
        refine lf ?_
        obtain rfl := Option.some.inj H
        exact rt []
      refine Sm.skip ?_
      refine hK8 _ ?_
      refine eA ?_
      refine lf ?_
      exact nx H (wb [some 9002])
    refine Sm.exit ?_
    refine lf ?_
    refine lx H fun hyy => ?_
    subst hyy
    have H := Ho4
    try dsimp only at H
    refine lf ?_
    exact ⟨(), H, wb [some 9002]⟩
  rintro ⟨⟩ H
  try dsimp only at H
  unfold ref37_normal_k1 at H
  refine Sm.st (ref37_normal_s1.eq_1 ..) ?_
  refine rA ?_
  refine Sm.ret ?_
  refine lf ?_
  obtain rfl := Option.some.inj H
  exact rt []
abbrev ref37_place_s1 : S := stB [] []
def ref37_place_k1 (n : Nat) : Option Int :=
  some (-1)
abbrev ref37_place_t2 (l : List TRequest) (job : Int) (k : Int) : S := stB [(0, .c (.slice 88) (.slice (List.map e_TRequest l))), (1, .c (.int .i64) (.int job)), (5, .c (.int .i64) (.int k))] []
def ref37_place_b2 (n : Nat) (l : List TRequest) (job : Int) (k : Int) : Option ((Int) ⊕ (((Int) ⊕ (Unit)))) :=
  bif (decide (k < (l.length : Int))) then
    gd ((0 ≤ k ∧ k < (l.length : Int))) <|
    bif (((gt l (Int.toNat k)).Job) == job) then
      some (.inr (.inl k))
    else
      some (.inl (IntKind.wrap .i64 (k + 1)))
  else
    some (.inr (.inr ()))
def ref37_place (n : Nat) (l : List TRequest) (job : Int) : Option Int :=
  (loopF (fun (x : Int) => ref37_place_b2 n l job x) n 0).bind fun y4 =>
  match y4 with
  | .inl vv =>
    some vv
  | .inr vv =>
    ref37_place_k1 n
def xref37_place (n : Nat) : Go.AE.Fn := mkFn (A := (List TRequest) × Int) (R := Int) 39 [(false, [.slice 88]), (false, [.int .i64])] false (fun xs => (((cg (xs.getD 0 []) 0).toSl.map d_TRequest), (cg (xs.getD 1 []) 0).toInt)) (fun a => [[.slice (List.map e_TRequest a.1)], [.int a.2]]) (fun a => ref37_place n a.1 a.2) (fun r => [.c (.int .i64) (.int r)]) (fun r => [])
theorem cref37_place (n : Nat) : Contract Try.prog (xref37_place n) := by
  have hΓ := @g0 (Contract Try.prog)
  refine contract_f (Try.f39.body.getD .skip) h00 Try.func39 rfl Try.call39 (by decide) (by intro _ r; exact ⟨rfl, by simp⟩) ?_
  rintro ⟨l, job⟩ r H
  try dsimp only at H
  unfold ref37_place at H
  simp only [Try.f39, Option.getD]
  refine rA ?_
  refine Sm.cut (fun (x : Unit) => ref37_place_s1) (fun x => ref37_place_k1 n = some r) ?_ ?_
  · refine rA ?_
    refine Sm.block ?_
    obtain ⟨y4, hy4, Ho4⟩ := bind_some H
    refine Sm.loopB _ (fun x => ref37_place_t2 l job x) hy4 (wb []) ?_
    rintro k z4 H
    try dsimp only at H
    unfold ref37_place_b2 at H
    refine Sm.st (ref37_place_t2.eq_1 ..) ?_
    refine Sm.seqK fun K5 hK5 => ?_
    refine rA ?_
    refine cnd H (fun h7 H => ?_) (fun h7 H => ?_)
    · refine Sm.skip ?_
      refine hK5 _ ?_
      refine Sm.seqK fun K8 hK8 => ?_
      refine Sm.block ?_
      obtain ⟨hg12, H⟩ := gd_some H
      refine rA ?_
      refine cnd H (fun h10 H => ?_) (fun h10 H => ?_)
      · refine rA ?_
        refine Sm.ret ?_
        refine lf ?_
        refine lx H fun hyy => ?_
        subst hyy
        have H := Ho4
        try dsimp only at H
        refine lf ?_
        obtain rfl := Option.some.inj H
        exact rt []
      refine Sm.skip ?_
      refine hK8 _ ?_
      refine eA ?_
      refine lf ?_
      exact nx H (wb [])
    refine Sm.exit ?_
    refine lf ?_
    refine lx H fun hyy => ?_
    subst hyy
    have H := Ho4
    try dsimp only at H
    refine lf ?_
    exact ⟨(), H, wb []⟩
  rintro ⟨⟩ H
  try dsimp only at H
  unfold ref37_place_k1 at H
  refine Sm.st (ref37_place_s1.eq_1 ..) ?_
  refine rA ?_
  refine Sm.ret ?_
  refine lf ?_
  obtain rfl := Option.some.inj H
  exact rt []
abbrev ref37_Conflict_s1 : S := stB [] []
def ref37_Conflict_k1 (n : Nat) : Option Bool :=
  some false
abbrev ref37_Conflict_s3 (a : TRequest) (b : TRequest) (i : Int) : S := stB [(2, .box 9004 0), (3, .box 9005 0), (5, .c (.int .i64) (.int i))] [(9004, .box [.c (.int .i64) (.int a.Job), .c (.slice 95) (.slice (List.map e_TWant a.Wants))]), (9005, .box [.c (.int .i64) (.int b.Job), .c (.slice 95) (.slice (List.map e_TWant b.Wants))])]
def ref37_Conflict_k3 (n : Nat) (a : TRequest) (b : TRequest) (i : Int) : Option ((Int) ⊕ (((Bool) ⊕ (Unit)))) :=
  some (.inl (IntKind.wrap .i64 (i + 1)))
abbrev ref37_Conflict_t4 (a : TRequest) (b : TRequest) (i : Int) (k : Int) : S := stB [(2, .box 9008 0), (3, .box 9009 0), (5, .c (.int .i64) (.int i)), (6, .c (.int .i64) (.int k))] [(9008, .box [.c (.int .i64) (.int a.Job), .c (.slice 95) (.slice (List.map e_TWant a.Wants))]), (9009, .box [.c (.int .i64) (.int b.Job), .c (.slice 95) (.slice (List.map e_TWant b.Wants))])]
def ref37_Conflict_b4 (n : Nat) (a : TRequest) (b : TRequest) (i : Int) (k : Int) : Option ((Int) ⊕ (((Bool) ⊕ (Unit)))) :=
  bif (decide (k < (b.Wants.length : Int))) then
    gd ((0 ≤ i ∧ i < (a.Wants.length : Int)) ∧ (0 ≤ k ∧ k < (b.Wants.length : Int)) ∧ ((((gt a.Wants (Int.toNat i)).Name) == ((gt b.Wants (Int.toNat k)).Name)) = true → (0 ≤ i ∧ i < (a.Wants.length : Int))) ∧ (((((gt a.Wants (Int.toNat i)).Name) == ((gt b.Wants (Int.toNat k)).Name)) && (!((gt a.Wants (Int.toNat i)).Exclusive))) = true → (0 ≤ k ∧ k < (b.Wants.length : Int))) ∧ (((((gt a.Wants (Int.toNat i)).Name) == ((gt b.Wants (Int.toNat k)).Name)) && !((gt a.Wants (Int.toNat i)).Exclusive)) = true → ((((gt a.Wants (Int.toNat i)).Name) == ((gt b.Wants (Int.toNat k)).Name)) && (!((gt a.Wants (Int.toNat i)).Exclusive))) = true)) <|
    bif (if (((gt a.Wants (Int.toNat i)).Name) == ((gt b.Wants (Int.toNat k)).Name)) = true then (if (gt a.Wants (Int.toNat i)).Exclusive = true then true else (gt b.Wants (Int.toNat k)).Exclusive) else false) then
      some (.inr (.inl true))
    else
      some (.inl (IntKind.wrap .i64 (k + 1)))
  else
    some (.inr (.inr ()))
abbrev ref37_Conflict_t2 (a : TRequest) (b : TRequest) (i : Int) : S := stB [(2, .box 9002 0), (3, .box 9003 0), (5, .c (.int .i64) (.int i))] [(9002, .box [.c (.int .i64) (.int a.Job), .c (.slice 95) (.slice (List.map e_TWant a.Wants))]), (9003, .box [.c (.int .i64) (.int b.Job), .c (.slice 95) (.slice (List.map e_TWant b.Wants))])]
def ref37_Conflict_b2 (n : Nat) (a : TRequest) (b : TRequest) (i : Int) : Option ((Int) ⊕ (((Bool) ⊕ (Unit)))) :=
  bif (decide (i < (a.Wants.length : Int))) then
    (loopF (fun (x : Int) => ref37_Conflict_b4 n a b i x) n 0).bind fun y9 =>
    match y9 with
    | .inl vv =>
      some (.inr (.inl vv))
    | .inr vv =>
      ref37_Conflict_k3 n a b i
  else
    some (.inr (.inr ()))
def ref37_Conflict (n : Nat) (a : TRequest) (b : TRequest) : Option Bool :=
  (loopF (fun (x : Int) => ref37_Conflict_b2 n a b x) n 0).bind fun y4 =>
  match y4 with
  | .inl vv =>
    some vv
  | .inr vv =>
    ref37_Conflict_k1 n
def xref37_Conflict (n : Nat) : Go.AE.Fn := mkFn (A := TRequest × TRequest) (R := Bool) 65 [(true, [.int .i64, .slice 95]), (true, [.int .i64, .slice 95])] false (fun xs => ((⟨(cg (xs.getD 0 []) 0).toInt, ((cg (xs.getD 0 []) 1).toSl.map d_TWant)⟩ : TRequest), (⟨(cg (xs.getD 1 []) 0).toInt, ((cg (xs.getD 1 []) 1).toSl.map d_TWant)⟩ : TRequest))) (fun a => [[.int a.1.Job, .slice (List.map e_TWant a.1.Wants)], [.int a.2.Job, .slice (List.map e_TWant a.2.Wants)]]) (fun a => ref37_Conflict n a.1 a.2) (fun r => [.c .bool (.bool r)]) (fun r => [])
theorem cref37_Conflict (n : Nat) : Contract Try.prog (xref37_Conflict n) := by
  have hΓ := @g0 (Contract Try.prog)
  refine contract_f (Try.f65.body.getD .skip) h00 Try.func65 rfl Try.call65 (by decide) (by intro _ r; exact ⟨rfl, by simp⟩) ?_
  rintro ⟨a, b⟩ r H
  try dsimp only at H
  unfold ref37_Conflict at H
  simp only [Try.f65, Option.getD]
  refine rA ?_
  refine Sm.cut (fun (x : Unit) => ref37_Conflict_s1) (fun x => ref37_Conflict_k1 n = some r) ?_ ?_
  · refine rA ?_
    refine Sm.block ?_
    obtain ⟨y4, hy4, Ho4⟩ := bind_some H
    refine Sm.loopB _ (fun x => ref37_Conflict_t2 a b x) hy4 (wb [some 32, some 48]) ?_
    rintro i z4 H
    try dsimp only at H
    unfold ref37_Conflict_b2 at H
    refine Sm.st (ref37_Conflict_t2.eq_1 ..) ?_
    refine Sm.seqK fun K5 hK5 => ?_
    refine rA ?_
    refine cnd H (fun h7 H => ?_) (fun h7 H => ?_)
    · refine Sm.skip ?_
      refine hK5 _ ?_
      refine Sm.cut (fun (x : Unit) => ref37_Conflict_s3 a b i) (fun x => ref37_Conflict_k3 n a b i = some z4) ?_ ?_
      · refine Sm.block ?_
        refine rA ?_
        refine Sm.block ?_
        obtain ⟨y9, hy9, Ho9⟩ := bind_some H
        refine Sm.loopB _ (fun x => ref37_Conflict_t4 a b i x) hy9 (wb [some 9002, some 9003]) ?_
        rintro k z9 H
        try dsimp only at H
        unfold ref37_Conflict_b4 at H
        refine Sm.st (ref37_Conflict_t4.eq_1 ..) ?_
        refine Sm.seqK fun K10 hK10 => ?_
        refine rA ?_
        refine cnd H (fun h12 H => ?_) (fun h12 H => ?_)
        · refine Sm.skip ?_
          refine hK10 _ ?_
          refine Sm.seqK fun K13 hK13 => ?_
          refine Sm.block ?_
          obtain ⟨⟨hg17, hg18, hg19, hg20, hg21⟩, H⟩ := gd_some H
          refine rD ?_
          refine cnd H (fun h15 H => ?_) (fun h15 H => ?_)
          · refine rA ?_
            refine Sm.ret ?_
            refine lf ?_
            refine lx H fun hyy => ?_
            subst hyy
            have H := Ho9
            try dsimp only at H
            refine lf ?_
            refine lx H fun hyy => ?_
            subst hyy
            have H := Ho4
            try dsimp only at H
            refine lf ?_
            obtain rfl := Option.some.inj H
            exact rt []
          refine Sm.skip ?_
          refine hK13 _ ?_
          refine eA ?_
          refine lf ?_
          exact nx H (wb [some 9008, some 9009])
        refine Sm.exit ?_
        refine lf ?_
        refine lx H fun hyy => ?_
        subst hyy
        have H := Ho9
        try dsimp only at H
        refine lf ?_
        exact ⟨(), H, wb [some 9008, some 9009]⟩
      rintro ⟨⟩ H
      try dsimp only at H
      unfold ref37_Conflict_k3 at H
      refine Sm.st (ref37_Conflict_s3.eq_1 ..) ?_
      refine eA ?_
      refine lf ?_
      exact nx H (wb [some 9004, some 9005])
    refine Sm.exit ?_
    refine lf ?_
    refine lx H fun hyy => ?_
    subst hyy
    have H := Ho4
    try dsimp only at H
    refine lf ?_
    exact ⟨(), H, wb []⟩
  rintro ⟨⟩ H
  try dsimp only at H
  unfold ref37_Conflict_k1 at H
  refine Sm.st (ref37_Conflict_s1.eq_1 ..) ?_
  refine rA ?_
  refine Sm.ret ?_
  refine lf ?_
  obtain rfl := Option.some.inj H
  exact rt []
abbrev ref37_free_s1 : S := stB [] []
def ref37_free_k1 (n : Nat) : Option Bool :=
  some true
abbrev ref37_free_t2 (l : List TRequest) (r_ : TRequest) (k : Int) : S := stB [(1, .c (.slice 88) (.slice (List.map e_TRequest l))), (2, .box 9001 0), (5, .c (.int .i64) (.int k))] [(9001, .box [.c (.int .i64) (.int r_.Job), .c (.slice 95) (.slice (List.map e_TWant r_.Wants))])]
def ref37_free_b2 (n : Nat) (l : List TRequest) (r_ : TRequest) (k : Int) : Option ((Int) ⊕ (((Bool) ⊕ (Unit)))) :=
  bif (decide (k < (l.length : Int))) then
    gd ((0 ≤ k ∧ k < (l.length : Int))) <|
    (ref37_Conflict n r_ (gt l (Int.toNat k))).bind fun r1 =>
    bif r1 then
      some (.inr (.inl false))
    else
      some (.inl (IntKind.wrap .i64 (k + 1)))
  else
    some (.inr (.inr ()))
def ref37_free (n : Nat) (r_ : TRequest) (l : List TRequest) : Option Bool :=
  (loopF (fun (x : Int) => ref37_free_b2 n l r_ x) n 0).bind fun y4 =>
  match y4 with
  | .inl vv =>
    some vv
  | .inr vv =>
    ref37_free_k1 n
def xref37_free (n : Nat) : Go.AE.Fn := mkFn (A := TRequest × (List TRequest)) (R := Bool) 41 [(true, [.int .i64, .slice 95]), (false, [.slice 88])] false (fun xs => ((⟨(cg (xs.getD 0 []) 0).toInt, ((cg (xs.getD 0 []) 1).toSl.map d_TWant)⟩ : TRequest), ((cg (xs.getD 1 []) 0).toSl.map d_TRequest))) (fun a => [[.int a.1.Job, .slice (List.map e_TWant a.1.Wants)], [.slice (List.map e_TRequest a.2)]]) (fun a => ref37_free n a.1 a.2) (fun r => [.c .bool (.bool r)]) (fun r => [])
theorem cref37_free (n : Nat) : Contract Try.prog (xref37_free n) := by
  have hΓ := g1 (cref37_Conflict n) (@g0 (Contract Try.prog))
  refine contract_f (Try.f41.body.getD .skip) h00 Try.func41 rfl Try.call41 (by decide) (by intro _ r; exact ⟨rfl, by simp⟩) ?_
  rintro ⟨r_, l⟩ r H
  try dsimp only at H
  unfold ref37_free at H
  simp only [Try.f41, Option.getD]
  refine rA ?_
  refine Sm.cut (fun (x : Unit) => ref37_free_s1) (fun x => ref37_free_k1 n = some r) ?_ ?_
  · refine rA ?_
    refine Sm.block ?_
    obtain ⟨y4, hy4, Ho4⟩ := bind_some H
    refine Sm.loopB _ (fun x => ref37_free_t2 l r_ x) hy4 (wb [some 32]) ?_
    rintro k z4 H
    try dsimp only at H
    unfold ref37_free_b2 at H
    refine Sm.st (ref37_free_t2.eq_1 ..) ?_
    refine Sm.seqK fun K5 hK5 => ?_
    refine rA ?_
    refine cnd H (fun h7 H => ?_) (fun h7 H => ?_)
    · refine Sm.skip ?_
      refine hK5 _ ?_
      refine Sm.seqK fun K8 hK8 => ?_
      refine Sm.block ?_
      obtain ⟨hg12, H⟩ := gd_some H
      obtain ⟨r1, hr1, H⟩ := bind_some H
      have q := And.intro @xref37_Conflict.eq_1 hr1
      refine rDq ?_
      refine cnd H (fun h10 H => ?_) (fun h10 H => ?_)
      · refine rA ?_
        refine Sm.ret ?_
        refine lf ?_
        refine lx H fun hyy => ?_
        subst hyy
        have H := Ho4
        try dsimp only at H
        refine lf ?_
        obtain rfl := Option.some.inj H
        exact rt []
      refine Sm.skip ?_
      refine hK8 _ ?_
      refine eA ?_
      refine lf ?_
      exact nx H (wb [some 9001])
    refine Sm.exit ?_
    refine lf ?_
    refine lx H fun hyy => ?_
    subst hyy
    have H := Ho4
    try dsimp only at H
    refine lf ?_
    exact ⟨(), H, wb []⟩
  rintro ⟨⟩ H
  try dsimp only at H
  unfold ref37_free_k1 at H
  refine Sm.st (ref37_free_s1.eq_1 ..) ?_
  refine rA ?_
  refine Sm.ret ?_
  refine lf ?_
  obtain rfl := Option.some.inj H
  exact rt []
abbrev ref37_Valid_s2 : S := stB [] []
def ref37_Valid_k2 (n : Nat) : Option Bool :=
  some true
abbrev ref37_Valid_t3 (t : TTable) (k : Int) : S := stB [(1, .box 9002 0), (4, .c (.int .i64) (.int k))] [(9002, .box [.c (.slice 88) (.slice (List.map e_TRequest t.Held)), .c (.slice 88) (.slice (List.map e_TRequest t.Waiting))])]
def ref37_Valid_b3 (n : Nat) (t : TTable) (k : Int) : Option ((Int) ⊕ (((Bool) ⊕ (Unit)))) :=
  bif (decide (k < (t.Waiting.length : Int))) then
    gd ((0 ≤ k ∧ k < (t.Waiting.length : Int))) <|
    (ref37_normal n (gt t.Waiting (Int.toNat k))).bind fun r1 =>
    gd (((!(!r1)) = true → (ref37_place n t.Held ((gt t.Waiting (Int.toNat k)).Job)).isSome = true) ∧ ((!(if (!r1) = true then true else (decide (((ref37_place n t.Held ((gt t.Waiting (Int.toNat k)).Job)).getD default) ≥ 0)))) = true → (0 ≤ k ∧ k ≤ (t.Waiting.length : Int))) ∧ ((!(if (!r1) = true then true else (decide (((ref37_place n t.Held ((gt t.Waiting (Int.toNat k)).Job)).getD default) ≥ 0)))) = true → (ref37_place n (List.take (Int.toNat k) t.Waiting) ((gt t.Waiting (Int.toNat k)).Job)).isSome = true) ∧ ((!(if (if (!r1) = true then true else (decide (((ref37_place n t.Held ((gt t.Waiting (Int.toNat k)).Job)).getD default) ≥ 0))) = true then true else (decide (((ref37_place n (List.take (Int.toNat k) t.Waiting) ((gt t.Waiting (Int.toNat k)).Job)).getD default) ≥ 0)))) = true → (ref37_free n (gt t.Waiting (Int.toNat k)) t.Held).isSome = true) ∧ (((!(if (if (!r1) = true then true else (decide (((ref37_place n t.Held ((gt t.Waiting (Int.toNat k)).Job)).getD default) ≥ 0))) = true then true else (decide (((ref37_place n (List.take (Int.toNat k) t.Waiting) ((gt t.Waiting (Int.toNat k)).Job)).getD default) ≥ 0)))) && ((ref37_free n (gt t.Waiting (Int.toNat k)) t.Held).getD default)) = true → (0 ≤ k ∧ k ≤ (t.Waiting.length : Int))) ∧ (((!(if (if (!r1) = true then true else (decide (((ref37_place n t.Held ((gt t.Waiting (Int.toNat k)).Job)).getD default) ≥ 0))) = true then true else (decide (((ref37_place n (List.take (Int.toNat k) t.Waiting) ((gt t.Waiting (Int.toNat k)).Job)).getD default) ≥ 0)))) && ((ref37_free n (gt t.Waiting (Int.toNat k)) t.Held).getD default)) = true → (ref37_free n (gt t.Waiting (Int.toNat k)) (List.take (Int.toNat k) t.Waiting)).isSome = true)) <|
    bif (if (if (if (!r1) = true then true else (decide (((ref37_place n t.Held ((gt t.Waiting (Int.toNat k)).Job)).getD default) ≥ 0))) = true then true else (decide (((ref37_place n (List.take (Int.toNat k) t.Waiting) ((gt t.Waiting (Int.toNat k)).Job)).getD default) ≥ 0))) = true then true else (if ((ref37_free n (gt t.Waiting (Int.toNat k)) t.Held).getD default) = true then ((ref37_free n (gt t.Waiting (Int.toNat k)) (List.take (Int.toNat k) t.Waiting)).getD default) else false)) then
      some (.inr (.inl false))
    else
      some (.inl (IntKind.wrap .i64 (k + 1)))
  else
    some (.inr (.inr ()))
abbrev ref37_Valid_s1 (t : TTable) : S := stB [(1, .box 9000 0)] [(9000, .box [.c (.slice 88) (.slice (List.map e_TRequest t.Held)), .c (.slice 88) (.slice (List.map e_TRequest t.Waiting))])]
def ref37_Valid_k1 (n : Nat) (t : TTable) : Option Bool :=
  (loopF (fun (x : Int) => ref37_Valid_b3 n t x) n 0).bind fun y4 =>
  match y4 with
  | .inl vv =>
    some vv
  | .inr vv =>
    ref37_Valid_k2 n
abbrev ref37_Valid_t4 (t : TTable) (k_1 : Int) : S := stB [(1, .box 9004 0), (3, .c (.int .i64) (.int k_1))] [(9004, .box [.c (.slice 88) (.slice (List.map e_TRequest t.Held)), .c (.slice 88) (.slice (List.map e_TRequest t.Waiting))])]
def ref37_Valid_b4 (n : Nat) (t : TTable) (k_1 : Int) : Option ((Int) ⊕ (((Bool) ⊕ (Unit)))) :=
  bif (decide (k_1 < (t.Held.length : Int))) then
    gd ((0 ≤ k_1 ∧ k_1 < (t.Held.length : Int))) <|
    (ref37_normal n (gt t.Held (Int.toNat k_1))).bind fun r2 =>
    gd (((!(!r2)) = true → (0 ≤ k_1 ∧ k_1 ≤ (t.Held.length : Int))) ∧ ((!(!r2)) = true → (0 ≤ k_1 ∧ k_1 < (t.Held.length : Int))) ∧ ((!(!r2)) = true → (ref37_place n (List.take (Int.toNat k_1) t.Held) ((gt t.Held (Int.toNat k_1)).Job)).isSome = true) ∧ ((!(if (!r2) = true then true else (decide (((ref37_place n (List.take (Int.toNat k_1) t.Held) ((gt t.Held (Int.toNat k_1)).Job)).getD default) ≥ 0)))) = true → (0 ≤ k_1 ∧ k_1 < (t.Held.length : Int))) ∧ ((!(if (!r2) = true then true else (decide (((ref37_place n (List.take (Int.toNat k_1) t.Held) ((gt t.Held (Int.toNat k_1)).Job)).getD default) ≥ 0)))) = true → (0 ≤ k_1 ∧ k_1 ≤ (t.Held.length : Int))) ∧ ((!(if (!r2) = true then true else (decide (((ref37_place n (List.take (Int.toNat k_1) t.Held) ((gt t.Held (Int.toNat k_1)).Job)).getD default) ≥ 0)))) = true → (ref37_free n (gt t.Held (Int.toNat k_1)) (List.take (Int.toNat k_1) t.Held)).isSome = true)) <|
    bif (if (if (!r2) = true then true else (decide (((ref37_place n (List.take (Int.toNat k_1) t.Held) ((gt t.Held (Int.toNat k_1)).Job)).getD default) ≥ 0))) = true then true else (!((ref37_free n (gt t.Held (Int.toNat k_1)) (List.take (Int.toNat k_1) t.Held)).getD default))) then
      some (.inr (.inl false))
    else
      some (.inl (IntKind.wrap .i64 (k_1 + 1)))
  else
    some (.inr (.inr ()))
def ref37_Valid (n : Nat) (t : TTable) : Option Bool :=
  (loopF (fun (x : Int) => ref37_Valid_b4 n t x) n 0).bind fun y21 =>
  match y21 with
  | .inl vv =>
    some vv
  | .inr vv =>
    ref37_Valid_k1 n t
def xref37_Valid (n : Nat) : Go.AE.Fn := mkFn (A := TTable) (R := Bool) 38 [(true, [.slice 88, .slice 88])] false (fun xs => (⟨((cg (xs.getD 0 []) 0).toSl.map d_TRequest), ((cg (xs.getD 0 []) 1).toSl.map d_TRequest)⟩ : TTable)) (fun a => [[.slice (List.map e_TRequest a.Held), .slice (List.map e_TRequest a.Waiting)]]) (fun a => ref37_Valid n a) (fun r => [.c .bool (.bool r)]) (fun r => [])
theorem cref37_Valid (n : Nat) : Contract Try.prog (xref37_Valid n) := by
  have hΓ := g1 (cref37_normal n) (g1 (cref37_place n) (g1 (cref37_free n) (@g0 (Contract Try.prog))))
  refine contract_f (Try.f38.body.getD .skip) h00 Try.func38 rfl Try.call38 (by decide) (by intro _ r; exact ⟨rfl, by simp⟩) ?_
  rintro t r H
  try dsimp only at H
  unfold ref37_Valid at H
  simp only [Try.f38, Option.getD]
  refine rA ?_
  refine Sm.cut (fun (x : Unit) => ref37_Valid_s1 t) (fun x => ref37_Valid_k1 n t = some r) ?_ ?_
  · refine rA ?_
    refine Sm.block ?_
    obtain ⟨y21, hy21, Ho21⟩ := bind_some H
    refine Sm.loopB _ (fun x => ref37_Valid_t4 t x) hy21 (wb [some 16]) ?_
    rintro k_1 z21 H
    try dsimp only at H
    unfold ref37_Valid_b4 at H
    refine Sm.st (ref37_Valid_t4.eq_1 ..) ?_
    refine Sm.seqK fun K22 hK22 => ?_
    refine rA ?_
    refine cnd H (fun h24 H => ?_) (fun h24 H => ?_)
    · refine Sm.skip ?_
      refine hK22 _ ?_
      refine Sm.seqK fun K25 hK25 => ?_
      refine Sm.block ?_
      obtain ⟨hg29, H⟩ := gd_some H
      obtain ⟨r2, hr2, H⟩ := bind_some H
      obtain ⟨⟨hg30, hg31, hg32, hg33, hg34, hg35⟩, H⟩ := gd_some H
      have q := And.intro @xref37_normal.eq_1 (And.intro @xref37_place.eq_1 (And.intro @xref37_free.eq_1 hr2))
      refine rDq ?_
      refine cnd H (fun h27 H => ?_) (fun h27 H => ?_)
      · refine rA ?_
        refine Sm.ret ?_
        refine lf ?_
        refine lx H fun hyy => ?_
        subst hyy
        have H := Ho21
        try dsimp only at H
        refine lf ?_
        obtain rfl := Option.some.inj H
        exact rt []
      refine Sm.skip ?_
      refine hK25 _ ?_
      refine eA ?_
      refine lf ?_
      exact nx H (wb [some 9004])
    refine Sm.exit ?_
    refine lf ?_
    refine lx H fun hyy => ?_
    subst hyy
    have H := Ho21
    try dsimp only at H
    refine lf ?_
    exact ⟨(), H, wb [some 9004]⟩
  rintro ⟨⟩ H
  try dsimp only at H
  unfold ref37_Valid_k1 at H
  refine Sm.st (ref37_Valid_s1.eq_1 ..) ?_
  refine Sm.cut (fun (x : Unit) => ref37_Valid_s2) (fun x => ref37_Valid_k2 n = some r) ?_ ?_
  · refine rA ?_
    refine Sm.block ?_
    obtain ⟨y4, hy4, Ho4⟩ := bind_some H
    refine Sm.loopB _ (fun x => ref37_Valid_t3 t x) hy4 (wb [some 9000]) ?_
    rintro k z4 H
    try dsimp only at H
    unfold ref37_Valid_b3 at H
    refine Sm.st (ref37_Valid_t3.eq_1 ..) ?_
    refine Sm.seqK fun K5 hK5 => ?_
    refine rA ?_
    refine cnd H (fun h7 H => ?_) (fun h7 H => ?_)
    · refine Sm.skip ?_
      refine hK5 _ ?_
      refine Sm.seqK fun K8 hK8 => ?_
      refine Sm.block ?_
      obtain ⟨hg19, H⟩ := gd_some H
      refine rA ?_
      obtain ⟨r1, hr1, H⟩ := bind_some H
      obtain ⟨⟨hg13, hg14, hg15, hg16, hg17, hg18⟩, H⟩ := gd_some H
      have q := And.intro @xref37_normal.eq_1 (And.intro @xref37_place.eq_1 (And.intro @xref37_free.eq_1 hr1))
      refine rDq ?_
      refine cnd H (fun h11 H => ?_) (fun h11 H => ?_)
      · refine rA ?_
        refine Sm.ret ?_
        refine lf ?_
        refine lx H fun hyy => ?_
        subst hyy
        have H := Ho4
        try dsimp only at H
        refine lf ?_
        obtain rfl := Option.some.inj H
        exact rt []
      refine Sm.skip ?_
      refine hK8 _ ?_
      refine eA ?_
      refine lf ?_
      exact nx H (wb [some 9002])
    refine Sm.exit ?_
    refine lf ?_
    refine lx H fun hyy => ?_
    subst hyy
    have H := Ho4
    try dsimp only at H
    refine lf ?_
    exact ⟨(), H, wb []⟩
  rintro ⟨⟩ H
  try dsimp only at H
  unfold ref37_Valid_k2 at H
  refine Sm.st (ref37_Valid_s2.eq_1 ..) ?_
  refine rA ?_
  refine Sm.ret ?_
  refine lf ?_
  obtain rfl := Option.some.inj H
  exact rt []
def ref37_without (n : Nat) (l : List TRequest) (k : Int) : Option (List TRequest) :=
  gd ((0 ≤ k ∧ k ≤ (l.length : Int)) ∧ (List.take (Int.toNat k) l).length ≤ 2147483648 ∧ (0 ≤ (IntKind.wrap .i64 (k + 1)) ∧ (IntKind.wrap .i64 (k + 1)) ≤ (l.length : Int) ∧ (l.length : Int) ≤ (l.length : Int)) ∧ ((List.take (Int.toNat k) l).length + (List.drop (Int.toNat (IntKind.wrap .i64 (k + 1))) l).length) ≤ 2147483648) <|
  some ((List.take (Int.toNat k) l) ++ (List.drop (Int.toNat (IntKind.wrap .i64 (k + 1))) l))
def xref37_without (n : Nat) : Go.AE.Fn := mkFn (A := (List TRequest) × Int) (R := (List TRequest)) 40 [(false, [.slice 88]), (false, [.int .i64])] true (fun xs => (((cg (xs.getD 0 []) 0).toSl.map d_TRequest), (cg (xs.getD 1 []) 0).toInt)) (fun a => [[.slice (List.map e_TRequest a.1)], [.int a.2]]) (fun a => ref37_without n a.1 a.2) (fun r => [.own 0 [.int .i64, .slice 95] 0 r.length]) (fun r => [.row 88 (List.map e_TRequest r)])
theorem cref37_without (n : Nat) : Contract Try.prog (xref37_without n) := by
  have hΓ := @g0 (Contract Try.prog)
  refine contract_f (Try.f40.body.getD .skip) h00 Try.func40 rfl Try.call40 (by decide) (by intro h; cases h) ?_
  rintro ⟨l, k⟩ r H
  try dsimp only at H
  unfold ref37_without at H
  simp only [Try.f40, Option.getD]
  refine rA ?_
  obtain ⟨⟨hg3, hg4, hg5, hg6⟩, H⟩ := gd_some H
  refine sQ [0, 1, 2, 3, 4, 5, 6, 7, 8, 9, 10] [(none, [], [80]), (none, [], []), (none, [], []), (none, [], []), (none, [80], [144, 80]), (none, [], []), (none, [], []), (none, [], []), (none, [], []), (none, [144], [224, 144]), (none, [], [])] fun K2 hK2 => ?_
  iterate 11 refine oQ ?_
  refine opsQ0 ?_
  refine hK2 _ ?_
  refine Sm.ret ?_
  refine lf ?_
  obtain rfl := Option.some.inj H
  exact rto [some 224]
abbrev ref37_Release_s2 (t_3 : List TRequest) (t_4 : List TRequest) (jobs : List Int) : S := stB [(2, .box 9002 0), (4, .box 9003 0), (9, .own 9004 [.int .i64] 0 jobs.length)] [(9002, .box [.c (.slice 88) (.slice (List.map e_TRequest t_3)), .c (.slice 88) (.slice (List.map e_TRequest t_4))]), (9003, .box [.nilsl, .nilsl]), (9004, .row 3 (List.map e_Int jobs))]
def ref37_Release_k2 (n : Nat) (t_3 : List TRequest) (t_4 : List TRequest) (jobs : List Int) : Option (TTable × (List Int) × Int) :=
  some ((⟨t_3, t_4⟩ : TTable), jobs, 0)
abbrev ref37_Release_s4 (t_7 : List TRequest) (t_8 : List TRequest) (jobs_2 : List Int) (k_1 : Int) : S := stB [(2, .box 9013 0), (4, .box 9014 0), (9, .own 9015 [.int .i64] 0 jobs_2.length), (10, .c (.int .i64) (.int k_1))] [(9013, .box [.c (.slice 88) (.slice (List.map e_TRequest t_7)), .c (.slice 88) (.slice (List.map e_TRequest t_8))]), (9014, .box [.nilsl, .nilsl]), (9015, .row 3 (List.map e_Int jobs_2))]
def ref37_Release_k4 (n : Nat) (t_7 : List TRequest) (t_8 : List TRequest) (jobs_2 : List Int) (k_1 : Int) : Option (((List TRequest) × (List TRequest) × (List Int) × Int) ⊕ (((List TRequest) × (List TRequest) × (List Int)))) :=
  some (.inl (t_7, t_8, jobs_2, (IntKind.wrap .i64 (k_1 + 1))))
abbrev ref37_Release_t3 (t_5 : List TRequest) (t_6 : List TRequest) (jobs_1 : List Int) (k : Int) : S := stB [(2, .box 9010 0), (4, .box 9011 0), (9, .own 9012 [.int .i64] 0 jobs_1.length), (10, .c (.int .i64) (.int k))] [(9010, .box [.c (.slice 88) (.slice (List.map e_TRequest t_5)), .c (.slice 88) (.slice (List.map e_TRequest t_6))]), (9011, .box [.nilsl, .nilsl]), (9012, .row 3 (List.map e_Int jobs_1))]
def ref37_Release_b3 (n : Nat) (t_5 : List TRequest) (t_6 : List TRequest) (jobs_1 : List Int) (k : Int) : Option (((List TRequest) × (List TRequest) × (List Int) × Int) ⊕ (((List TRequest) × (List TRequest) × (List Int)))) :=
  bif (decide (k < (t_6.length : Int))) then
    gd ((0 ≤ k ∧ k < (t_6.length : Int))) <|
    (ref37_free n (gt t_6 (Int.toNat k)) t_5).bind fun r4 =>
    gd ((r4 = true → (0 ≤ k ∧ k ≤ (t_6.length : Int))) ∧ (r4 = true → (ref37_free n (gt t_6 (Int.toNat k)) (List.take (Int.toNat k) t_6)).isSome = true)) <|
    bif (if r4 = true then ((ref37_free n (gt t_6 (Int.toNat k)) (List.take (Int.toNat k) t_6)).getD default) else false) then
      gd (t_5.length ≤ 2147483648 ∧ (t_5.length + 1) ≤ 2147483648) <|
      (ref37_without n t_6 k).bind fun r5 =>
      gd ((jobs_1.length + 1) ≤ 2147483648) <|
      ref37_Release_k4 n (t_5 ++ [(gt t_6 (Int.toNat k))]) r5 (jobs_1 ++ [(gt t_6 (Int.toNat k)).Job]) (-1)
    else
      ref37_Release_k4 n t_5 t_6 jobs_1 k
  else
    some (.inr (t_5, t_6, jobs_1))
abbrev ref37_Release_s1 (t_1 : List TRequest) (t_2 : List TRequest) : S := stB [(2, .box 9000 0), (4, .box 9001 0)] [(9000, .box [.c (.slice 88) (.slice (List.map e_TRequest t_1)), .c (.slice 88) (.slice (List.map e_TRequest t_2))]), (9001, .box [.nilsl, .nilsl])]
def ref37_Release_k1 (n : Nat) (t_1 : List TRequest) (t_2 : List TRequest) : Option (TTable × (List Int) × Int) :=
  (loopF (fun (x : (List TRequest) × (List TRequest) × (List Int) × Int) => ref37_Release_b3 n x.1 x.2.1 x.2.2.1 x.2.2.2) n (t_1, t_2, [], 0)).bind fun y15 =>
  ref37_Release_k2 n y15.1 y15.2.1 y15.2.2
def ref37_Release (n : Nat) (t : TTable) (job : Int) : Option (TTable × (List Int) × Int) :=
  (ref37_Valid n t).bind fun r1 =>
  bif (!r1) then
    some ((⟨[], []⟩ : TTable), [], 5)
  else
    (ref37_place n t.Held job).bind fun r2 =>
    (ref37_place n t.Waiting job).bind fun r3 =>
    bif (if (decide (r2 < 0)) = true then (decide (r3 < 0)) else false) then
      some ((⟨[], []⟩ : TTable), [], 3)
    else
      bif (decide (r2 ≥ 0)) then
        (ref37_without n t.Held r2).bind fun r6 =>
        ref37_Release_k1 n r6 t.Waiting
      else
        (ref37_without n t.Waiting r3).bind fun r7 =>
        ref37_Release_k1 n t.Held r7
def xref37_Release (n : Nat) : Go.AE.Fn := mkFn (A := TTable × Int) (R := TTable × (List Int) × Int) 15 [(true, [.slice 88, .slice 88]), (false, [.int .i64])] true (fun xs => ((⟨((cg (xs.getD 0 []) 0).toSl.map d_TRequest), ((cg (xs.getD 0 []) 1).toSl.map d_TRequest)⟩ : TTable), (cg (xs.getD 1 []) 0).toInt)) (fun a => [[.slice (List.map e_TRequest a.1.Held), .slice (List.map e_TRequest a.1.Waiting)], [.int a.2]]) (fun a => ref37_Release n a.1 a.2) (fun r => [.agg [.c (.slice 88) (.slice (List.map e_TRequest r.1.Held)), .c (.slice 88) (.slice (List.map e_TRequest r.1.Waiting))], .own 0 [.int .i64] 0 r.2.1.length, .c (.int .i64) (.int r.2.2)]) (fun r => [.row 3 (List.map e_Int r.2.1)])
theorem cref37_Release (n : Nat) : Contract Try.prog (xref37_Release n) := by
  have hΓ := g1 (cref37_Valid n) (g1 (cref37_place n) (g1 (cref37_without n) (g1 (cref37_free n) (@g0 (Contract Try.prog)))))
  refine contract_f (Try.f15.body.getD .skip) h00 Try.func15 rfl Try.call15 (by decide) (by intro h; cases h) ?_
  rintro ⟨t, job⟩ r H
  try dsimp only at H
  unfold ref37_Release at H
  simp only [Try.f15, Option.getD]
  refine rA ?_
  refine Sm.seqK fun K2 hK2 => ?_
  obtain ⟨r1, hr1, H⟩ := bind_some H
  have q := And.intro @xref37_Valid.eq_1 hr1
  refine rAq ?_
  refine cnd H (fun h4 H => ?_) (fun h4 H => ?_)
  · refine rA ?_
    refine Sm.ret ?_
    refine lf ?_
    obtain rfl := Option.some.inj H
    exact rto [none]
  refine Sm.skip ?_
  refine hK2 _ ?_
  obtain ⟨r2, hr2, H⟩ := bind_some H
  have q := And.intro @xref37_Valid.eq_1 (And.intro @xref37_place.eq_1 hr2)
  refine rAq ?_
  obtain ⟨r3, hr3, H⟩ := bind_some H
  have q := And.intro @xref37_Valid.eq_1 (And.intro @xref37_place.eq_1 hr3)
  refine rAq ?_
  refine Sm.seqK fun K8 hK8 => ?_
  refine rA ?_
  refine cnd H (fun h10 H => ?_) (fun h10 H => ?_)
  · refine rA ?_
    refine Sm.ret ?_
    refine lf ?_
    obtain rfl := Option.some.inj H
    exact rto [none]
  refine Sm.skip ?_
  refine hK8 _ ?_
  refine Sm.cut (fun (x : (List TRequest) × (List TRequest)) => ref37_Release_s1 x.1 x.2) (fun x => ref37_Release_k1 n x.1 x.2 = some r) ?_ ?_
  · refine rA ?_
    refine cnd H (fun h32 H => ?_) (fun h32 H => ?_)
    · obtain ⟨r6, hr6, H⟩ := bind_some H
      have q := And.intro @xref37_Valid.eq_1 (And.intro @xref37_place.eq_1 (And.intro @xref37_without.eq_1 hr6))
      refine eAq ?_
      refine lf ?_
      exact ⟨(r6, t.Waiting), H, wbf [576] [some 32, some 64]⟩
    obtain ⟨r7, hr7, H⟩ := bind_some H
    have q := And.intro @xref37_Valid.eq_1 (And.intro @xref37_place.eq_1 (And.intro @xref37_without.eq_1 hr7))
    refine eAq ?_
    refine lf ?_
    exact ⟨(t.Held, r7), H, wbf [656] [some 32, some 64]⟩
  rintro ⟨t_1, t_2⟩ H
  try dsimp only at H
  unfold ref37_Release_k1 at H
  refine Sm.st (ref37_Release_s1.eq_1 ..) ?_
  refine rA ?_
  refine Sm.cut (fun (x : (List TRequest) × (List TRequest) × (List Int)) => ref37_Release_s2 x.1 x.2.1 x.2.2) (fun x => ref37_Release_k2 n x.1 x.2.1 x.2.2 = some r) ?_ ?_
  · refine rA ?_
    refine Sm.block ?_
    obtain ⟨y15, hy15, Ho15⟩ := bind_some H
    refine Sm.loopB _ (fun x => ref37_Release_t3 x.1 x.2.1 x.2.2.1 x.2.2.2) hy15 (wb [some 9000, some 9001, none]) ?_
    rintro ⟨t_5, t_6, jobs_1, k⟩ z15 H
    try dsimp only at H
    unfold ref37_Release_b3 at H
    refine Sm.st (ref37_Release_t3.eq_1 ..) ?_
    refine Sm.seqK fun K16 hK16 => ?_
    refine rA ?_
    refine cnd H (fun h18 H => ?_) (fun h18 H => ?_)
    · refine Sm.skip ?_
      refine hK16 _ ?_
      refine Sm.cut (fun (x : (List TRequest) × (List TRequest) × (List Int) × Int) => ref37_Release_s4 x.1 x.2.1 x.2.2.1 x.2.2.2) (fun x => ref37_Release_k4 n x.1 x.2.1 x.2.2.1 x.2.2.2 = some z15) ?_ ?_
      · refine Sm.block ?_
        obtain ⟨hg30, H⟩ := gd_some H
        refine rA ?_
        obtain ⟨r4, hr4, H⟩ := bind_some H
        obtain ⟨⟨hg28, hg29⟩, H⟩ := gd_some H
        have q := And.intro @xref37_Valid.eq_1 (And.intro @xref37_place.eq_1 (And.intro @xref37_without.eq_1 (And.intro @xref37_free.eq_1 hr4)))
        refine rDq ?_
        refine cnd H (fun h21 H => ?_) (fun h21 H => ?_)
        · obtain ⟨⟨hg23, hg24⟩, H⟩ := gd_some H
          refine sQ [0, 1, 2, 3, 4, 5, 6, 7, 8] [(none, [], [1072]), (none, [9010], []), (none, [9010], []), (none, [1072], [1120, 1072]), (none, [176], []), (none, [], [1152]), (none, [1120, 1152], [1168, 1120]), (none, [9010], []), (none, [1168, 9010], [9010])] fun K22 hK22 => ?_
          iterate 9 refine oQ ?_
          refine opsQ0 ?_
          refine hK22 _ ?_
          obtain ⟨r5, hr5, H⟩ := bind_some H
          have q := And.intro @xref37_Valid.eq_1 (And.intro @xref37_place.eq_1 (And.intro @xref37_without.eq_1 hr5))
          refine rAq ?_
          obtain ⟨hg27, H⟩ := gd_some H
          refine rA ?_
          refine eA ?_
          refine lf ?_
          exact ⟨((t_5 ++ [(gt t_6 (Int.toNat k))]), r5, (jobs_1 ++ [(gt t_6 (Int.toNat k)).Job]), (-1)), H, wbf [1168, 1248] [some 9010, some 9011, some 1344]⟩
        refine Sm.skip ?_
        refine lf ?_
        exact ⟨(t_5, t_6, jobs_1, k), H, wb [some 9010, some 9011, some 9012]⟩
      rintro ⟨t_7, t_8, jobs_2, k_1⟩ H
      try dsimp only at H
      unfold ref37_Release_k4 at H
      refine Sm.st (ref37_Release_s4.eq_1 ..) ?_
      refine eA ?_
      refine lf ?_
      exact nx H (wb [some 9013, some 9014, some 9015])
    refine Sm.exit ?_
    refine lf ?_
    refine lx H fun hyy => ?_
    subst hyy
    have H := Ho15
    try dsimp only at H
    refine lf ?_
    exact ⟨(t_5, t_6, jobs_1), H, wb [some 9010, some 9011, some 9012]⟩
  rintro ⟨t_3, t_4, jobs⟩ H
  try dsimp only at H
  unfold ref37_Release_k2 at H
  refine Sm.st (ref37_Release_s2.eq_1 ..) ?_
  refine rA ?_
  refine Sm.ret ?_
  refine lf ?_
  obtain rfl := Option.some.inj H
  exact rto [some 9004]
abbrev law37_sameWants_s1 : S := stB [] []
def law37_sameWants_k1 (n : Nat) : Option Bool :=
  some true
abbrev law37_sameWants_t2 (a : List TWant) (b : List TWant) (k : Int) : S := stB [(0, .c (.slice 92) (.slice (List.map e_TWant a))), (1, .c (.slice 95) (.slice (List.map e_TWant b))), (5, .c (.int .i64) (.int k))] []
def law37_sameWants_b2 (n : Nat) (a : List TWant) (b : List TWant) (k : Int) : Option ((Int) ⊕ (((Bool) ⊕ (Unit)))) :=
  bif (decide (k < (a.length : Int))) then
    gd ((0 ≤ k ∧ k < (a.length : Int)) ∧ (0 ≤ k ∧ k < (b.length : Int)) ∧ ((!(((gt a (Int.toNat k)).Name) != ((gt b (Int.toNat k)).Name))) = true → (0 ≤ k ∧ k < (a.length : Int))) ∧ ((!(((gt a (Int.toNat k)).Name) != ((gt b (Int.toNat k)).Name))) = true → (0 ≤ k ∧ k < (b.length : Int)))) <|
    bif (if (((gt a (Int.toNat k)).Name) != ((gt b (Int.toNat k)).Name)) = true then true else (((gt a (Int.toNat k)).Exclusive) != ((gt b (Int.toNat k)).Exclusive))) then
      some (.inr (.inl false))
    else
      some (.inl (IntKind.wrap .i64 (k + 1)))
  else
    some (.inr (.inr ()))
def law37_sameWants (n : Nat) (a : List TWant) (b : List TWant) : Option Bool :=
  bif ((a.length : Int) != (b.length : Int)) then
    some false
  else
    (loopF (fun (x : Int) => law37_sameWants_b2 n a b x) n 0).bind fun y8 =>
    match y8 with
    | .inl vv =>
      some vv
    | .inr vv =>
      law37_sameWants_k1 n
def xlaw37_sameWants (n : Nat) : Go.AE.Fn := mkFn (A := (List TWant) × (List TWant)) (R := Bool) 66 [(false, [.slice 92]), (false, [.slice 95])] false (fun xs => (((cg (xs.getD 0 []) 0).toSl.map d_TWant), ((cg (xs.getD 1 []) 0).toSl.map d_TWant))) (fun a => [[.slice (List.map e_TWant a.1)], [.slice (List.map e_TWant a.2)]]) (fun a => law37_sameWants n a.1 a.2) (fun r => [.c .bool (.bool r)]) (fun r => [])
theorem claw37_sameWants (n : Nat) : Contract Try.prog (xlaw37_sameWants n) := by
  have hΓ := @g0 (Contract Try.prog)
  refine contract_f (Try.f66.body.getD .skip) h00 Try.func66 rfl Try.call66 (by decide) (by intro _ r; exact ⟨rfl, by simp⟩) ?_
  rintro ⟨a, b⟩ r H
  try dsimp only at H
  unfold law37_sameWants at H
  simp only [Try.f66, Option.getD]
  refine rA ?_
  refine Sm.seqK fun K2 hK2 => ?_
  refine rA ?_
  refine cnd H (fun h4 H => ?_) (fun h4 H => ?_)
  · refine rA ?_
    refine Sm.ret ?_
    refine lf ?_
    obtain rfl := Option.some.inj H
    exact rt []
  refine Sm.skip ?_
  refine hK2 _ ?_
  refine Sm.cut (fun (x : Unit) => law37_sameWants_s1) (fun x => law37_sameWants_k1 n = some r) ?_ ?_
  · refine rA ?_
    refine Sm.block ?_
    obtain ⟨y8, hy8, Ho8⟩ := bind_some H
    refine Sm.loopB _ (fun x => law37_sameWants_t2 a b x) hy8 (wb []) ?_
    rintro k z8 H
    try dsimp only at H
    unfold law37_sameWants_b2 at H
    refine Sm.st (law37_sameWants_t2.eq_1 ..) ?_
    refine Sm.seqK fun K9 hK9 => ?_
    refine rA ?_
    refine cnd H (fun h11 H => ?_) (fun h11 H => ?_)
    · refine Sm.skip ?_
      refine hK9 _ ?_
      refine Sm.seqK fun K12 hK12 => ?_
      refine Sm.block ?_
      obtain ⟨⟨hg16, hg17, hg18, hg19⟩, H⟩ := gd_some H
      refine rD ?_
      refine cnd H (fun h14 H => ?_) (fun h14 H => ?_)
      · refine rA ?_
        refine Sm.ret ?_
        refine lf ?_
        refine lx H fun hyy => ?_
        subst hyy
        have H := Ho8
        try dsimp only at H
        refine lf ?_
        obtain rfl := Option.some.inj H
        exact rt []
      refine Sm.skip ?_
      refine hK12 _ ?_
      refine eA ?_
      refine lf ?_
      exact nx H (wb [])
    refine Sm.exit ?_
    refine lf ?_
    refine lx H fun hyy => ?_
    subst hyy
    have H := Ho8
    try dsimp only at H
    refine lf ?_
    exact ⟨(), H, wb []⟩
  rintro ⟨⟩ H
  try dsimp only at H
  unfold law37_sameWants_k1 at H
  refine Sm.st (law37_sameWants_s1.eq_1 ..) ?_
  refine rA ?_
  refine Sm.ret ?_
  refine lf ?_
  obtain rfl := Option.some.inj H
  exact rt []
abbrev law37_sameRequests_s1 : S := stB [] []
def law37_sameRequests_k1 (n : Nat) : Option Bool :=
  some true
abbrev law37_sameRequests_t2 (a : List TRequest) (b : List TRequest) (k : Int) : S := stB [(0, .c (.slice 61) (.slice (List.map e_TRequest a))), (1, .c (.slice 88) (.slice (List.map e_TRequest b))), (5, .c (.int .i64) (.int k))] []
def law37_sameRequests_b2 (n : Nat) (a : List TRequest) (b : List TRequest) (k : Int) : Option ((Int) ⊕ (((Bool) ⊕ (Unit)))) :=
  bif (decide (k < (a.length : Int))) then
    gd ((0 ≤ k ∧ k < (a.length : Int)) ∧ (0 ≤ k ∧ k < (b.length : Int)) ∧ ((!(((gt a (Int.toNat k)).Job) != ((gt b (Int.toNat k)).Job))) = true → (0 ≤ k ∧ k < (a.length : Int))) ∧ ((!(((gt a (Int.toNat k)).Job) != ((gt b (Int.toNat k)).Job))) = true → (0 ≤ k ∧ k < (b.length : Int))) ∧ ((!(((gt a (Int.toNat k)).Job) != ((gt b (Int.toNat k)).Job))) = true → (law37_sameWants n ((gt a (Int.toNat k)).Wants) ((gt b (Int.toNat k)).Wants)).isSome = true)) <|
    bif (if (((gt a (Int.toNat k)).Job) != ((gt b (Int.toNat k)).Job)) = true then true else (!((law37_sameWants n ((gt a (Int.toNat k)).Wants) ((gt b (Int.toNat k)).Wants)).getD default))) then
      some (.inr (.inl false))
    else
      some (.inl (IntKind.wrap .i64 (k + 1)))
  else
    some (.inr (.inr ()))
def law37_sameRequests (n : Nat) (a : List TRequest) (b : List TRequest) : Option Bool :=
  bif ((a.length : Int) != (b.length : Int)) then
    some false
  else
    (loopF (fun (x : Int) => law37_sameRequests_b2 n a b x) n 0).bind fun y8 =>
    match y8 with
    | .inl vv =>
      some vv
    | .inr vv =>
      law37_sameRequests_k1 n
def xlaw37_sameRequests (n : Nat) : Go.AE.Fn := mkFn (A := (List TRequest) × (List TRequest)) (R := Bool) 42 [(false, [.slice 61]), (false, [.slice 88])] false (fun xs => (((cg (xs.getD 0 []) 0).toSl.map d_TRequest), ((cg (xs.getD 1 []) 0).toSl.map d_TRequest))) (fun a => [[.slice (List.map e_TRequest a.1)], [.slice (List.map e_TRequest a.2)]]) (fun a => law37_sameRequests n a.1 a.2) (fun r => [.c .bool (.bool r)]) (fun r => [])
theorem claw37_sameRequests (n : Nat) : Contract Try.prog (xlaw37_sameRequests n) := by
  have hΓ := g1 (claw37_sameWants n) (@g0 (Contract Try.prog))
  refine contract_f (Try.f42.body.getD .skip) h00 Try.func42 rfl Try.call42 (by decide) (by intro _ r; exact ⟨rfl, by simp⟩) ?_
  rintro ⟨a, b⟩ r H
  try dsimp only at H
  unfold law37_sameRequests at H
  simp only [Try.f42, Option.getD]
  refine rA ?_
  refine Sm.seqK fun K2 hK2 => ?_
  refine rA ?_
  refine cnd H (fun h4 H => ?_) (fun h4 H => ?_)
  · refine rA ?_
    refine Sm.ret ?_
    refine lf ?_
    obtain rfl := Option.some.inj H
    exact rt []
  refine Sm.skip ?_
  refine hK2 _ ?_
  refine Sm.cut (fun (x : Unit) => law37_sameRequests_s1) (fun x => law37_sameRequests_k1 n = some r) ?_ ?_
  · refine rA ?_
    refine Sm.block ?_
    obtain ⟨y8, hy8, Ho8⟩ := bind_some H
    refine Sm.loopB _ (fun x => law37_sameRequests_t2 a b x) hy8 (wb []) ?_
    rintro k z8 H
    try dsimp only at H
    unfold law37_sameRequests_b2 at H
    refine Sm.st (law37_sameRequests_t2.eq_1 ..) ?_
    refine Sm.seqK fun K9 hK9 => ?_
    refine rA ?_
    refine cnd H (fun h11 H => ?_) (fun h11 H => ?_)
    · refine Sm.skip ?_
      refine hK9 _ ?_
      refine Sm.seqK fun K12 hK12 => ?_
      refine Sm.block ?_
      obtain ⟨⟨hg16, hg17, hg18, hg19, hg20⟩, H⟩ := gd_some H
      have q := @xlaw37_sameWants.eq_1
      refine rDq ?_
      refine cnd H (fun h14 H => ?_) (fun h14 H => ?_)
      · refine rA ?_
        refine Sm.ret ?_
        refine lf ?_
        refine lx H fun hyy => ?_
        subst hyy
        have H := Ho8
        try dsimp only at H
        refine lf ?_
        obtain rfl := Option.some.inj H
        exact rt []
      refine Sm.skip ?_
      refine hK12 _ ?_
      refine eA ?_
      refine lf ?_
      exact nx H (wb [])
    refine Sm.exit ?_
    refine lf ?_
    refine lx H fun hyy => ?_
    subst hyy
    have H := Ho8
    try dsimp only at H
    refine lf ?_
    exact ⟨(), H, wb []⟩
  rintro ⟨⟩ H
  try dsimp only at H
  unfold law37_sameRequests_k1 at H
  refine Sm.st (law37_sameRequests_s1.eq_1 ..) ?_
  refine rA ?_
  refine Sm.ret ?_
  refine lf ?_
  obtain rfl := Option.some.inj H
  exact rt []
def law37_same (n : Nat) (a : TTable) (b : TTable) : Option Bool :=
  (law37_sameRequests n a.Held b.Held).bind fun r1 =>
  gd ((r1 = true → (law37_sameRequests n a.Waiting b.Waiting).isSome = true)) <|
  some (if r1 = true then ((law37_sameRequests n a.Waiting b.Waiting).getD default) else false)
def xlaw37_same (n : Nat) : Go.AE.Fn := mkFn (A := TTable × TTable) (R := Bool) 17 [(true, [.slice 61, .slice 61]), (true, [.slice 88, .slice 88])] false (fun xs => ((⟨((cg (xs.getD 0 []) 0).toSl.map d_TRequest), ((cg (xs.getD 0 []) 1).toSl.map d_TRequest)⟩ : TTable), (⟨((cg (xs.getD 1 []) 0).toSl.map d_TRequest), ((cg (xs.getD 1 []) 1).toSl.map d_TRequest)⟩ : TTable))) (fun a => [[.slice (List.map e_TRequest a.1.Held), .slice (List.map e_TRequest a.1.Waiting)], [.slice (List.map e_TRequest a.2.Held), .slice (List.map e_TRequest a.2.Waiting)]]) (fun a => law37_same n a.1 a.2) (fun r => [.c .bool (.bool r)]) (fun r => [])
theorem claw37_same (n : Nat) : Contract Try.prog (xlaw37_same n) := by
  have hΓ := g1 (claw37_sameRequests n) (@g0 (Contract Try.prog))
  refine contract_f (Try.f17.body.getD .skip) h00 Try.func17 rfl Try.call17 (by decide) (by intro _ r; exact ⟨rfl, by simp⟩) ?_
  rintro ⟨a, b⟩ r H
  try dsimp only at H
  unfold law37_same at H
  simp only [Try.f17, Option.getD]
  refine rA ?_
  obtain ⟨r1, hr1, H⟩ := bind_some H
  obtain ⟨hg3, H⟩ := gd_some H
  have q := And.intro @xlaw37_sameRequests.eq_1 hr1
  refine rAq ?_
  refine Sm.ret ?_
  refine lf ?_
  obtain rfl := Option.some.inj H
  exact rt []
abbrev law37_spoil_R_t3 (t : TTable) (k : Int) : S := stB [(1, .box 9006 0), (6, .c (.int .i64) (.int k))] [(0, .gone), (9006, .box [.rg 9007 (.slice 61) (.slice (List.map e_TRequest t.Held)), .rg 9007 (.slice 61) (.slice (List.map e_TRequest t.Waiting))]), (9007, .wob)]
def law37_spoil_R_b3 (n : Nat) (t : TTable) (k : Int) : Option ((Int) ⊕ ((Unit))) :=
  bif (decide (k < (t.Waiting.length : Int))) then
    gd ((0 ≤ k ∧ k < (t.Waiting.length : Int))) <|
    some (.inl (IntKind.wrap .i64 (k + 1)))
  else
    some (.inr ())
abbrev law37_spoil_R_s2 (t : TTable) : S := stB [(1, .box 9002 0)] [(0, .gone), (9002, .box [.rg 9003 (.slice 61) (.slice (List.map e_TRequest t.Held)), .rg 9003 (.slice 61) (.slice (List.map e_TRequest t.Waiting))]), (9003, .wob)]
def law37_spoil_R_k2 (n : Nat) (t : TTable) : Option Unit :=
  (loopF (fun (x : Int) => law37_spoil_R_b3 n t x) n 0).bind fun y6 =>
  some ()
abbrev law37_spoil_R_t4 (t : TTable) (k_1 : Int) : S := stB [(1, .box 9010 0), (5, .c (.int .i64) (.int k_1))] [(0, .gone), (9010, .box [.rg 9011 (.slice 61) (.slice (List.map e_TRequest t.Held)), .rg 9011 (.slice 61) (.slice (List.map e_TRequest t.Waiting))]), (9011, .wob)]
def law37_spoil_R_b4 (n : Nat) (t : TTable) (k_1 : Int) : Option ((Int) ⊕ ((Unit))) :=
  bif (decide (k_1 < (t.Held.length : Int))) then
    gd ((0 ≤ k_1 ∧ k_1 < (t.Held.length : Int))) <|
    some (.inl (IntKind.wrap .i64 (k_1 + 1)))
  else
    some (.inr ())
abbrev law37_spoil_R_s1 (t : TTable) : S := stB [(1, .box 9000 0)] [(0, .gone), (9000, .box [.rg 9001 (.slice 61) (.slice (List.map e_TRequest t.Held)), .rg 9001 (.slice 61) (.slice (List.map e_TRequest t.Waiting))]), (9001, .wob)]
def law37_spoil_R_k1 (n : Nat) (t : TTable) : Option Unit :=
  (loopF (fun (x : Int) => law37_spoil_R_b4 n t x) n 0).bind fun y13 =>
  law37_spoil_R_k2 n t
abbrev law37_spoil_R_s6 (t : TTable) (all : List TRequest) (k_2 : Int) : S := stB [(1, .box 9016 0), (2, .rg 9017 (.slice 61) (.slice (List.map e_TRequest all))), (3, .c (.int .i64) (.int k_2))] [(0, .gone), (9016, .box [.rg 9017 (.slice 61) (.slice (List.map e_TRequest t.Held)), .rg 9017 (.slice 61) (.slice (List.map e_TRequest t.Waiting))]), (9017, .wob)]
def law37_spoil_R_k6 (n : Nat) (t : TTable) (all : List TRequest) (k_2 : Int) : Option ((Int) ⊕ ((Unit))) :=
  some (.inl (IntKind.wrap .i64 (k_2 + 1)))
abbrev law37_spoil_R_t7 (t : TTable) (all : List TRequest) (k_2 : Int) (i : Int) : S := stB [(1, .box 9020 0), (2, .rg 9021 (.slice 61) (.slice (List.map e_TRequest all))), (3, .c (.int .i64) (.int k_2)), (4, .c (.int .i64) (.int i))] [(0, .gone), (9020, .box [.rg 9021 (.slice 61) (.slice (List.map e_TRequest t.Held)), .rg 9021 (.slice 61) (.slice (List.map e_TRequest t.Waiting))]), (9021, .wob)]
def law37_spoil_R_b7 (n : Nat) (t : TTable) (all : List TRequest) (k_2 : Int) (i : Int) : Option ((Int) ⊕ ((Unit))) :=
  gd ((0 ≤ k_2 ∧ k_2 < (all.length : Int))) <|
  bif (decide (i < (((gt all (Int.toNat k_2)).Wants).length : Int))) then
    gd ((0 ≤ k_2 ∧ k_2 < (all.length : Int)) ∧ (0 ≤ i ∧ i < (((gt all (Int.toNat k_2)).Wants).length : Int))) <|
    some (.inl (IntKind.wrap .i64 (i + 1)))
  else
    some (.inr ())
abbrev law37_spoil_R_t5 (t : TTable) (all : List TRequest) (k_2 : Int) : S := stB [(1, .box 9014 0), (2, .rg 9015 (.slice 61) (.slice (List.map e_TRequest all))), (3, .c (.int .i64) (.int k_2))] [(0, .gone), (9014, .box [.rg 9015 (.slice 61) (.slice (List.map e_TRequest t.Held)), .rg 9015 (.slice 61) (.slice (List.map e_TRequest t.Waiting))]), (9015, .wob)]
def law37_spoil_R_b5 (n : Nat) (t : TTable) (all : List TRequest) (k_2 : Int) : Option ((Int) ⊕ ((Unit))) :=
  bif (decide (k_2 < (all.length : Int))) then
    (loopF (fun (x : Int) => law37_spoil_R_b7 n t all k_2 x) n 0).bind fun y25 =>
    law37_spoil_R_k6 n t all k_2
  else
    some (.inr ())
def law37_spoil_R (n : Nat) (t : TTable) : Option Unit :=
  gd (t.Held.length ≤ 2147483648 ∧ (t.Held.length + t.Waiting.length) ≤ 2147483648) <|
  (loopF (fun (x : Int) => law37_spoil_R_b5 n t (t.Held ++ t.Waiting) x) n 0).bind fun y20 =>
  law37_spoil_R_k1 n t
theorem claw37_spoil_R (n : Nat) (t : TTable) (r : Unit) (H : law37_spoil_R n t = some r) : CallsM Try.prog 18 [.ref (.agg [.rg 0 (.slice 61) (.slice (List.map e_TRequest t.Held)), .rg 0 (.slice 61) (.slice (List.map e_TRequest t.Waiting))])] [.reg] [] [.gone] := by
  have hΓ := @g0 (Contract Try.prog)
  refine callsM_of0 (Try.f18.body.getD .skip) h00 Try.func18 rfl Try.call18 (Nat.le_of_ble_eq_true rfl) (Nat.le_of_ble_eq_true rfl) rfl rfl rfl ?_
  unfold law37_spoil_R at H
  simp only [Try.f18, Option.getD]
  refine Sm0.melt ?_
  refine Sm0.seqK fun K1 hK1 => ?_
  refine e0X ?_
  refine oX ?_
  refine opsX0 ?_
  refine hK1 _ ?_
  refine Sm0.seqK fun K2 hK2 => ?_
  obtain ⟨⟨hg3, hg4⟩, H⟩ := gd_some H
  refine e0Q [0, 1, 2, 3, 4, 5, 6, 7] [(none, [], [112]), (none, [16], []), (none, [16], []), (none, [112], [160, 112]), (none, [16], []), (none, [16], []), (none, [160], [208, 160]), (none, [], [])] ?_
  iterate 8 refine oQ ?_
  refine opsQ0 ?_
  refine hK2 _ ?_
  refine Sm0.collect 8999 ?_
  refine Sm.cut (fun (x : Unit) => law37_spoil_R_s1 t) (fun x => law37_spoil_R_k1 n t = some r) ?_ ?_
  · refine rA ?_
    refine Sm.block ?_
    obtain ⟨y20, hy20, Ho20⟩ := bind_some H
    refine Sm.loopB _ (fun x => law37_spoil_R_t5 t (t.Held ++ t.Waiting) x) hy20 (wb [some 0, some 16, some 8999]) ?_
    rintro k_2 z20 H
    try dsimp only at H
    unfold law37_spoil_R_b5 at H
    refine Sm.st (law37_spoil_R_t5.eq_1 ..) ?_
    refine Sm.seqK fun K21 hK21 => ?_
    refine sX fun K22 hK22 => ?_
    iterate 2 refine oX ?_
    refine oE stepW_ok ?_
    refine oX ?_
    refine hK22 _ ?_
    refine cnd H (fun h23 H => ?_) (fun h23 H => ?_)
    · refine Sm.skip ?_
      refine hK21 _ ?_
      refine Sm.cut (fun (x : Unit) => law37_spoil_R_s6 t (t.Held ++ t.Waiting) k_2) (fun x => law37_spoil_R_k6 n t (t.Held ++ t.Waiting) k_2 = some z20) ?_ ?_
      · refine Sm.block ?_
        refine rA ?_
        refine Sm.block ?_
        obtain ⟨y25, hy25, Ho25⟩ := bind_some H
        refine Sm.loopB _ (fun x => law37_spoil_R_t7 t (t.Held ++ t.Waiting) k_2 x) hy25 (wb [some 0, some 9014, some 9015]) ?_
        rintro i z25 H
        try dsimp only at H
        unfold law37_spoil_R_b7 at H
        refine Sm.st (law37_spoil_R_t7.eq_1 ..) ?_
        refine Sm.seqK fun K26 hK26 => ?_
        refine sX fun K27 hK27 => ?_
        obtain ⟨hg28, H⟩ := gd_some H
        try simp only [List.length_append] at hg28
        iterate 3 refine oX ?_
        refine oE stepW_ok ?_
        refine oE stepW_ok ?_
        refine oE stepW_ok ?_
        refine oE stepW_ok ?_
        refine oX ?_
        refine hK27 _ ?_
        refine cnd H (fun h29 H => ?_) (fun h29 H => ?_)
        · refine Sm.skip ?_
          refine hK26 _ ?_
          refine Sm.seqK fun K30 hK30 => ?_
          refine Sm.block ?_
          refine eX ?_
          obtain ⟨⟨hg31, hg32⟩, H⟩ := gd_some H
          try simp only [List.length_append] at hg31 hg32
          iterate 2 refine oX ?_
          refine oE stepW_ok ?_
          refine oE stepW_ok ?_
          refine oE stepW_ok ?_
          iterate 2 refine oX ?_
          refine oE stepW_ok ?_
          refine oE stepW_ok ?_
          refine opsX0 ?_
          refine hK30 _ ?_
          refine eA ?_
          refine lf ?_
          exact nx H (wb [some 0, some 9020, some 9021])
        refine Sm.exit ?_
        refine lf ?_
        refine lx H fun hyy => ?_
        subst hyy
        have H := Ho25
        try dsimp only at H
        refine lf ?_
        exact ⟨(), H, wb [some 0, some 9020, some 9021]⟩
      rintro ⟨⟩ H
      try dsimp only at H
      unfold law37_spoil_R_k6 at H
      refine Sm.st (law37_spoil_R_s6.eq_1 ..) ?_
      refine eA ?_
      refine lf ?_
      exact nx H (wb [some 0, some 9016, some 9017])
    refine Sm.exit ?_
    refine lf ?_
    refine lx H fun hyy => ?_
    subst hyy
    have H := Ho20
    try dsimp only at H
    refine lf ?_
    exact ⟨(), H, wb [some 0, some 9014, some 9015]⟩
  rintro ⟨⟩ H
  try dsimp only at H
  unfold law37_spoil_R_k1 at H
  refine Sm.st (law37_spoil_R_s1.eq_1 ..) ?_
  refine Sm.cut (fun (x : Unit) => law37_spoil_R_s2 t) (fun x => law37_spoil_R_k2 n t = some r) ?_ ?_
  · refine rA ?_
    refine Sm.block ?_
    obtain ⟨y13, hy13, Ho13⟩ := bind_some H
    refine Sm.loopB _ (fun x => law37_spoil_R_t4 t x) hy13 (wb [some 0, some 9000, some 9001]) ?_
    rintro k_1 z13 H
    try dsimp only at H
    unfold law37_spoil_R_b4 at H
    refine Sm.st (law37_spoil_R_t4.eq_1 ..) ?_
    refine Sm.seqK fun K14 hK14 => ?_
    refine sX fun K15 hK15 => ?_
    iterate 3 refine oX ?_
    refine oE stepW_ok ?_
    refine oX ?_
    refine hK15 _ ?_
    refine cnd H (fun h16 H => ?_) (fun h16 H => ?_)
    · refine Sm.skip ?_
      refine hK14 _ ?_
      refine Sm.seqK fun K17 hK17 => ?_
      refine Sm.block ?_
      refine eX ?_
      obtain ⟨hg18, H⟩ := gd_some H
      iterate 3 refine oX ?_
      refine oE stepW_ok ?_
      refine oE stepW_ok ?_
      refine oE stepW_ok ?_
      refine opsX0 ?_
      refine hK17 _ ?_
      refine eA ?_
      refine lf ?_
      exact nx H (wb [some 0, some 9010, some 9011])
    refine Sm.exit ?_
    refine lf ?_
    refine lx H fun hyy => ?_
    subst hyy
    have H := Ho13
    try dsimp only at H
    refine lf ?_
    exact ⟨(), H, wb [some 0, some 9010, some 9011]⟩
  rintro ⟨⟩ H
  try dsimp only at H
  unfold law37_spoil_R_k2 at H
  refine Sm.st (law37_spoil_R_s2.eq_1 ..) ?_
  refine rA ?_
  refine Sm.block ?_
  obtain ⟨y6, hy6, Ho6⟩ := bind_some H
  refine Sm.loopB _ (fun x => law37_spoil_R_t3 t x) hy6 (wb [some 0, some 9002, some 9003]) ?_
  rintro k z6 H
  try dsimp only at H
  unfold law37_spoil_R_b3 at H
  refine Sm.st (law37_spoil_R_t3.eq_1 ..) ?_
  refine Sm.seqK fun K7 hK7 => ?_
  refine sX fun K8 hK8 => ?_
  iterate 3 refine oX ?_
  refine oE stepW_ok ?_
  refine oX ?_
  refine hK8 _ ?_
  refine cnd H (fun h9 H => ?_) (fun h9 H => ?_)
  · refine Sm.skip ?_
    refine hK7 _ ?_
    refine Sm.seqK fun K10 hK10 => ?_
    refine Sm.block ?_
    refine eX ?_
    obtain ⟨hg11, H⟩ := gd_some H
    iterate 3 refine oX ?_
    refine oE stepW_ok ?_
    refine oE stepW_ok ?_
    refine oE stepW_ok ?_
    refine opsX0 ?_
    refine hK10 _ ?_
    refine eA ?_
    refine lf ?_
    exact nx H (wb [some 0, some 9006, some 9007])
  refine Sm.exit ?_
  refine lf ?_
  refine lx H fun hyy => ?_
  subst hyy
  have H := Ho6
  try dsimp only at H
  refine lf ?_
  obtain rfl := Option.some.inj H
  exact rtM [some 0]
def law37_EnqueueReleases (n : Nat) (t : TTable) (job : Int) : Option Bool :=
  (law37_works n).bind fun r1 =>
  bif (!r1) then
    some false
  else
    (law37_light n t).bind fun r2 =>
    bif (!r2) then
      some true
    else
      (law37_table n t).bind fun r3 =>
      (enqueue_Release n t job).bind fun r4 =>
      (ref37_Release n r3 job).bind fun r5 =>
      gd (((!(r4.2.2 != r5.2.2)) = true → (law37_ints n r4.2.1 r5.2.1).isSome = true) ∧ ((!(if (r4.2.2 != r5.2.2) = true then true else (!((law37_ints n r4.2.1 r5.2.1).getD default)))) = true → (law37_same n r4.1 r5.1).isSome = true)) <|
      bif (if (if (r4.2.2 != r5.2.2) = true then true else (!((law37_ints n r4.2.1 r5.2.1).getD default))) = true then true else (!((law37_same n r4.1 r5.1).getD default))) then
        some false
      else
        (law37_spoil_R n r4.1).bind fun r6 =>
        (law37_same n t r3).bind fun r7 =>
        some r7
def xlaw37_EnqueueReleases (n : Nat) : Go.AE.Fn := mkFn (A := TTable × Int) (R := Bool) 3 [(true, [.slice 61, .slice 61]), (false, [.int .i64])] false (fun xs => ((⟨((cg (xs.getD 0 []) 0).toSl.map d_TRequest), ((cg (xs.getD 0 []) 1).toSl.map d_TRequest)⟩ : TTable), (cg (xs.getD 1 []) 0).toInt)) (fun a => [[.slice (List.map e_TRequest a.1.Held), .slice (List.map e_TRequest a.1.Waiting)], [.int a.2]]) (fun a => law37_EnqueueReleases n a.1 a.2) (fun r => [.c .bool (.bool r)]) (fun r => [])
theorem claw37_EnqueueReleases (n : Nat) : Contract Try.prog (xlaw37_EnqueueReleases n) := by
  have hΓ := g1 (claw37_works n) (g1 (claw37_light n) (g1 (claw37_table n) (g1 (cref37_Release n) (g1 (claw37_ints n) (g1 (claw37_same n) (@g0 (Contract Try.prog)))))))
  refine contract_f (Try.f3.body.getD .skip) h00 Try.func3 rfl Try.call3 (by decide) (by intro _ r; exact ⟨rfl, by simp⟩) ?_
  rintro ⟨t, job⟩ r H
  try dsimp only at H
  unfold law37_EnqueueReleases at H
  simp only [Try.f3, Option.getD]
  refine rA ?_
  refine Sm.seqK fun K2 hK2 => ?_
  obtain ⟨r1, hr1, H⟩ := bind_some H
  have q := And.intro @xlaw37_works.eq_1 hr1
  refine rAq ?_
  refine cnd H (fun h4 H => ?_) (fun h4 H => ?_)
  · refine rA ?_
    refine Sm.ret ?_
    refine lf ?_
    obtain rfl := Option.some.inj H
    exact rt []
  refine Sm.skip ?_
  refine hK2 _ ?_
  refine Sm.seqK fun K6 hK6 => ?_
  obtain ⟨r2, hr2, H⟩ := bind_some H
  have q := And.intro @xlaw37_works.eq_1 (And.intro @xlaw37_light.eq_1 hr2)
  refine rAq ?_
  refine cnd H (fun h8 H => ?_) (fun h8 H => ?_)
  · refine rA ?_
    refine Sm.ret ?_
    refine lf ?_
    obtain rfl := Option.some.inj H
    exact rt []
  refine Sm.skip ?_
  refine hK6 _ ?_
  obtain ⟨r3, hr3, H⟩ := bind_some H
  have q := And.intro @xlaw37_works.eq_1 (And.intro @xlaw37_light.eq_1 (And.intro @xlaw37_table.eq_1 hr3))
  refine rAq ?_
  refine sX fun K11 hK11 => ?_
  obtain ⟨r4, hr4, H⟩ := bind_some H
  have q := hr4
  iterate 2 refine oX ?_
  refine oFCq (cenqueue_Release_R n _ _ r4 hr4) 352 [(true, [.slice 61, .slice 61]), (false, [.int .i64])] ?_
  iterate 8 refine oXq ?_
  refine hK11 _ ?_
  obtain ⟨r5, hr5, H⟩ := bind_some H
  have q := And.intro @xlaw37_works.eq_1 (And.intro @xlaw37_light.eq_1 (And.intro @xlaw37_table.eq_1 (And.intro @xref37_Release.eq_1 hr5)))
  refine rAq ?_
  refine Sm.seqK fun K13 hK13 => ?_
  obtain ⟨⟨hg19, hg20⟩, H⟩ := gd_some H
  have q := And.intro @xlaw37_works.eq_1 (And.intro @xlaw37_light.eq_1 (And.intro @xlaw37_table.eq_1 (And.intro @xref37_Release.eq_1 (And.intro @xlaw37_ints.eq_1 @xlaw37_same.eq_1))))
  refine rAq ?_
  refine cnd H (fun h15 H => ?_) (fun h15 H => ?_)
  · refine rA ?_
    refine Sm.ret ?_
    refine lf ?_
    obtain rfl := Option.some.inj H
    exact rt []
  refine Sm.skip ?_
  refine hK13 _ ?_
  refine sX fun K17 hK17 => ?_
  obtain ⟨r6, hr6, H⟩ := bind_some H
  have q := hr6
  refine oX ?_
  refine oMq (claw37_spoil_R n _ r6 hr6) [352] [] ?_
  refine hK17 _ ?_
  obtain ⟨r7, hr7, H⟩ := bind_some H
  have q := And.intro @xlaw37_works.eq_1 (And.intro @xlaw37_light.eq_1 (And.intro @xlaw37_table.eq_1 (And.intro @xref37_Release.eq_1 (And.intro @xlaw37_ints.eq_1 (And.intro @xlaw37_same.eq_1 hr7)))))
  refine rAq ?_
  refine Sm.ret ?_
  refine lf ?_
  obtain rfl := Option.some.inj H
  exact rt []
end Go.Proofs.Ytcdofkflbnpjjaa
