/-
  The functions of the seat, as functions; their contracts.
-/
import Derived.Test.YtcdofkflbnpjjaaDoorT
import Derived.Test.YtcdofkflbnpjjaaDoorL39
import Derived.Test.YtcdofkflbnpjjaaDoorN
set_option maxHeartbeats 8000000
set_option linter.unusedVariables false
set_option linter.unusedSimpArgs false
set_option maxRecDepth 100000
namespace Go.Proofs.YtcdofkflbnpjjaaDoor
open Go.AE
def law37_one (n : Nat) (name : List UInt8) (exclusive : Bool) : Option (List TWant) :=
  some [(⟨name, exclusive⟩ : TWant)]

def xlaw37_one (n : Nat) : Go.AE.Fn := mkFn (A := (List UInt8) × Bool) (R := (List TWant)) 10 [(false, [.str]), (false, [.bool])] false (fun xs => ((cg (xs.getD 0 []) 0).toStr, (cg (xs.getD 1 []) 0).toBool)) (fun a => [[.str a.1], [.bool a.2]]) (fun a => law37_one n a.1 a.2) (fun r => [.own 0 [.str, .bool] 0 r.length]) (fun r => [.row 44 (List.map e_TWant r)])

theorem claw37_one (n : Nat) : Contract Tryd.prog (xlaw37_one n) := by
  have hΓ : ∀ g, g ∈ ([] : List Go.AE.Fn) → Contract Tryd.prog g := by simp
  refine contract_f (Tryd.f10.body.getD .skip) h00 Tryd.func10 rfl (by intro args w; exact Tryd.call10 args w) (by decide) (by
    intro _ r; refine ⟨rfl, ?_⟩; simp only [List.mem_cons, List.not_mem_nil, or_false]; rintro _ rfl
    · exact ⟨44, _, _, rfl, ty44, rfl⟩) ?_
  rintro ⟨name, exclusive⟩ r H
  try dsimp only at H
  unfold law37_one at H
  simp only [Tryd.f10, Option.getD]
  refine Sm.seqA h00 mixed hΓ (by kernel_rfl) fun K1 hK1 => ?_
  simp only [rs]
  repeat (refine opsG fun K hK => ?_; simp only [z, seval]; (repeat (first | refine gcI ?_ | refine fun (_ : _ ≤ _) => ?_)); refine hK _ ?_; clear hK K)
  refine hK1 _ ?_
  refine Sm.seqA h00 mixed hΓ (by kernel_rfl) fun K2 hK2 => ?_
  simp only [rs]
  repeat (refine opsG fun K hK => ?_; simp only [z, seval]; (repeat (first | refine gcI ?_ | refine fun (_ : _ ≤ _) => ?_)); refine hK _ ?_; clear hK K)
  refine hK2 _ ?_
  refine Sm.ret ?_
  try simp only [seval, Exit.exit.injEq]
  obtain rfl := Option.some.inj H
  refine Ret.ofR [some 128] (.inr rfl) ?_
  simp only [z, seval]
  try omega

abbrev enqueue_Request__normal_s1 (r_ : TRequest) : S := stB [(1, .box 9000 0)] [(9000, .box [.c (.int .i64) (.int r_.Job), .c (.slice 44) (.slice (List.map e_TWant r_.Wants))])]

def enqueue_Request__normal_k1 (n : Nat) (r_ : TRequest) : Option Bool :=
  some (decide ((r_.Wants.length : Int) ≤ 512))

abbrev enqueue_Request__normal_t2 (r_ : TRequest) (k : Int) : S := stB [(1, .box 9002 0), (3, .c (.int .i64) (.int k))] [(9002, .box [.c (.int .i64) (.int r_.Job), .c (.slice 44) (.slice (List.map e_TWant r_.Wants))])]

def enqueue_Request__normal_b2 (n : Nat) (r_ : TRequest) (k : Int) : Option ((Int) ⊕ (((Bool) ⊕ (Unit)))) :=
  bif (decide (k < (r_.Wants.length : Int))) then
    gd ((0 ≤ (IntKind.wrap .i64 (k - 1)) ∧ (IntKind.wrap .i64 (k - 1)) < (r_.Wants.length : Int)) ∧ (0 ≤ k ∧ k < (r_.Wants.length : Int))) <|
    bif (!Op.bytesLess ((gt r_.Wants (Int.toNat (IntKind.wrap .i64 (k - 1)))).Name) ((gt r_.Wants (Int.toNat k)).Name)) then
      some (.inr (.inl false))
    else
      some (.inl (IntKind.wrap .i64 (k + 1)))
  else
    some (.inr (.inr ()))

def enqueue_Request__normal (n : Nat) (r_ : TRequest) : Option Bool :=
  (loopF (fun (x : Int) => enqueue_Request__normal_b2 n r_ x) n 1).bind fun y4 =>
  match y4 with
  | .inl v =>
    some v
  | .inr v =>
    enqueue_Request__normal_k1 n r_

def xenqueue_Request__normal (n : Nat) : Go.AE.Fn := mkFn (A := TRequest) (R := Bool) 42 [(true, [.int .i64, .slice 44])] false (fun xs => (⟨(cg (xs.getD 0 []) 0).toInt, ((cg (xs.getD 0 []) 1).toSl.map d_TWant)⟩ : TRequest)) (fun a => [[.int a.Job, .slice (List.map e_TWant a.Wants)]]) (fun a => enqueue_Request__normal n a) (fun r => [.c .bool (.bool r)]) (fun r => [])

theorem cenqueue_Request__normal (n : Nat) : Contract Tryd.prog (xenqueue_Request__normal n) := by
  have hΓ : ∀ g, g ∈ ([] : List Go.AE.Fn) → Contract Tryd.prog g := by simp
  refine contract_f (Tryd.f42.body.getD .skip) h00 Tryd.func42 rfl (by intro args w; exact Tryd.call42 args w) (by decide) (by intro _ r; exact ⟨rfl, by simp⟩) ?_
  rintro r_ r H
  try dsimp only at H
  unfold enqueue_Request__normal at H
  simp only [Tryd.f42, Option.getD]
  refine Sm.seqA h00 mixed hΓ (by kernel_rfl) fun K1 hK1 => ?_
  simp only [rs]
  repeat (refine opsG fun K hK => ?_; simp only [z, seval]; (repeat (first | refine gcI ?_ | refine fun (_ : _ ≤ _) => ?_)); refine hK _ ?_; clear hK K)
  refine hK1 _ ?_
  refine Sm.cut (fun (x : Unit) => enqueue_Request__normal_s1 r_) (fun x => enqueue_Request__normal_k1 n r_ = some r) ?_ ?_
  · refine Sm.seqA h00 mixed hΓ (by kernel_rfl) fun K3 hK3 => ?_
    simp only [rs]
    repeat (refine opsG fun K hK => ?_; simp only [z, seval]; (repeat (first | refine gcI ?_ | refine fun (_ : _ ≤ _) => ?_)); refine hK _ ?_; clear hK K)
    refine hK3 _ ?_
    refine Sm.block ?_
    obtain ⟨y4, hy4, Ho4⟩ := bind_some H
    refine Sm.loopB (fun (x : Int) => enqueue_Request__normal_b2 n r_ x) (fun x => enqueue_Request__normal_t2 r_ x) hy4 ?_ ?_
    · exact weak_b [some 16] rfl rfl rfl (by simp only [wk, z, seval]) (by simp only [wk, z, seval])
    rintro k z4 H
    try dsimp only at H
    unfold enqueue_Request__normal_b2 at H
    refine Sm.seqK fun K5 hK5 => ?_
    refine Sm.seqA h00 mixed hΓ (by kernel_rfl) fun K6 hK6 => ?_
    simp only [rs]
    repeat (refine opsG fun K hK => ?_; simp only [z, seval, enqueue_Request__normal_t2]; (repeat (first | refine gcI ?_ | refine fun (_ : _ ≤ _) => ?_)); refine hK _ ?_; clear hK K)
    refine hK6 _ ?_
    refine Sm.condK (by rfl) fun Ka Kb ha hb => ?_
    simp only [wpCond, z, seval, enqueue_Request__normal_t2]
    refine ⟨fun h7 => ha ?_, fun h7 => hb ?_⟩
    · first | replace H := bif_t h7 H | replace H := bif_t2 h7 H (by simp only [List.length_append])
      refine Sm.skip ?_
      refine hK5 _ ?_
      refine Sm.seqK fun K8 hK8 => ?_
      refine Sm.block ?_
      obtain ⟨⟨hg12, hg13⟩, H⟩ := gd_some H
      refine Sm.seqD h00 mixed hΓ (by kernel_rfl) fun K9 hK9 => ?_
      simp only [rs]
      repeat (refine opsH fun K hK => ?_; simp only [z, seval, enqueue_Request__normal_t2]; (repeat (first | refine gcI ?_ | refine fun (_ : _ ≤ _) => ?_)); refine hK _ ?_; clear hK K)
      refine hK9 _ ?_
      refine Sm.condK (by rfl) fun Ka Kb ha hb => ?_
      simp only [wpCond, z, seval, enqueue_Request__normal_t2]
      refine ⟨fun h10 => ha ?_, fun h10 => hb ?_⟩
      · first | replace H := bif_t h10 H | replace H := bif_t2 h10 H (by simp only [List.length_append])
        refine Sm.seqA h00 mixed hΓ (by kernel_rfl) fun K11 hK11 => ?_
        simp only [rs]
        repeat (refine opsG fun K hK => ?_; simp only [z, seval, enqueue_Request__normal_t2]; (repeat (first | refine gcI ?_ | refine fun (_ : _ ≤ _) => ?_)); refine hK _ ?_; clear hK K)
        refine hK11 _ ?_
        refine Sm.ret ?_
        try simp only [seval, Exit.exit.injEq]
        refine ⟨⟨_, (Option.some.inj H).symm⟩, fun hz => ?_⟩
        have hyy := Sum.inr.inj ((Option.some.inj H).trans hz)
        subst hyy
        have H := Ho4
        try dsimp only at H
        try simp only [seval, Exit.exit.injEq]
        obtain rfl := Option.some.inj H
        refine Ret.ofR [] (.inr rfl) ?_
        simp only [z, seval, enqueue_Request__normal_t2]
      first | replace H := bif_f h10 H | replace H := bif_f2 h10 H (by simp only [List.length_append])
      refine Sm.skip ?_
      refine hK8 _ ?_
      refine Sm.regA h00 mixed hΓ (by kernel_rfl) ?_
      simp only [rs]
      repeat (refine opsG fun K hK => ?_; simp only [z, seval, enqueue_Request__normal_t2]; (repeat (first | refine gcI ?_ | refine fun (_ : _ ≤ _) => ?_)); refine hK _ ?_; clear hK K)
      refine opsG0 ?_
      try simp only [seval, Exit.exit.injEq]
      refine ⟨_, (Option.some.inj H).symm, ?_⟩
      exact weak_b [some 9002] rfl rfl rfl (by simp only [wk, z, seval, enqueue_Request__normal_t2]) (by simp only [wk, z, seval, enqueue_Request__normal_t2])
    first | replace H := bif_f h7 H | replace H := bif_f2 h7 H (by simp only [List.length_append])
    refine Sm.exit ?_
    try simp only [seval, Exit.exit.injEq]
    refine ⟨⟨_, (Option.some.inj H).symm⟩, fun hz => ?_⟩
    have hyy := Sum.inr.inj ((Option.some.inj H).trans hz)
    subst hyy
    have H := Ho4
    try dsimp only at H
    try simp only [seval, Exit.exit.injEq]
    refine ⟨(), H, ?_⟩
    exact weak_b [some 9002] rfl rfl rfl (by simp only [wk, z, seval, enqueue_Request__normal_t2]) (by simp only [wk, z, seval, enqueue_Request__normal_t2])
  rintro ⟨⟩ H
  try dsimp only at H
  unfold enqueue_Request__normal_k1 at H
  refine Sm.seqA h00 mixed hΓ (by kernel_rfl) fun K2 hK2 => ?_
  simp only [rs]
  repeat (refine opsG fun K hK => ?_; simp only [z, seval, enqueue_Request__normal_s1]; (repeat (first | refine gcI ?_ | refine fun (_ : _ ≤ _) => ?_)); refine hK _ ?_; clear hK K)
  refine hK2 _ ?_
  refine Sm.ret ?_
  try simp only [seval, Exit.exit.injEq]
  obtain rfl := Option.some.inj H
  refine Ret.ofR [] (.inr rfl) ?_
  simp only [z, seval, enqueue_Request__normal_s1]

def enqueue_Request__blocked_1_1_1_M1 (n : Nat) (b : TWant) (p1 : List UInt8) (p1_ : Bool) : Option Bool :=
  gd ((((p1 == b.Name) && !p1_) = true → ((p1 == b.Name) && (!p1_)) = true)) <|
  some (if (p1 == b.Name) = true then (if p1_ = true then true else b.Exclusive) else false)

theorem cenqueue_Request__blocked_1_1_1_M1 (n : Nat) (b : TWant) (p1 : List UInt8) (p1_ : Bool) (r : Bool) (H : enqueue_Request__blocked_1_1_1_M1 n b p1 p1_ = some r) : CallsM Tryd.prog 50 [.dat (true, [.str, .bool]) [.str b.Name, .bool b.Exclusive], .ref (.box 0 0)] [.box [.c .str (.str p1), .c .bool (.bool p1_)]] [.c .bool (.bool r)] [.box [.c .str (.str p1), .c .bool (.bool p1_)]] := by
  have hΓ : ∀ g, g ∈ ([] : List Go.AE.Fn) → Contract Tryd.prog g := by simp
  refine callsM_of (Tryd.f50.body.getD .skip) h00 Tryd.func50 rfl (by intro args w; exact Tryd.call50 args w) (Nat.le_of_ble_eq_true rfl) (Nat.le_of_ble_eq_true rfl) ?_
  unfold enqueue_Request__blocked_1_1_1_M1 at H
  simp only [Tryd.f50, Option.getD]
  refine Sm.seqA h00 mixed hΓ (by kernel_rfl) fun K1 hK1 => ?_
  simp only [rs]
  repeat (refine opsG fun K hK => ?_; simp only [z, seval]; (repeat (first | refine gcI ?_ | refine fun (_ : _ ≤ _) => ?_)); refine hK _ ?_; clear hK K)
  refine hK1 _ ?_
  obtain ⟨hg3, H⟩ := gd_some H
  refine Sm.seqA h00 mixed hΓ (by kernel_rfl) fun K2 hK2 => ?_
  simp only [rs]
  repeat (refine opsG fun K hK => ?_; simp only [z, seval]; (repeat (first | refine gcI ?_ | refine fun (_ : _ ≤ _) => ?_)); refine hK _ ?_; clear hK K)
  refine hK2 _ ?_
  refine Sm.ret ?_
  try simp only [seval, Exit.exit.injEq]
  obtain rfl := Option.some.inj H
  refine RetM.mk (.inr rfl) [some 0] rfl ?_
  simp only [z, seval]

abbrev slices_IndexFunc_f66_M2_s1 (f : List UInt8) (f_ : Bool) : S := stB [] [(0, .box [.c .str (.str f), .c .bool (.bool f_)])]

def slices_IndexFunc_f66_M2_k1 (n : Nat) (f : List UInt8) (f_ : Bool) : Option Int :=
  some (-1)

abbrev slices_IndexFunc_f66_M2_t2 (f : List UInt8) (f_ : Bool) (s : List TWant) (v7 : Int) (v8 : Int) : S := stB [(0, .c (.slice 44) (.slice (List.map e_TWant s))), (1, .fnv 50 [.box 0 0]), (7, .c (.int .i64) (.int v7)), (8, .c (.int .i64) (.int v8))] [(0, .box [.c .str (.str f), .c .bool (.bool f_)])]

def slices_IndexFunc_f66_M2_b2 (n : Nat) (f : List UInt8) (f_ : Bool) (s : List TWant) (v7 : Int) (v8 : Int) : Option ((Int) ⊕ (((Int) ⊕ (Unit)))) :=
  bif (decide (v8 < v7)) then
    gd ((0 ≤ v8 ∧ v8 < (s.length : Int))) <|
    (enqueue_Request__blocked_1_1_1_M1 n (gt s (Int.toNat v8)) f f_).bind fun r1 =>
    bif r1 then
      some (.inr (.inl v8))
    else
      some (.inl (IntKind.wrap .i64 (v8 + 1)))
  else
    some (.inr (.inr ()))

def slices_IndexFunc_f66_M2 (n : Nat) (s : List TWant) (f : List UInt8) (f_ : Bool) : Option Int :=
  (loopF (fun (x : Int) => slices_IndexFunc_f66_M2_b2 n f f_ s (s.length : Int) x) n 0).bind fun y4 =>
  match y4 with
  | .inl v =>
    some v
  | .inr v =>
    slices_IndexFunc_f66_M2_k1 n f f_

theorem cslices_IndexFunc_f66_M2 (n : Nat) (s : List TWant) (f : List UInt8) (f_ : Bool) (r : Int) (H : slices_IndexFunc_f66_M2 n s f f_ = some r) : CallsM Tryd.prog 66 [.dat (false, [.slice 44]) [.slice (List.map e_TWant s)], .ref (.fnv 50 [.box 0 0])] [.box [.c .str (.str f), .c .bool (.bool f_)]] [.c (.int .i64) (.int r)] [.box [.c .str (.str f), .c .bool (.bool f_)]] := by
  have hΓ : ∀ g, g ∈ ([] : List Go.AE.Fn) → Contract Tryd.prog g := by simp
  refine callsM_of (Tryd.f66.body.getD .skip) h00 Tryd.func66 rfl (by intro args w; exact Tryd.call66 args w) (Nat.le_of_ble_eq_true rfl) (Nat.le_of_ble_eq_true rfl) ?_
  unfold slices_IndexFunc_f66_M2 at H
  simp only [Tryd.f66, Option.getD]
  refine Sm.seqA h00 mixed hΓ (by kernel_rfl) fun K1 hK1 => ?_
  simp only [rs]
  repeat (refine opsG fun K hK => ?_; simp only [z, seval]; (repeat (first | refine gcI ?_ | refine fun (_ : _ ≤ _) => ?_)); refine hK _ ?_; clear hK K)
  refine hK1 _ ?_
  refine Sm.cut (fun (x : Unit) => slices_IndexFunc_f66_M2_s1 f f_) (fun x => slices_IndexFunc_f66_M2_k1 n f f_ = some r) ?_ ?_
  · refine Sm.seqA h00 mixed hΓ (by kernel_rfl) fun K3 hK3 => ?_
    simp only [rs]
    repeat (refine opsG fun K hK => ?_; simp only [z, seval]; (repeat (first | refine gcI ?_ | refine fun (_ : _ ≤ _) => ?_)); refine hK _ ?_; clear hK K)
    refine hK3 _ ?_
    refine Sm.block ?_
    obtain ⟨y4, hy4, Ho4⟩ := bind_some H
    refine Sm.loopB (fun (x : Int) => slices_IndexFunc_f66_M2_b2 n f f_ s (s.length : Int) x) (fun x => slices_IndexFunc_f66_M2_t2 f f_ s (s.length : Int) x) hy4 ?_ ?_
    · exact weak_b [some 0] rfl rfl rfl (by simp only [wk, z, seval]) (by simp only [wk, z, seval])
    rintro v8 z4 H
    try dsimp only at H
    unfold slices_IndexFunc_f66_M2_b2 at H
    refine Sm.seqA h00 mixed hΓ (by kernel_rfl) fun K5 hK5 => ?_
    simp only [rs]
    repeat (refine opsG fun K hK => ?_; simp only [z, seval, slices_IndexFunc_f66_M2_t2]; (repeat (first | refine gcI ?_ | refine fun (_ : _ ≤ _) => ?_)); refine hK _ ?_; clear hK K)
    refine hK5 _ ?_
    refine Sm.seqK fun K6 hK6 => ?_
    refine Sm.condK (by rfl) fun Ka Kb ha hb => ?_
    simp only [wpCond, z, seval, slices_IndexFunc_f66_M2_t2]
    refine ⟨fun h7 => ha ?_, fun h7 => hb ?_⟩
    · first | replace H := bif_t h7 H | replace H := bif_t2 h7 H (by simp only [List.length_append])
      refine Sm.skip ?_
      refine hK6 _ ?_
      refine Sm.seqK fun K8 hK8 => ?_
      refine Sm.block ?_
      refine Sm.seqA h00 mixed hΓ (by kernel_rfl) fun K9 hK9 => ?_
      simp only [rs]
      repeat (refine opsG fun K hK => ?_; simp only [z, seval, slices_IndexFunc_f66_M2_t2]; (repeat (first | refine gcI ?_ | refine fun (_ : _ ≤ _) => ?_)); refine hK _ ?_; clear hK K)
      refine hK9 _ ?_
      refine Sm.seqX h00 mixed hΓ (by kernel_rfl) fun K10 hK10 => ?_
      simp only [rs]
      obtain ⟨hg11, H⟩ := gd_some H
      obtain ⟨r1, hr1, H⟩ := bind_some H
      iterate 5 (refine opsX fun K hK => ?_; simp only [z, seval, slices_IndexFunc_f66_M2_t2]; (repeat (first | refine gcI ?_ | refine fun (_ : _ ≤ _) => ?_)); refine hK _ ?_; clear hK K)
      refine opsM (cenqueue_Request__blocked_1_1_1_M1 n _ _ _ r1 hr1) [0] [] (by simp only [z, seval, slices_IndexFunc_f66_M2_t2, hr1]; try rfl) (by simp only [z, seval, slices_IndexFunc_f66_M2_t2, hr1]) (by simp only [z, seval, slices_IndexFunc_f66_M2_t2, hr1]) (by simp only [z, seval, slices_IndexFunc_f66_M2_t2, hr1]) (by simp only [z, seval, slices_IndexFunc_f66_M2_t2, hr1]) rfl (by simp only [z, seval, slices_IndexFunc_f66_M2_t2, hr1]) rfl ?_
      refine hK10 _ ?_
      refine Sm.condK (by rfl) fun Ka Kb ha hb => ?_
      simp only [wpCond, z, seval, slices_IndexFunc_f66_M2_t2]
      refine ⟨fun h12 => ha ?_, fun h12 => hb ?_⟩
      · first | replace H := bif_t h12 H | replace H := bif_t2 h12 H (by simp only [List.length_append])
        refine Sm.seqA h00 mixed hΓ (by kernel_rfl) fun K13 hK13 => ?_
        simp only [rs]
        repeat (refine opsG fun K hK => ?_; simp only [z, seval, slices_IndexFunc_f66_M2_t2]; (repeat (first | refine gcI ?_ | refine fun (_ : _ ≤ _) => ?_)); refine hK _ ?_; clear hK K)
        refine hK13 _ ?_
        refine Sm.ret ?_
        try simp only [seval, Exit.exit.injEq]
        refine ⟨⟨_, (Option.some.inj H).symm⟩, fun hz => ?_⟩
        have hyy := Sum.inr.inj ((Option.some.inj H).trans hz)
        subst hyy
        have H := Ho4
        try dsimp only at H
        try simp only [seval, Exit.exit.injEq]
        obtain rfl := Option.some.inj H
        refine RetM.mk (.inr rfl) [some 0] rfl ?_
        simp only [z, seval, slices_IndexFunc_f66_M2_t2]
      first | replace H := bif_f h12 H | replace H := bif_f2 h12 H (by simp only [List.length_append])
      refine Sm.skip ?_
      refine hK8 _ ?_
      refine Sm.regA h00 mixed hΓ (by kernel_rfl) ?_
      simp only [rs]
      repeat (refine opsG fun K hK => ?_; simp only [z, seval, slices_IndexFunc_f66_M2_t2]; (repeat (first | refine gcI ?_ | refine fun (_ : _ ≤ _) => ?_)); refine hK _ ?_; clear hK K)
      refine opsG0 ?_
      try simp only [seval, Exit.exit.injEq]
      refine ⟨_, (Option.some.inj H).symm, ?_⟩
      exact weak_b [some 0] rfl rfl rfl (by simp only [wk, z, seval, slices_IndexFunc_f66_M2_t2]) (by simp only [wk, z, seval, slices_IndexFunc_f66_M2_t2])
    first | replace H := bif_f h7 H | replace H := bif_f2 h7 H (by simp only [List.length_append])
    refine Sm.exit ?_
    try simp only [seval, Exit.exit.injEq]
    refine ⟨⟨_, (Option.some.inj H).symm⟩, fun hz => ?_⟩
    have hyy := Sum.inr.inj ((Option.some.inj H).trans hz)
    subst hyy
    have H := Ho4
    try dsimp only at H
    try simp only [seval, Exit.exit.injEq]
    refine ⟨(), H, ?_⟩
    exact weak_b [some 0] rfl rfl rfl (by simp only [wk, z, seval, slices_IndexFunc_f66_M2_t2]) (by simp only [wk, z, seval, slices_IndexFunc_f66_M2_t2])
  rintro ⟨⟩ H
  try dsimp only at H
  unfold slices_IndexFunc_f66_M2_k1 at H
  refine Sm.seqA h00 mixed hΓ (by kernel_rfl) fun K2 hK2 => ?_
  simp only [rs]
  repeat (refine opsG fun K hK => ?_; simp only [z, seval, slices_IndexFunc_f66_M2_s1]; (repeat (first | refine gcI ?_ | refine fun (_ : _ ≤ _) => ?_)); refine hK _ ?_; clear hK K)
  refine hK2 _ ?_
  refine Sm.ret ?_
  try simp only [seval, Exit.exit.injEq]
  obtain rfl := Option.some.inj H
  refine RetM.mk (.inr rfl) [some 0] rfl ?_
  simp only [z, seval, slices_IndexFunc_f66_M2_s1]

def enqueue_some_f48_M2 (n : Nat) (l : List TWant) (has : List UInt8) (has_ : Bool) : Option Bool :=
  (slices_IndexFunc_f66_M2 n l has has_).bind fun r1 =>
  some (decide (r1 ≥ 0))

theorem cenqueue_some_f48_M2 (n : Nat) (l : List TWant) (has : List UInt8) (has_ : Bool) (r : Bool) (H : enqueue_some_f48_M2 n l has has_ = some r) : CallsM Tryd.prog 48 [.dat (false, [.slice 44]) [.slice (List.map e_TWant l)], .ref (.fnv 50 [.box 0 0])] [.box [.c .str (.str has), .c .bool (.bool has_)]] [.c .bool (.bool r)] [.box [.c .str (.str has), .c .bool (.bool has_)]] := by
  have hΓ : ∀ g, g ∈ ([] : List Go.AE.Fn) → Contract Tryd.prog g := by simp
  refine callsM_of (Tryd.f48.body.getD .skip) h00 Tryd.func48 rfl (by intro args w; exact Tryd.call48 args w) (Nat.le_of_ble_eq_true rfl) (Nat.le_of_ble_eq_true rfl) ?_
  unfold enqueue_some_f48_M2 at H
  simp only [Tryd.f48, Option.getD]
  refine Sm.seqA h00 mixed hΓ (by kernel_rfl) fun K1 hK1 => ?_
  simp only [rs]
  repeat (refine opsG fun K hK => ?_; simp only [z, seval]; (repeat (first | refine gcI ?_ | refine fun (_ : _ ≤ _) => ?_)); refine hK _ ?_; clear hK K)
  refine hK1 _ ?_
  refine Sm.seqX h00 mixed hΓ (by kernel_rfl) fun K2 hK2 => ?_
  simp only [rs]
  obtain ⟨r1, hr1, H⟩ := bind_some H
  iterate 2 (refine opsX fun K hK => ?_; simp only [z, seval]; (repeat (first | refine gcI ?_ | refine fun (_ : _ ≤ _) => ?_)); refine hK _ ?_; clear hK K)
  refine opsM (cslices_IndexFunc_f66_M2 n _ _ _ r1 hr1) [0] [] (by simp only [z, seval, hr1]; try rfl) (by simp only [z, seval, hr1]) (by simp only [z, seval, hr1]) (by simp only [z, seval, hr1]) (by simp only [z, seval, hr1]) rfl (by simp only [z, seval, hr1]) rfl ?_
  iterate 2 (refine opsX fun K hK => ?_; simp only [z, seval, hr1]; (repeat (first | refine gcI ?_ | refine fun (_ : _ ≤ _) => ?_)); refine hK _ ?_; clear hK K)
  refine hK2 _ ?_
  refine Sm.ret ?_
  try simp only [seval, Exit.exit.injEq]
  obtain rfl := Option.some.inj H
  refine RetM.mk (.inr rfl) [some 0] rfl ?_
  simp only [z, seval]

def enqueue_Request__blocked_1_1_M1 (n : Nat) (a : TWant) (p1 : Int) (p1_ : List TWant) : Option Bool :=
  (enqueue_some_f48_M2 n p1_ a.Name a.Exclusive).bind fun r1 =>
  some r1

theorem cenqueue_Request__blocked_1_1_M1 (n : Nat) (a : TWant) (p1 : Int) (p1_ : List TWant) (r : Bool) (H : enqueue_Request__blocked_1_1_M1 n a p1 p1_ = some r) : CallsM Tryd.prog 49 [.dat (true, [.str, .bool]) [.str a.Name, .bool a.Exclusive], .ref (.box 0 0)] [.box [.c (.int .i64) (.int p1), .c (.slice 44) (.slice (List.map e_TWant p1_))]] [.c .bool (.bool r)] [.box [.c (.int .i64) (.int p1), .c (.slice 44) (.slice (List.map e_TWant p1_))]] := by
  have hΓ : ∀ g, g ∈ ([] : List Go.AE.Fn) → Contract Tryd.prog g := by simp
  refine callsM_of (Tryd.f49.body.getD .skip) h00 Tryd.func49 rfl (by intro args w; exact Tryd.call49 args w) (Nat.le_of_ble_eq_true rfl) (Nat.le_of_ble_eq_true rfl) ?_
  unfold enqueue_Request__blocked_1_1_M1 at H
  simp only [Tryd.f49, Option.getD]
  refine Sm.seqA h00 mixed hΓ (by kernel_rfl) fun K1 hK1 => ?_
  simp only [rs]
  repeat (refine opsG fun K hK => ?_; simp only [z, seval]; (repeat (first | refine gcI ?_ | refine fun (_ : _ ≤ _) => ?_)); refine hK _ ?_; clear hK K)
  refine hK1 _ ?_
  refine Sm.seqX h00 mixed hΓ (by kernel_rfl) fun K2 hK2 => ?_
  simp only [rs]
  obtain ⟨r1, hr1, H⟩ := bind_some H
  iterate 2 (refine opsX fun K hK => ?_; simp only [z, seval]; (repeat (first | refine gcI ?_ | refine fun (_ : _ ≤ _) => ?_)); refine hK _ ?_; clear hK K)
  refine opsY fun K hK => ?_; simp only [z, seval]; (repeat (first | refine gcI ?_ | refine fun (_ : _ ≤ _) => ?_)); refine hK _ ?_; clear hK K
  refine opsM (cenqueue_some_f48_M2 n _ _ _ r1 hr1) [32] [] (by simp only [z, seval, hr1]; try rfl) (by simp only [z, seval, hr1]) (by simp only [z, seval, hr1]) (by simp only [z, seval, hr1]) (by simp only [z, seval, hr1]) rfl (by simp only [z, seval, hr1]) rfl ?_
  (refine opsX fun K hK => ?_; simp only [z, seval, hr1]; (repeat (first | refine gcI ?_ | refine fun (_ : _ ≤ _) => ?_)); refine hK _ ?_; clear hK K)
  refine hK2 _ ?_
  refine Sm.ret ?_
  try simp only [seval, Exit.exit.injEq]
  obtain rfl := Option.some.inj H
  refine RetM.mk (.inr rfl) [some 0] rfl ?_
  simp only [z, seval]

abbrev slices_IndexFunc_f66_M1_s1 (f : Int) (f_ : List TWant) : S := stB [] [(0, .box [.c (.int .i64) (.int f), .c (.slice 44) (.slice (List.map e_TWant f_))])]

def slices_IndexFunc_f66_M1_k1 (n : Nat) (f : Int) (f_ : List TWant) : Option Int :=
  some (-1)

abbrev slices_IndexFunc_f66_M1_t2 (f : Int) (f_ : List TWant) (s : List TWant) (v7 : Int) (v8 : Int) : S := stB [(0, .c (.slice 44) (.slice (List.map e_TWant s))), (1, .fnv 49 [.box 0 0]), (7, .c (.int .i64) (.int v7)), (8, .c (.int .i64) (.int v8))] [(0, .box [.c (.int .i64) (.int f), .c (.slice 44) (.slice (List.map e_TWant f_))])]

def slices_IndexFunc_f66_M1_b2 (n : Nat) (f : Int) (f_ : List TWant) (s : List TWant) (v7 : Int) (v8 : Int) : Option ((Int) ⊕ (((Int) ⊕ (Unit)))) :=
  bif (decide (v8 < v7)) then
    gd ((0 ≤ v8 ∧ v8 < (s.length : Int))) <|
    (enqueue_Request__blocked_1_1_M1 n (gt s (Int.toNat v8)) f f_).bind fun r1 =>
    bif r1 then
      some (.inr (.inl v8))
    else
      some (.inl (IntKind.wrap .i64 (v8 + 1)))
  else
    some (.inr (.inr ()))

def slices_IndexFunc_f66_M1 (n : Nat) (s : List TWant) (f : Int) (f_ : List TWant) : Option Int :=
  (loopF (fun (x : Int) => slices_IndexFunc_f66_M1_b2 n f f_ s (s.length : Int) x) n 0).bind fun y4 =>
  match y4 with
  | .inl v =>
    some v
  | .inr v =>
    slices_IndexFunc_f66_M1_k1 n f f_

theorem cslices_IndexFunc_f66_M1 (n : Nat) (s : List TWant) (f : Int) (f_ : List TWant) (r : Int) (H : slices_IndexFunc_f66_M1 n s f f_ = some r) : CallsM Tryd.prog 66 [.dat (false, [.slice 44]) [.slice (List.map e_TWant s)], .ref (.fnv 49 [.box 0 0])] [.box [.c (.int .i64) (.int f), .c (.slice 44) (.slice (List.map e_TWant f_))]] [.c (.int .i64) (.int r)] [.box [.c (.int .i64) (.int f), .c (.slice 44) (.slice (List.map e_TWant f_))]] := by
  have hΓ : ∀ g, g ∈ ([] : List Go.AE.Fn) → Contract Tryd.prog g := by simp
  refine callsM_of (Tryd.f66.body.getD .skip) h00 Tryd.func66 rfl (by intro args w; exact Tryd.call66 args w) (Nat.le_of_ble_eq_true rfl) (Nat.le_of_ble_eq_true rfl) ?_
  unfold slices_IndexFunc_f66_M1 at H
  simp only [Tryd.f66, Option.getD]
  refine Sm.seqA h00 mixed hΓ (by kernel_rfl) fun K1 hK1 => ?_
  simp only [rs]
  repeat (refine opsG fun K hK => ?_; simp only [z, seval]; (repeat (first | refine gcI ?_ | refine fun (_ : _ ≤ _) => ?_)); refine hK _ ?_; clear hK K)
  refine hK1 _ ?_
  refine Sm.cut (fun (x : Unit) => slices_IndexFunc_f66_M1_s1 f f_) (fun x => slices_IndexFunc_f66_M1_k1 n f f_ = some r) ?_ ?_
  · refine Sm.seqA h00 mixed hΓ (by kernel_rfl) fun K3 hK3 => ?_
    simp only [rs]
    repeat (refine opsG fun K hK => ?_; simp only [z, seval]; (repeat (first | refine gcI ?_ | refine fun (_ : _ ≤ _) => ?_)); refine hK _ ?_; clear hK K)
    refine hK3 _ ?_
    refine Sm.block ?_
    obtain ⟨y4, hy4, Ho4⟩ := bind_some H
    refine Sm.loopB (fun (x : Int) => slices_IndexFunc_f66_M1_b2 n f f_ s (s.length : Int) x) (fun x => slices_IndexFunc_f66_M1_t2 f f_ s (s.length : Int) x) hy4 ?_ ?_
    · exact weak_b [some 0] rfl rfl rfl (by simp only [wk, z, seval]) (by simp only [wk, z, seval])
    rintro v8 z4 H
    try dsimp only at H
    unfold slices_IndexFunc_f66_M1_b2 at H
    refine Sm.seqA h00 mixed hΓ (by kernel_rfl) fun K5 hK5 => ?_
    simp only [rs]
    repeat (refine opsG fun K hK => ?_; simp only [z, seval, slices_IndexFunc_f66_M1_t2]; (repeat (first | refine gcI ?_ | refine fun (_ : _ ≤ _) => ?_)); refine hK _ ?_; clear hK K)
    refine hK5 _ ?_
    refine Sm.seqK fun K6 hK6 => ?_
    refine Sm.condK (by rfl) fun Ka Kb ha hb => ?_
    simp only [wpCond, z, seval, slices_IndexFunc_f66_M1_t2]
    refine ⟨fun h7 => ha ?_, fun h7 => hb ?_⟩
    · first | replace H := bif_t h7 H | replace H := bif_t2 h7 H (by simp only [List.length_append])
      refine Sm.skip ?_
      refine hK6 _ ?_
      refine Sm.seqK fun K8 hK8 => ?_
      refine Sm.block ?_
      refine Sm.seqA h00 mixed hΓ (by kernel_rfl) fun K9 hK9 => ?_
      simp only [rs]
      repeat (refine opsG fun K hK => ?_; simp only [z, seval, slices_IndexFunc_f66_M1_t2]; (repeat (first | refine gcI ?_ | refine fun (_ : _ ≤ _) => ?_)); refine hK _ ?_; clear hK K)
      refine hK9 _ ?_
      refine Sm.seqX h00 mixed hΓ (by kernel_rfl) fun K10 hK10 => ?_
      simp only [rs]
      obtain ⟨hg11, H⟩ := gd_some H
      obtain ⟨r1, hr1, H⟩ := bind_some H
      iterate 5 (refine opsX fun K hK => ?_; simp only [z, seval, slices_IndexFunc_f66_M1_t2]; (repeat (first | refine gcI ?_ | refine fun (_ : _ ≤ _) => ?_)); refine hK _ ?_; clear hK K)
      refine opsM (cenqueue_Request__blocked_1_1_M1 n _ _ _ r1 hr1) [0] [] (by simp only [z, seval, slices_IndexFunc_f66_M1_t2, hr1]; try rfl) (by simp only [z, seval, slices_IndexFunc_f66_M1_t2, hr1]) (by simp only [z, seval, slices_IndexFunc_f66_M1_t2, hr1]) (by simp only [z, seval, slices_IndexFunc_f66_M1_t2, hr1]) (by simp only [z, seval, slices_IndexFunc_f66_M1_t2, hr1]) rfl (by simp only [z, seval, slices_IndexFunc_f66_M1_t2, hr1]) rfl ?_
      refine hK10 _ ?_
      refine Sm.condK (by rfl) fun Ka Kb ha hb => ?_
      simp only [wpCond, z, seval, slices_IndexFunc_f66_M1_t2]
      refine ⟨fun h12 => ha ?_, fun h12 => hb ?_⟩
      · first | replace H := bif_t h12 H | replace H := bif_t2 h12 H (by simp only [List.length_append])
        refine Sm.seqA h00 mixed hΓ (by kernel_rfl) fun K13 hK13 => ?_
        simp only [rs]
        repeat (refine opsG fun K hK => ?_; simp only [z, seval, slices_IndexFunc_f66_M1_t2]; (repeat (first | refine gcI ?_ | refine fun (_ : _ ≤ _) => ?_)); refine hK _ ?_; clear hK K)
        refine hK13 _ ?_
        refine Sm.ret ?_
        try simp only [seval, Exit.exit.injEq]
        refine ⟨⟨_, (Option.some.inj H).symm⟩, fun hz => ?_⟩
        have hyy := Sum.inr.inj ((Option.some.inj H).trans hz)
        subst hyy
        have H := Ho4
        try dsimp only at H
        try simp only [seval, Exit.exit.injEq]
        obtain rfl := Option.some.inj H
        refine RetM.mk (.inr rfl) [some 0] rfl ?_
        simp only [z, seval, slices_IndexFunc_f66_M1_t2]
      first | replace H := bif_f h12 H | replace H := bif_f2 h12 H (by simp only [List.length_append])
      refine Sm.skip ?_
      refine hK8 _ ?_
      refine Sm.regA h00 mixed hΓ (by kernel_rfl) ?_
      simp only [rs]
      repeat (refine opsG fun K hK => ?_; simp only [z, seval, slices_IndexFunc_f66_M1_t2]; (repeat (first | refine gcI ?_ | refine fun (_ : _ ≤ _) => ?_)); refine hK _ ?_; clear hK K)
      refine opsG0 ?_
      try simp only [seval, Exit.exit.injEq]
      refine ⟨_, (Option.some.inj H).symm, ?_⟩
      exact weak_b [some 0] rfl rfl rfl (by simp only [wk, z, seval, slices_IndexFunc_f66_M1_t2]) (by simp only [wk, z, seval, slices_IndexFunc_f66_M1_t2])
    first | replace H := bif_f h7 H | replace H := bif_f2 h7 H (by simp only [List.length_append])
    refine Sm.exit ?_
    try simp only [seval, Exit.exit.injEq]
    refine ⟨⟨_, (Option.some.inj H).symm⟩, fun hz => ?_⟩
    have hyy := Sum.inr.inj ((Option.some.inj H).trans hz)
    subst hyy
    have H := Ho4
    try dsimp only at H
    try simp only [seval, Exit.exit.injEq]
    refine ⟨(), H, ?_⟩
    exact weak_b [some 0] rfl rfl rfl (by simp only [wk, z, seval, slices_IndexFunc_f66_M1_t2]) (by simp only [wk, z, seval, slices_IndexFunc_f66_M1_t2])
  rintro ⟨⟩ H
  try dsimp only at H
  unfold slices_IndexFunc_f66_M1_k1 at H
  refine Sm.seqA h00 mixed hΓ (by kernel_rfl) fun K2 hK2 => ?_
  simp only [rs]
  repeat (refine opsG fun K hK => ?_; simp only [z, seval, slices_IndexFunc_f66_M1_s1]; (repeat (first | refine gcI ?_ | refine fun (_ : _ ≤ _) => ?_)); refine hK _ ?_; clear hK K)
  refine hK2 _ ?_
  refine Sm.ret ?_
  try simp only [seval, Exit.exit.injEq]
  obtain rfl := Option.some.inj H
  refine RetM.mk (.inr rfl) [some 0] rfl ?_
  simp only [z, seval, slices_IndexFunc_f66_M1_s1]

def enqueue_some_f48_M1 (n : Nat) (l : List TWant) (has : Int) (has_ : List TWant) : Option Bool :=
  (slices_IndexFunc_f66_M1 n l has has_).bind fun r1 =>
  some (decide (r1 ≥ 0))

theorem cenqueue_some_f48_M1 (n : Nat) (l : List TWant) (has : Int) (has_ : List TWant) (r : Bool) (H : enqueue_some_f48_M1 n l has has_ = some r) : CallsM Tryd.prog 48 [.dat (false, [.slice 44]) [.slice (List.map e_TWant l)], .ref (.fnv 49 [.box 0 0])] [.box [.c (.int .i64) (.int has), .c (.slice 44) (.slice (List.map e_TWant has_))]] [.c .bool (.bool r)] [.box [.c (.int .i64) (.int has), .c (.slice 44) (.slice (List.map e_TWant has_))]] := by
  have hΓ : ∀ g, g ∈ ([] : List Go.AE.Fn) → Contract Tryd.prog g := by simp
  refine callsM_of (Tryd.f48.body.getD .skip) h00 Tryd.func48 rfl (by intro args w; exact Tryd.call48 args w) (Nat.le_of_ble_eq_true rfl) (Nat.le_of_ble_eq_true rfl) ?_
  unfold enqueue_some_f48_M1 at H
  simp only [Tryd.f48, Option.getD]
  refine Sm.seqA h00 mixed hΓ (by kernel_rfl) fun K1 hK1 => ?_
  simp only [rs]
  repeat (refine opsG fun K hK => ?_; simp only [z, seval]; (repeat (first | refine gcI ?_ | refine fun (_ : _ ≤ _) => ?_)); refine hK _ ?_; clear hK K)
  refine hK1 _ ?_
  refine Sm.seqX h00 mixed hΓ (by kernel_rfl) fun K2 hK2 => ?_
  simp only [rs]
  obtain ⟨r1, hr1, H⟩ := bind_some H
  iterate 2 (refine opsX fun K hK => ?_; simp only [z, seval]; (repeat (first | refine gcI ?_ | refine fun (_ : _ ≤ _) => ?_)); refine hK _ ?_; clear hK K)
  refine opsM (cslices_IndexFunc_f66_M1 n _ _ _ r1 hr1) [0] [] (by simp only [z, seval, hr1]; try rfl) (by simp only [z, seval, hr1]) (by simp only [z, seval, hr1]) (by simp only [z, seval, hr1]) (by simp only [z, seval, hr1]) rfl (by simp only [z, seval, hr1]) rfl ?_
  iterate 2 (refine opsX fun K hK => ?_; simp only [z, seval, hr1]; (repeat (first | refine gcI ?_ | refine fun (_ : _ ≤ _) => ?_)); refine hK _ ?_; clear hK K)
  refine hK2 _ ?_
  refine Sm.ret ?_
  try simp only [seval, Exit.exit.injEq]
  obtain rfl := Option.some.inj H
  refine RetM.mk (.inr rfl) [some 0] rfl ?_
  simp only [z, seval]

def enqueue_Request__blocked_1_M1 (n : Nat) (q : TRequest) (p1 : Int) (p1_ : List TWant) : Option Bool :=
  (enqueue_some_f48_M1 n p1_ q.Job q.Wants).bind fun r1 =>
  some r1

theorem cenqueue_Request__blocked_1_M1 (n : Nat) (q : TRequest) (p1 : Int) (p1_ : List TWant) (r : Bool) (H : enqueue_Request__blocked_1_M1 n q p1 p1_ = some r) : CallsM Tryd.prog 47 [.dat (true, [.int .i64, .slice 44]) [.int q.Job, .slice (List.map e_TWant q.Wants)], .ref (.box 0 0)] [.box [.c (.int .i64) (.int p1), .c (.slice 44) (.slice (List.map e_TWant p1_))]] [.c .bool (.bool r)] [.box [.c (.int .i64) (.int p1), .c (.slice 44) (.slice (List.map e_TWant p1_))]] := by
  have hΓ : ∀ g, g ∈ ([] : List Go.AE.Fn) → Contract Tryd.prog g := by simp
  refine callsM_of (Tryd.f47.body.getD .skip) h00 Tryd.func47 rfl (by intro args w; exact Tryd.call47 args w) (Nat.le_of_ble_eq_true rfl) (Nat.le_of_ble_eq_true rfl) ?_
  unfold enqueue_Request__blocked_1_M1 at H
  simp only [Tryd.f47, Option.getD]
  refine Sm.seqA h00 mixed hΓ (by kernel_rfl) fun K1 hK1 => ?_
  simp only [rs]
  repeat (refine opsG fun K hK => ?_; simp only [z, seval]; (repeat (first | refine gcI ?_ | refine fun (_ : _ ≤ _) => ?_)); refine hK _ ?_; clear hK K)
  refine hK1 _ ?_
  refine Sm.seqX h00 mixed hΓ (by kernel_rfl) fun K2 hK2 => ?_
  simp only [rs]
  obtain ⟨r1, hr1, H⟩ := bind_some H
  iterate 2 (refine opsX fun K hK => ?_; simp only [z, seval]; (repeat (first | refine gcI ?_ | refine fun (_ : _ ≤ _) => ?_)); refine hK _ ?_; clear hK K)
  refine opsY fun K hK => ?_; simp only [z, seval]; (repeat (first | refine gcI ?_ | refine fun (_ : _ ≤ _) => ?_)); refine hK _ ?_; clear hK K
  refine opsM (cenqueue_some_f48_M1 n _ _ _ r1 hr1) [32] [] (by simp only [z, seval, hr1]; try rfl) (by simp only [z, seval, hr1]) (by simp only [z, seval, hr1]) (by simp only [z, seval, hr1]) (by simp only [z, seval, hr1]) rfl (by simp only [z, seval, hr1]) rfl ?_
  (refine opsX fun K hK => ?_; simp only [z, seval, hr1]; (repeat (first | refine gcI ?_ | refine fun (_ : _ ≤ _) => ?_)); refine hK _ ?_; clear hK K)
  refine hK2 _ ?_
  refine Sm.ret ?_
  try simp only [seval, Exit.exit.injEq]
  obtain rfl := Option.some.inj H
  refine RetM.mk (.inr rfl) [some 0] rfl ?_
  simp only [z, seval]

abbrev slices_IndexFunc_f43_M1_s1 (f : Int) (f_ : List TWant) : S := stB [] [(0, .box [.c (.int .i64) (.int f), .c (.slice 44) (.slice (List.map e_TWant f_))])]

def slices_IndexFunc_f43_M1_k1 (n : Nat) (f : Int) (f_ : List TWant) : Option Int :=
  some (-1)

abbrev slices_IndexFunc_f43_M1_t2 (f : Int) (f_ : List TWant) (s : List TRequest) (v7 : Int) (v8 : Int) : S := stB [(0, .c (.slice 50) (.slice (List.map e_TRequest s))), (1, .fnv 47 [.box 0 0]), (7, .c (.int .i64) (.int v7)), (8, .c (.int .i64) (.int v8))] [(0, .box [.c (.int .i64) (.int f), .c (.slice 44) (.slice (List.map e_TWant f_))])]

def slices_IndexFunc_f43_M1_b2 (n : Nat) (f : Int) (f_ : List TWant) (s : List TRequest) (v7 : Int) (v8 : Int) : Option ((Int) ⊕ (((Int) ⊕ (Unit)))) :=
  bif (decide (v8 < v7)) then
    gd ((0 ≤ v8 ∧ v8 < (s.length : Int))) <|
    (enqueue_Request__blocked_1_M1 n (gt s (Int.toNat v8)) f f_).bind fun r1 =>
    bif r1 then
      some (.inr (.inl v8))
    else
      some (.inl (IntKind.wrap .i64 (v8 + 1)))
  else
    some (.inr (.inr ()))

def slices_IndexFunc_f43_M1 (n : Nat) (s : List TRequest) (f : Int) (f_ : List TWant) : Option Int :=
  (loopF (fun (x : Int) => slices_IndexFunc_f43_M1_b2 n f f_ s (s.length : Int) x) n 0).bind fun y4 =>
  match y4 with
  | .inl v =>
    some v
  | .inr v =>
    slices_IndexFunc_f43_M1_k1 n f f_

theorem cslices_IndexFunc_f43_M1 (n : Nat) (s : List TRequest) (f : Int) (f_ : List TWant) (r : Int) (H : slices_IndexFunc_f43_M1 n s f f_ = some r) : CallsM Tryd.prog 43 [.dat (false, [.slice 50]) [.slice (List.map e_TRequest s)], .ref (.fnv 47 [.box 0 0])] [.box [.c (.int .i64) (.int f), .c (.slice 44) (.slice (List.map e_TWant f_))]] [.c (.int .i64) (.int r)] [.box [.c (.int .i64) (.int f), .c (.slice 44) (.slice (List.map e_TWant f_))]] := by
  have hΓ : ∀ g, g ∈ ([] : List Go.AE.Fn) → Contract Tryd.prog g := by simp
  refine callsM_of (Tryd.f43.body.getD .skip) h00 Tryd.func43 rfl (by intro args w; exact Tryd.call43 args w) (Nat.le_of_ble_eq_true rfl) (Nat.le_of_ble_eq_true rfl) ?_
  unfold slices_IndexFunc_f43_M1 at H
  simp only [Tryd.f43, Option.getD]
  refine Sm.seqA h00 mixed hΓ (by kernel_rfl) fun K1 hK1 => ?_
  simp only [rs]
  repeat (refine opsG fun K hK => ?_; simp only [z, seval]; (repeat (first | refine gcI ?_ | refine fun (_ : _ ≤ _) => ?_)); refine hK _ ?_; clear hK K)
  refine hK1 _ ?_
  refine Sm.cut (fun (x : Unit) => slices_IndexFunc_f43_M1_s1 f f_) (fun x => slices_IndexFunc_f43_M1_k1 n f f_ = some r) ?_ ?_
  · refine Sm.seqA h00 mixed hΓ (by kernel_rfl) fun K3 hK3 => ?_
    simp only [rs]
    repeat (refine opsG fun K hK => ?_; simp only [z, seval]; (repeat (first | refine gcI ?_ | refine fun (_ : _ ≤ _) => ?_)); refine hK _ ?_; clear hK K)
    refine hK3 _ ?_
    refine Sm.block ?_
    obtain ⟨y4, hy4, Ho4⟩ := bind_some H
    refine Sm.loopB (fun (x : Int) => slices_IndexFunc_f43_M1_b2 n f f_ s (s.length : Int) x) (fun x => slices_IndexFunc_f43_M1_t2 f f_ s (s.length : Int) x) hy4 ?_ ?_
    · exact weak_b [some 0] rfl rfl rfl (by simp only [wk, z, seval]) (by simp only [wk, z, seval])
    rintro v8 z4 H
    try dsimp only at H
    unfold slices_IndexFunc_f43_M1_b2 at H
    refine Sm.seqA h00 mixed hΓ (by kernel_rfl) fun K5 hK5 => ?_
    simp only [rs]
    repeat (refine opsG fun K hK => ?_; simp only [z, seval, slices_IndexFunc_f43_M1_t2]; (repeat (first | refine gcI ?_ | refine fun (_ : _ ≤ _) => ?_)); refine hK _ ?_; clear hK K)
    refine hK5 _ ?_
    refine Sm.seqK fun K6 hK6 => ?_
    refine Sm.condK (by rfl) fun Ka Kb ha hb => ?_
    simp only [wpCond, z, seval, slices_IndexFunc_f43_M1_t2]
    refine ⟨fun h7 => ha ?_, fun h7 => hb ?_⟩
    · first | replace H := bif_t h7 H | replace H := bif_t2 h7 H (by simp only [List.length_append])
      refine Sm.skip ?_
      refine hK6 _ ?_
      refine Sm.seqK fun K8 hK8 => ?_
      refine Sm.block ?_
      refine Sm.seqA h00 mixed hΓ (by kernel_rfl) fun K9 hK9 => ?_
      simp only [rs]
      repeat (refine opsG fun K hK => ?_; simp only [z, seval, slices_IndexFunc_f43_M1_t2]; (repeat (first | refine gcI ?_ | refine fun (_ : _ ≤ _) => ?_)); refine hK _ ?_; clear hK K)
      refine hK9 _ ?_
      refine Sm.seqX h00 mixed hΓ (by kernel_rfl) fun K10 hK10 => ?_
      simp only [rs]
      obtain ⟨hg11, H⟩ := gd_some H
      obtain ⟨r1, hr1, H⟩ := bind_some H
      iterate 5 (refine opsX fun K hK => ?_; simp only [z, seval, slices_IndexFunc_f43_M1_t2]; (repeat (first | refine gcI ?_ | refine fun (_ : _ ≤ _) => ?_)); refine hK _ ?_; clear hK K)
      refine opsM (cenqueue_Request__blocked_1_M1 n _ _ _ r1 hr1) [0] [] (by simp only [z, seval, slices_IndexFunc_f43_M1_t2, hr1]; try rfl) (by simp only [z, seval, slices_IndexFunc_f43_M1_t2, hr1]) (by simp only [z, seval, slices_IndexFunc_f43_M1_t2, hr1]) (by simp only [z, seval, slices_IndexFunc_f43_M1_t2, hr1]) (by simp only [z, seval, slices_IndexFunc_f43_M1_t2, hr1]) rfl (by simp only [z, seval, slices_IndexFunc_f43_M1_t2, hr1]) rfl ?_
      refine hK10 _ ?_
      refine Sm.condK (by rfl) fun Ka Kb ha hb => ?_
      simp only [wpCond, z, seval, slices_IndexFunc_f43_M1_t2]
      refine ⟨fun h12 => ha ?_, fun h12 => hb ?_⟩
      · first | replace H := bif_t h12 H | replace H := bif_t2 h12 H (by simp only [List.length_append])
        refine Sm.seqA h00 mixed hΓ (by kernel_rfl) fun K13 hK13 => ?_
        simp only [rs]
        repeat (refine opsG fun K hK => ?_; simp only [z, seval, slices_IndexFunc_f43_M1_t2]; (repeat (first | refine gcI ?_ | refine fun (_ : _ ≤ _) => ?_)); refine hK _ ?_; clear hK K)
        refine hK13 _ ?_
        refine Sm.ret ?_
        try simp only [seval, Exit.exit.injEq]
        refine ⟨⟨_, (Option.some.inj H).symm⟩, fun hz => ?_⟩
        have hyy := Sum.inr.inj ((Option.some.inj H).trans hz)
        subst hyy
        have H := Ho4
        try dsimp only at H
        try simp only [seval, Exit.exit.injEq]
        obtain rfl := Option.some.inj H
        refine RetM.mk (.inr rfl) [some 0] rfl ?_
        simp only [z, seval, slices_IndexFunc_f43_M1_t2]
      first | replace H := bif_f h12 H | replace H := bif_f2 h12 H (by simp only [List.length_append])
      refine Sm.skip ?_
      refine hK8 _ ?_
      refine Sm.regA h00 mixed hΓ (by kernel_rfl) ?_
      simp only [rs]
      repeat (refine opsG fun K hK => ?_; simp only [z, seval, slices_IndexFunc_f43_M1_t2]; (repeat (first | refine gcI ?_ | refine fun (_ : _ ≤ _) => ?_)); refine hK _ ?_; clear hK K)
      refine opsG0 ?_
      try simp only [seval, Exit.exit.injEq]
      refine ⟨_, (Option.some.inj H).symm, ?_⟩
      exact weak_b [some 0] rfl rfl rfl (by simp only [wk, z, seval, slices_IndexFunc_f43_M1_t2]) (by simp only [wk, z, seval, slices_IndexFunc_f43_M1_t2])
    first | replace H := bif_f h7 H | replace H := bif_f2 h7 H (by simp only [List.length_append])
    refine Sm.exit ?_
    try simp only [seval, Exit.exit.injEq]
    refine ⟨⟨_, (Option.some.inj H).symm⟩, fun hz => ?_⟩
    have hyy := Sum.inr.inj ((Option.some.inj H).trans hz)
    subst hyy
    have H := Ho4
    try dsimp only at H
    try simp only [seval, Exit.exit.injEq]
    refine ⟨(), H, ?_⟩
    exact weak_b [some 0] rfl rfl rfl (by simp only [wk, z, seval, slices_IndexFunc_f43_M1_t2]) (by simp only [wk, z, seval, slices_IndexFunc_f43_M1_t2])
  rintro ⟨⟩ H
  try dsimp only at H
  unfold slices_IndexFunc_f43_M1_k1 at H
  refine Sm.seqA h00 mixed hΓ (by kernel_rfl) fun K2 hK2 => ?_
  simp only [rs]
  repeat (refine opsG fun K hK => ?_; simp only [z, seval, slices_IndexFunc_f43_M1_s1]; (repeat (first | refine gcI ?_ | refine fun (_ : _ ≤ _) => ?_)); refine hK _ ?_; clear hK K)
  refine hK2 _ ?_
  refine Sm.ret ?_
  try simp only [seval, Exit.exit.injEq]
  obtain rfl := Option.some.inj H
  refine RetM.mk (.inr rfl) [some 0] rfl ?_
  simp only [z, seval, slices_IndexFunc_f43_M1_s1]

def enqueue_some_f46_M1 (n : Nat) (l : List TRequest) (has : Int) (has_ : List TWant) : Option Bool :=
  (slices_IndexFunc_f43_M1 n l has has_).bind fun r1 =>
  some (decide (r1 ≥ 0))

theorem cenqueue_some_f46_M1 (n : Nat) (l : List TRequest) (has : Int) (has_ : List TWant) (r : Bool) (H : enqueue_some_f46_M1 n l has has_ = some r) : CallsM Tryd.prog 46 [.dat (false, [.slice 50]) [.slice (List.map e_TRequest l)], .ref (.fnv 47 [.box 0 0])] [.box [.c (.int .i64) (.int has), .c (.slice 44) (.slice (List.map e_TWant has_))]] [.c .bool (.bool r)] [.box [.c (.int .i64) (.int has), .c (.slice 44) (.slice (List.map e_TWant has_))]] := by
  have hΓ : ∀ g, g ∈ ([] : List Go.AE.Fn) → Contract Tryd.prog g := by simp
  refine callsM_of (Tryd.f46.body.getD .skip) h00 Tryd.func46 rfl (by intro args w; exact Tryd.call46 args w) (Nat.le_of_ble_eq_true rfl) (Nat.le_of_ble_eq_true rfl) ?_
  unfold enqueue_some_f46_M1 at H
  simp only [Tryd.f46, Option.getD]
  refine Sm.seqA h00 mixed hΓ (by kernel_rfl) fun K1 hK1 => ?_
  simp only [rs]
  repeat (refine opsG fun K hK => ?_; simp only [z, seval]; (repeat (first | refine gcI ?_ | refine fun (_ : _ ≤ _) => ?_)); refine hK _ ?_; clear hK K)
  refine hK1 _ ?_
  refine Sm.seqX h00 mixed hΓ (by kernel_rfl) fun K2 hK2 => ?_
  simp only [rs]
  obtain ⟨r1, hr1, H⟩ := bind_some H
  iterate 2 (refine opsX fun K hK => ?_; simp only [z, seval]; (repeat (first | refine gcI ?_ | refine fun (_ : _ ≤ _) => ?_)); refine hK _ ?_; clear hK K)
  refine opsM (cslices_IndexFunc_f43_M1 n _ _ _ r1 hr1) [0] [] (by simp only [z, seval, hr1]; try rfl) (by simp only [z, seval, hr1]) (by simp only [z, seval, hr1]) (by simp only [z, seval, hr1]) (by simp only [z, seval, hr1]) rfl (by simp only [z, seval, hr1]) rfl ?_
  iterate 2 (refine opsX fun K hK => ?_; simp only [z, seval, hr1]; (repeat (first | refine gcI ?_ | refine fun (_ : _ ≤ _) => ?_)); refine hK _ ?_; clear hK K)
  refine hK2 _ ?_
  refine Sm.ret ?_
  try simp only [seval, Exit.exit.injEq]
  obtain rfl := Option.some.inj H
  refine RetM.mk (.inr rfl) [some 0] rfl ?_
  simp only [z, seval]

def enqueue_Request__blocked (n : Nat) (r_ : TRequest) (l : List TRequest) : Option Bool :=
  (enqueue_some_f46_M1 n l r_.Job r_.Wants).bind fun r1 =>
  some r1

def xenqueue_Request__blocked (n : Nat) : Go.AE.Fn := mkFn (A := TRequest × (List TRequest)) (R := Bool) 28 [(true, [.int .i64, .slice 44]), (false, [.slice 50])] false (fun xs => ((⟨(cg (xs.getD 0 []) 0).toInt, ((cg (xs.getD 0 []) 1).toSl.map d_TWant)⟩ : TRequest), ((cg (xs.getD 1 []) 0).toSl.map d_TRequest))) (fun a => [[.int a.1.Job, .slice (List.map e_TWant a.1.Wants)], [.slice (List.map e_TRequest a.2)]]) (fun a => enqueue_Request__blocked n a.1 a.2) (fun r => [.c .bool (.bool r)]) (fun r => [])

theorem cenqueue_Request__blocked (n : Nat) : Contract Tryd.prog (xenqueue_Request__blocked n) := by
  have hΓ : ∀ g, g ∈ ([] : List Go.AE.Fn) → Contract Tryd.prog g := by simp
  refine contract_f (Tryd.f28.body.getD .skip) h00 Tryd.func28 rfl (by intro args w; exact Tryd.call28 args w) (by decide) (by intro _ r; exact ⟨rfl, by simp⟩) ?_
  rintro ⟨r_, l⟩ r H
  try dsimp only at H
  unfold enqueue_Request__blocked at H
  simp only [Tryd.f28, Option.getD]
  refine Sm.seqA h00 mixed hΓ (by kernel_rfl) fun K1 hK1 => ?_
  simp only [rs]
  repeat (refine opsG fun K hK => ?_; simp only [z, seval]; (repeat (first | refine gcI ?_ | refine fun (_ : _ ≤ _) => ?_)); refine hK _ ?_; clear hK K)
  refine hK1 _ ?_
  refine Sm.seqX h00 mixed hΓ (by kernel_rfl) fun K2 hK2 => ?_
  simp only [rs]
  obtain ⟨r1, hr1, H⟩ := bind_some H
  (refine opsX fun K hK => ?_; simp only [z, seval]; (repeat (first | refine gcI ?_ | refine fun (_ : _ ≤ _) => ?_)); refine hK _ ?_; clear hK K)
  refine opsY fun K hK => ?_; simp only [z, seval]; (repeat (first | refine gcI ?_ | refine fun (_ : _ ≤ _) => ?_)); refine hK _ ?_; clear hK K
  refine opsM (cenqueue_some_f46_M1 n _ _ _ r1 hr1) [32] [] (by simp only [z, seval, hr1]; try rfl) (by simp only [z, seval, hr1]) (by simp only [z, seval, hr1]) (by simp only [z, seval, hr1]) (by simp only [z, seval, hr1]) rfl (by simp only [z, seval, hr1]) rfl ?_
  (refine opsX fun K hK => ?_; simp only [z, seval, hr1]; (repeat (first | refine gcI ?_ | refine fun (_ : _ ≤ _) => ?_)); refine hK _ ?_; clear hK K)
  refine hK2 _ ?_
  refine Sm.ret ?_
  try simp only [seval, Exit.exit.injEq]
  obtain rfl := Option.some.inj H
  refine Ret.ofR [] (.inr rfl) ?_
  simp only [z, seval]

abbrev enqueue_Check_s2 : S := stB [] []

def enqueue_Check_k2 (n : Nat) : Option Int :=
  some 0

abbrev enqueue_Check_t3 (t : TTable) (v40 : Int) (seen_1 : List (Int × Bool)) (v41 : Int) : S := stB [(1, .box 9004 0), (3, .mref 9005), (39, .c (.slice 50) (.slice (List.map e_TRequest t.Waiting))), (40, .c (.int .i64) (.int v40)), (41, .c (.int .i64) (.int v41))] [(9004, .box [.c (.slice 50) (.slice (List.map e_TRequest t.Held)), .c (.slice 50) (.slice (List.map e_TRequest t.Waiting))]), (9005, .mp (.int .i64) (false, [.bool]) (List.map em_Int_Bool seen_1))]

def enqueue_Check_b3 (n : Nat) (t : TTable) (v40 : Int) (seen_1 : List (Int × Bool)) (v41 : Int) : Option (((List (Int × Bool)) × Int) ⊕ (((Int) ⊕ (Unit)))) :=
  bif (decide (v41 < v40)) then
    gd ((0 ≤ v41 ∧ v41 < (t.Waiting.length : Int))) <|
    gd (((!((tget ((gt t.Waiting (Int.toNat v41)).Job) seen_1).getD default)) = true → (enqueue_Request__normal n (gt t.Waiting (Int.toNat v41))).isSome = true) ∧ ((!(if ((tget ((gt t.Waiting (Int.toNat v41)).Job) seen_1).getD default) = true then true else (!((enqueue_Request__normal n (gt t.Waiting (Int.toNat v41))).getD default)))) = true → (enqueue_Request__blocked n (gt t.Waiting (Int.toNat v41)) t.Held).isSome = true) ∧ (((!(if ((tget ((gt t.Waiting (Int.toNat v41)).Job) seen_1).getD default) = true then true else (!((enqueue_Request__normal n (gt t.Waiting (Int.toNat v41))).getD default)))) && (!((enqueue_Request__blocked n (gt t.Waiting (Int.toNat v41)) t.Held).getD default))) = true → (0 ≤ v41 ∧ v41 ≤ (t.Waiting.length : Int))) ∧ (((!(if ((tget ((gt t.Waiting (Int.toNat v41)).Job) seen_1).getD default) = true then true else (!((enqueue_Request__normal n (gt t.Waiting (Int.toNat v41))).getD default)))) && (!((enqueue_Request__blocked n (gt t.Waiting (Int.toNat v41)) t.Held).getD default))) = true → (enqueue_Request__blocked n (gt t.Waiting (Int.toNat v41)) (List.take (Int.toNat v41) t.Waiting)).isSome = true)) <|
    bif (if (if ((tget ((gt t.Waiting (Int.toNat v41)).Job) seen_1).getD default) = true then true else (!((enqueue_Request__normal n (gt t.Waiting (Int.toNat v41))).getD default))) = true then true else (if (!((enqueue_Request__blocked n (gt t.Waiting (Int.toNat v41)) t.Held).getD default)) = true then (!((enqueue_Request__blocked n (gt t.Waiting (Int.toNat v41)) (List.take (Int.toNat v41) t.Waiting)).getD default)) else false)) then
      some (.inr (.inl 5))
    else
      some (.inl ((tset ((gt t.Waiting (Int.toNat v41)).Job) true seen_1), (IntKind.wrap .i64 (v41 + 1))))
  else
    some (.inr (.inr ()))

abbrev enqueue_Check_s1 (t : TTable) (seen : List (Int × Bool)) : S := stB [(1, .box 9000 0), (3, .mref 9001)] [(9000, .box [.c (.slice 50) (.slice (List.map e_TRequest t.Held)), .c (.slice 50) (.slice (List.map e_TRequest t.Waiting))]), (9001, .mp (.int .i64) (false, [.bool]) (List.map em_Int_Bool seen))]

def enqueue_Check_k1 (n : Nat) (t : TTable) (seen : List (Int × Bool)) : Option Int :=
  (loopF (fun (x : (List (Int × Bool)) × Int) => enqueue_Check_b3 n t (t.Waiting.length : Int) x.1 x.2) n (seen, 0)).bind fun y5 =>
  match y5 with
  | .inl v =>
    some v
  | .inr v =>
    enqueue_Check_k2 n

abbrev enqueue_Check_t4 (t : TTable) (v11 : Int) (seen_2 : List (Int × Bool)) (v12 : Int) : S := stB [(1, .box 9008 0), (3, .mref 9009), (10, .c (.slice 50) (.slice (List.map e_TRequest t.Held))), (11, .c (.int .i64) (.int v11)), (12, .c (.int .i64) (.int v12))] [(9008, .box [.c (.slice 50) (.slice (List.map e_TRequest t.Held)), .c (.slice 50) (.slice (List.map e_TRequest t.Waiting))]), (9009, .mp (.int .i64) (false, [.bool]) (List.map em_Int_Bool seen_2))]

def enqueue_Check_b4 (n : Nat) (t : TTable) (v11 : Int) (seen_2 : List (Int × Bool)) (v12 : Int) : Option (((List (Int × Bool)) × Int) ⊕ (((Int) ⊕ ((List (Int × Bool)))))) :=
  bif (decide (v12 < v11)) then
    gd ((0 ≤ v12 ∧ v12 < (t.Held.length : Int))) <|
    gd (((!((tget ((gt t.Held (Int.toNat v12)).Job) seen_2).getD default)) = true → (enqueue_Request__normal n (gt t.Held (Int.toNat v12))).isSome = true) ∧ ((!(if ((tget ((gt t.Held (Int.toNat v12)).Job) seen_2).getD default) = true then true else (!((enqueue_Request__normal n (gt t.Held (Int.toNat v12))).getD default)))) = true → (0 ≤ v12 ∧ v12 ≤ (t.Held.length : Int))) ∧ ((!(if ((tget ((gt t.Held (Int.toNat v12)).Job) seen_2).getD default) = true then true else (!((enqueue_Request__normal n (gt t.Held (Int.toNat v12))).getD default)))) = true → (enqueue_Request__blocked n (gt t.Held (Int.toNat v12)) (List.take (Int.toNat v12) t.Held)).isSome = true)) <|
    bif (if (if ((tget ((gt t.Held (Int.toNat v12)).Job) seen_2).getD default) = true then true else (!((enqueue_Request__normal n (gt t.Held (Int.toNat v12))).getD default))) = true then true else ((enqueue_Request__blocked n (gt t.Held (Int.toNat v12)) (List.take (Int.toNat v12) t.Held)).getD default)) then
      some (.inr (.inl 5))
    else
      some (.inl ((tset ((gt t.Held (Int.toNat v12)).Job) true seen_2), (IntKind.wrap .i64 (v12 + 1))))
  else
    some (.inr (.inr seen_2))

def enqueue_Check (n : Nat) (t : TTable) : Option Int :=
  (loopF (fun (x : (List (Int × Bool)) × Int) => enqueue_Check_b4 n t (t.Held.length : Int) x.1 x.2) n ([], 0)).bind fun y21 =>
  match y21 with
  | .inl v =>
    some v
  | .inr v =>
    enqueue_Check_k1 n t v

def xenqueue_Check (n : Nat) : Go.AE.Fn := mkFn (A := TTable) (R := Int) 25 [(true, [.slice 50, .slice 50])] false (fun xs => (⟨((cg (xs.getD 0 []) 0).toSl.map d_TRequest), ((cg (xs.getD 0 []) 1).toSl.map d_TRequest)⟩ : TTable)) (fun a => [[.slice (List.map e_TRequest a.Held), .slice (List.map e_TRequest a.Waiting)]]) (fun a => enqueue_Check n a) (fun r => [.c (.int .i64) (.int r)]) (fun r => [])

theorem cenqueue_Check (n : Nat) : Contract Tryd.prog (xenqueue_Check n) := by
  have hΓ : ∀ g, g ∈ ([xenqueue_Request__normal n, xenqueue_Request__blocked n] : List Go.AE.Fn) → Contract Tryd.prog g := by
    intro g hg; simp only [List.mem_cons, List.not_mem_nil, or_false] at hg; rcases hg with rfl | rfl; exact cenqueue_Request__normal n; exact cenqueue_Request__blocked n
  refine contract_f (Tryd.f25.body.getD .skip) h00 Tryd.func25 rfl (by intro args w; exact Tryd.call25 args w) (by decide) (by intro _ r; exact ⟨rfl, by simp⟩) ?_
  rintro t r H
  try dsimp only at H
  unfold enqueue_Check at H
  simp only [Tryd.f25, Option.getD]
  refine Sm.seqA h00 mixed hΓ (by kernel_rfl) fun K1 hK1 => ?_
  simp only [rs]
  repeat (refine opsG fun K hK => ?_; simp only [z, seval]; (repeat (first | refine gcI ?_ | refine fun (_ : _ ≤ _) => ?_)); refine hK _ ?_; clear hK K)
  refine hK1 _ ?_
  refine Sm.seqA h00 mixed hΓ (by kernel_rfl) fun K2 hK2 => ?_
  simp only [rs]
  repeat (refine opsG fun K hK => ?_; simp only [z, seval]; (repeat (first | refine gcI ?_ | refine fun (_ : _ ≤ _) => ?_)); refine hK _ ?_; clear hK K)
  refine hK2 _ ?_
  refine Sm.cut (fun (x : (List (Int × Bool))) => enqueue_Check_s1 t x) (fun x => enqueue_Check_k1 n t x = some r) ?_ ?_
  · refine Sm.seqA h00 mixed hΓ (by kernel_rfl) fun K20 hK20 => ?_
    simp only [rs]
    repeat (refine opsG fun K hK => ?_; simp only [z, seval]; (repeat (first | refine gcI ?_ | refine fun (_ : _ ≤ _) => ?_)); refine hK _ ?_; clear hK K)
    refine hK20 _ ?_
    refine Sm.block ?_
    obtain ⟨y21, hy21, Ho21⟩ := bind_some H
    refine Sm.loopB (fun (x : (List (Int × Bool)) × Int) => enqueue_Check_b4 n t (t.Held.length : Int) x.1 x.2) (fun x => enqueue_Check_t4 t (t.Held.length : Int) x.1 x.2) hy21 ?_ ?_
    · exact weak_b [some 16, some 128] rfl rfl rfl (by simp only [wk, z, seval]) (by simp only [wk, z, seval])
    rintro ⟨seen_2, v12⟩ z21 H
    try dsimp only at H
    unfold enqueue_Check_b4 at H
    refine Sm.seqA h00 mixed hΓ (by kernel_rfl) fun K22 hK22 => ?_
    simp only [rs]
    repeat (refine opsG fun K hK => ?_; simp only [z, seval, enqueue_Check_t4]; (repeat (first | refine gcI ?_ | refine fun (_ : _ ≤ _) => ?_)); refine hK _ ?_; clear hK K)
    refine hK22 _ ?_
    refine Sm.seqK fun K23 hK23 => ?_
    refine Sm.condK (by rfl) fun Ka Kb ha hb => ?_
    simp only [wpCond, z, seval, enqueue_Check_t4]
    refine ⟨fun h24 => ha ?_, fun h24 => hb ?_⟩
    · first | replace H := bif_t h24 H | replace H := bif_t2 h24 H (by simp only [List.length_append])
      refine Sm.skip ?_
      refine hK23 _ ?_
      refine Sm.seqK fun K25 hK25 => ?_
      refine Sm.block ?_
      obtain ⟨hg34, H⟩ := gd_some H
      refine Sm.seqA h00 mixed hΓ (by kernel_rfl) fun K26 hK26 => ?_
      simp only [rs]
      repeat (refine opsG fun K hK => ?_; simp only [z, seval, enqueue_Check_t4]; (repeat (first | refine gcI ?_ | refine fun (_ : _ ≤ _) => ?_)); refine hK _ ?_; clear hK K)
      refine hK26 _ ?_
      refine Sm.seqK fun K27 hK27 => ?_
      obtain ⟨⟨hg31, hg32, hg33⟩, H⟩ := gd_some H
      refine Sm.seqD h00 mixed hΓ (by kernel_rfl) fun K28 hK28 => ?_
      simp only [rs]
      repeat (refine opsH fun K hK => ?_; simp only [z, seval, enqueue_Check_t4, xenqueue_Request__normal, xenqueue_Request__blocked]; (repeat (first | refine gcI ?_ | refine fun (_ : _ ≤ _) => ?_)); refine hK _ ?_; clear hK K)
      refine hK28 _ ?_
      refine Sm.condK (by rfl) fun Ka Kb ha hb => ?_
      simp only [wpCond, z, seval, enqueue_Check_t4]
      refine ⟨fun h29 => ha ?_, fun h29 => hb ?_⟩
      · first | replace H := bif_t h29 H | replace H := bif_t2 h29 H (by simp only [List.length_append])
        refine Sm.seqA h00 mixed hΓ (by kernel_rfl) fun K30 hK30 => ?_
        simp only [rs]
        repeat (refine opsG fun K hK => ?_; simp only [z, seval, enqueue_Check_t4]; (repeat (first | refine gcI ?_ | refine fun (_ : _ ≤ _) => ?_)); refine hK _ ?_; clear hK K)
        refine hK30 _ ?_
        refine Sm.ret ?_
        try simp only [seval, Exit.exit.injEq]
        refine ⟨⟨_, (Option.some.inj H).symm⟩, fun hz => ?_⟩
        have hyy := Sum.inr.inj ((Option.some.inj H).trans hz)
        subst hyy
        have H := Ho21
        try dsimp only at H
        try simp only [seval, Exit.exit.injEq]
        obtain rfl := Option.some.inj H
        refine Ret.ofR [] (.inr rfl) ?_
        simp only [z, seval, enqueue_Check_t4]
      first | replace H := bif_f h29 H | replace H := bif_f2 h29 H (by simp only [List.length_append])
      refine Sm.skip ?_
      refine hK27 _ ?_
      refine Sm.regA h00 mixed hΓ (by kernel_rfl) ?_
      simp only [rs]
      repeat (refine opsG fun K hK => ?_; simp only [z, seval, enqueue_Check_t4]; (repeat (first | refine gcI ?_ | refine fun (_ : _ ≤ _) => ?_)); refine hK _ ?_; clear hK K)
      refine opsG0 ?_
      refine hK25 _ ?_
      refine Sm.regA h00 mixed hΓ (by kernel_rfl) ?_
      simp only [rs]
      repeat (refine opsG fun K hK => ?_; simp only [z, seval, enqueue_Check_t4]; (repeat (first | refine gcI ?_ | refine fun (_ : _ ≤ _) => ?_)); refine hK _ ?_; clear hK K)
      refine opsG0 ?_
      try simp only [seval, Exit.exit.injEq]
      refine ⟨(_, _), (Option.some.inj H).symm, ?_⟩
      exact weak_b [some 9008, some 9009] rfl rfl rfl (by simp only [wk, z, seval, enqueue_Check_t4]) (by simp only [wk, z, seval, enqueue_Check_t4])
    first | replace H := bif_f h24 H | replace H := bif_f2 h24 H (by simp only [List.length_append])
    refine Sm.exit ?_
    try simp only [seval, Exit.exit.injEq]
    refine ⟨⟨_, (Option.some.inj H).symm⟩, fun hz => ?_⟩
    have hyy := Sum.inr.inj ((Option.some.inj H).trans hz)
    subst hyy
    have H := Ho21
    try dsimp only at H
    try simp only [seval, Exit.exit.injEq]
    refine ⟨_, H, ?_⟩
    exact weak_b [some 9008, some 9009] rfl rfl rfl (by simp only [wk, z, seval, enqueue_Check_t4]) (by simp only [wk, z, seval, enqueue_Check_t4])
  rintro seen H
  try dsimp only at H
  unfold enqueue_Check_k1 at H
  refine Sm.cut (fun (x : Unit) => enqueue_Check_s2) (fun x => enqueue_Check_k2 n = some r) ?_ ?_
  · refine Sm.seqA h00 mixed hΓ (by kernel_rfl) fun K4 hK4 => ?_
    simp only [rs]
    repeat (refine opsG fun K hK => ?_; simp only [z, seval, enqueue_Check_s1]; (repeat (first | refine gcI ?_ | refine fun (_ : _ ≤ _) => ?_)); refine hK _ ?_; clear hK K)
    refine hK4 _ ?_
    refine Sm.block ?_
    obtain ⟨y5, hy5, Ho5⟩ := bind_some H
    refine Sm.loopB (fun (x : (List (Int × Bool)) × Int) => enqueue_Check_b3 n t (t.Waiting.length : Int) x.1 x.2) (fun x => enqueue_Check_t3 t (t.Waiting.length : Int) x.1 x.2) hy5 ?_ ?_
    · exact weak_b [some 9000, some 9001] rfl rfl rfl (by simp only [wk, z, seval, enqueue_Check_s1]) (by simp only [wk, z, seval, enqueue_Check_s1])
    rintro ⟨seen_1, v41⟩ z5 H
    try dsimp only at H
    unfold enqueue_Check_b3 at H
    refine Sm.seqA h00 mixed hΓ (by kernel_rfl) fun K6 hK6 => ?_
    simp only [rs]
    repeat (refine opsG fun K hK => ?_; simp only [z, seval, enqueue_Check_t3]; (repeat (first | refine gcI ?_ | refine fun (_ : _ ≤ _) => ?_)); refine hK _ ?_; clear hK K)
    refine hK6 _ ?_
    refine Sm.seqK fun K7 hK7 => ?_
    refine Sm.condK (by rfl) fun Ka Kb ha hb => ?_
    simp only [wpCond, z, seval, enqueue_Check_t3]
    refine ⟨fun h8 => ha ?_, fun h8 => hb ?_⟩
    · first | replace H := bif_t h8 H | replace H := bif_t2 h8 H (by simp only [List.length_append])
      refine Sm.skip ?_
      refine hK7 _ ?_
      refine Sm.seqK fun K9 hK9 => ?_
      refine Sm.block ?_
      obtain ⟨hg19, H⟩ := gd_some H
      refine Sm.seqA h00 mixed hΓ (by kernel_rfl) fun K10 hK10 => ?_
      simp only [rs]
      repeat (refine opsG fun K hK => ?_; simp only [z, seval, enqueue_Check_t3]; (repeat (first | refine gcI ?_ | refine fun (_ : _ ≤ _) => ?_)); refine hK _ ?_; clear hK K)
      refine hK10 _ ?_
      refine Sm.seqK fun K11 hK11 => ?_
      obtain ⟨⟨hg15, hg16, hg17, hg18⟩, H⟩ := gd_some H
      refine Sm.seqD h00 mixed hΓ (by kernel_rfl) fun K12 hK12 => ?_
      simp only [rs]
      repeat (refine opsH fun K hK => ?_; simp only [z, seval, enqueue_Check_t3, xenqueue_Request__normal, xenqueue_Request__blocked]; (repeat (first | refine gcI ?_ | refine fun (_ : _ ≤ _) => ?_)); refine hK _ ?_; clear hK K)
      refine hK12 _ ?_
      refine Sm.condK (by rfl) fun Ka Kb ha hb => ?_
      simp only [wpCond, z, seval, enqueue_Check_t3]
      refine ⟨fun h13 => ha ?_, fun h13 => hb ?_⟩
      · first | replace H := bif_t h13 H | replace H := bif_t2 h13 H (by simp only [List.length_append])
        refine Sm.seqA h00 mixed hΓ (by kernel_rfl) fun K14 hK14 => ?_
        simp only [rs]
        repeat (refine opsG fun K hK => ?_; simp only [z, seval, enqueue_Check_t3]; (repeat (first | refine gcI ?_ | refine fun (_ : _ ≤ _) => ?_)); refine hK _ ?_; clear hK K)
        refine hK14 _ ?_
        refine Sm.ret ?_
        try simp only [seval, Exit.exit.injEq]
        refine ⟨⟨_, (Option.some.inj H).symm⟩, fun hz => ?_⟩
        have hyy := Sum.inr.inj ((Option.some.inj H).trans hz)
        subst hyy
        have H := Ho5
        try dsimp only at H
        try simp only [seval, Exit.exit.injEq]
        obtain rfl := Option.some.inj H
        refine Ret.ofR [] (.inr rfl) ?_
        simp only [z, seval, enqueue_Check_t3]
      first | replace H := bif_f h13 H | replace H := bif_f2 h13 H (by simp only [List.length_append])
      refine Sm.skip ?_
      refine hK11 _ ?_
      refine Sm.regA h00 mixed hΓ (by kernel_rfl) ?_
      simp only [rs]
      repeat (refine opsG fun K hK => ?_; simp only [z, seval, enqueue_Check_t3]; (repeat (first | refine gcI ?_ | refine fun (_ : _ ≤ _) => ?_)); refine hK _ ?_; clear hK K)
      refine opsG0 ?_
      refine hK9 _ ?_
      refine Sm.regA h00 mixed hΓ (by kernel_rfl) ?_
      simp only [rs]
      repeat (refine opsG fun K hK => ?_; simp only [z, seval, enqueue_Check_t3]; (repeat (first | refine gcI ?_ | refine fun (_ : _ ≤ _) => ?_)); refine hK _ ?_; clear hK K)
      refine opsG0 ?_
      try simp only [seval, Exit.exit.injEq]
      refine ⟨(_, _), (Option.some.inj H).symm, ?_⟩
      exact weak_b [some 9004, some 9005] rfl rfl rfl (by simp only [wk, z, seval, enqueue_Check_t3]) (by simp only [wk, z, seval, enqueue_Check_t3])
    first | replace H := bif_f h8 H | replace H := bif_f2 h8 H (by simp only [List.length_append])
    refine Sm.exit ?_
    try simp only [seval, Exit.exit.injEq]
    refine ⟨⟨_, (Option.some.inj H).symm⟩, fun hz => ?_⟩
    have hyy := Sum.inr.inj ((Option.some.inj H).trans hz)
    subst hyy
    have H := Ho5
    try dsimp only at H
    try simp only [seval, Exit.exit.injEq]
    refine ⟨(), H, ?_⟩
    exact weak_b [] rfl rfl rfl (by simp only [wk, z, seval, enqueue_Check_t3]) (by simp only [wk, z, seval, enqueue_Check_t3])
  rintro ⟨⟩ H
  try dsimp only at H
  unfold enqueue_Check_k2 at H
  refine Sm.seqA h00 mixed hΓ (by kernel_rfl) fun K3 hK3 => ?_
  simp only [rs]
  repeat (refine opsG fun K hK => ?_; simp only [z, seval, enqueue_Check_s2]; (repeat (first | refine gcI ?_ | refine fun (_ : _ ≤ _) => ?_)); refine hK _ ?_; clear hK K)
  refine hK3 _ ?_
  refine Sm.ret ?_
  try simp only [seval, Exit.exit.injEq]
  obtain rfl := Option.some.inj H
  refine Ret.ofR [] (.inr rfl) ?_
  simp only [z, seval, enqueue_Check_s2]

def enqueue_index_1_M1 (n : Nat) (r_ : TRequest) (p1 : Int) : Option Bool :=
  some (r_.Job == p1)

theorem cenqueue_index_1_M1 (n : Nat) (r_ : TRequest) (p1 : Int) (r : Bool) (H : enqueue_index_1_M1 n r_ p1 = some r) : CallsM Tryd.prog 44 [.dat (true, [.int .i64, .slice 44]) [.int r_.Job, .slice (List.map e_TWant r_.Wants)], .ref (.box 0 0)] [.box [.c (.int .i64) (.int p1)]] [.c .bool (.bool r)] [.box [.c (.int .i64) (.int p1)]] := by
  have hΓ : ∀ g, g ∈ ([] : List Go.AE.Fn) → Contract Tryd.prog g := by simp
  refine callsM_of (Tryd.f44.body.getD .skip) h00 Tryd.func44 rfl (by intro args w; exact Tryd.call44 args w) (Nat.le_of_ble_eq_true rfl) (Nat.le_of_ble_eq_true rfl) ?_
  unfold enqueue_index_1_M1 at H
  simp only [Tryd.f44, Option.getD]
  refine Sm.seqA h00 mixed hΓ (by kernel_rfl) fun K1 hK1 => ?_
  simp only [rs]
  repeat (refine opsG fun K hK => ?_; simp only [z, seval]; (repeat (first | refine gcI ?_ | refine fun (_ : _ ≤ _) => ?_)); refine hK _ ?_; clear hK K)
  refine hK1 _ ?_
  refine Sm.seqA h00 mixed hΓ (by kernel_rfl) fun K2 hK2 => ?_
  simp only [rs]
  repeat (refine opsG fun K hK => ?_; simp only [z, seval]; (repeat (first | refine gcI ?_ | refine fun (_ : _ ≤ _) => ?_)); refine hK _ ?_; clear hK K)
  refine hK2 _ ?_
  refine Sm.ret ?_
  try simp only [seval, Exit.exit.injEq]
  obtain rfl := Option.some.inj H
  refine RetM.mk (.inr rfl) [some 0] rfl ?_
  simp only [z, seval]

abbrev slices_IndexFunc_f43_M2_s1 (f : Int) : S := stB [] [(0, .box [.c (.int .i64) (.int f)])]

def slices_IndexFunc_f43_M2_k1 (n : Nat) (f : Int) : Option Int :=
  some (-1)

abbrev slices_IndexFunc_f43_M2_t2 (f : Int) (s : List TRequest) (v7 : Int) (v8 : Int) : S := stB [(0, .c (.slice 50) (.slice (List.map e_TRequest s))), (1, .fnv 44 [.box 0 0]), (7, .c (.int .i64) (.int v7)), (8, .c (.int .i64) (.int v8))] [(0, .box [.c (.int .i64) (.int f)])]

def slices_IndexFunc_f43_M2_b2 (n : Nat) (f : Int) (s : List TRequest) (v7 : Int) (v8 : Int) : Option ((Int) ⊕ (((Int) ⊕ (Unit)))) :=
  bif (decide (v8 < v7)) then
    gd ((0 ≤ v8 ∧ v8 < (s.length : Int))) <|
    (enqueue_index_1_M1 n (gt s (Int.toNat v8)) f).bind fun r1 =>
    bif r1 then
      some (.inr (.inl v8))
    else
      some (.inl (IntKind.wrap .i64 (v8 + 1)))
  else
    some (.inr (.inr ()))

def slices_IndexFunc_f43_M2 (n : Nat) (s : List TRequest) (f : Int) : Option Int :=
  (loopF (fun (x : Int) => slices_IndexFunc_f43_M2_b2 n f s (s.length : Int) x) n 0).bind fun y4 =>
  match y4 with
  | .inl v =>
    some v
  | .inr v =>
    slices_IndexFunc_f43_M2_k1 n f

theorem cslices_IndexFunc_f43_M2 (n : Nat) (s : List TRequest) (f : Int) (r : Int) (H : slices_IndexFunc_f43_M2 n s f = some r) : CallsM Tryd.prog 43 [.dat (false, [.slice 50]) [.slice (List.map e_TRequest s)], .ref (.fnv 44 [.box 0 0])] [.box [.c (.int .i64) (.int f)]] [.c (.int .i64) (.int r)] [.box [.c (.int .i64) (.int f)]] := by
  have hΓ : ∀ g, g ∈ ([] : List Go.AE.Fn) → Contract Tryd.prog g := by simp
  refine callsM_of (Tryd.f43.body.getD .skip) h00 Tryd.func43 rfl (by intro args w; exact Tryd.call43 args w) (Nat.le_of_ble_eq_true rfl) (Nat.le_of_ble_eq_true rfl) ?_
  unfold slices_IndexFunc_f43_M2 at H
  simp only [Tryd.f43, Option.getD]
  refine Sm.seqA h00 mixed hΓ (by kernel_rfl) fun K1 hK1 => ?_
  simp only [rs]
  repeat (refine opsG fun K hK => ?_; simp only [z, seval]; (repeat (first | refine gcI ?_ | refine fun (_ : _ ≤ _) => ?_)); refine hK _ ?_; clear hK K)
  refine hK1 _ ?_
  refine Sm.cut (fun (x : Unit) => slices_IndexFunc_f43_M2_s1 f) (fun x => slices_IndexFunc_f43_M2_k1 n f = some r) ?_ ?_
  · refine Sm.seqA h00 mixed hΓ (by kernel_rfl) fun K3 hK3 => ?_
    simp only [rs]
    repeat (refine opsG fun K hK => ?_; simp only [z, seval]; (repeat (first | refine gcI ?_ | refine fun (_ : _ ≤ _) => ?_)); refine hK _ ?_; clear hK K)
    refine hK3 _ ?_
    refine Sm.block ?_
    obtain ⟨y4, hy4, Ho4⟩ := bind_some H
    refine Sm.loopB (fun (x : Int) => slices_IndexFunc_f43_M2_b2 n f s (s.length : Int) x) (fun x => slices_IndexFunc_f43_M2_t2 f s (s.length : Int) x) hy4 ?_ ?_
    · exact weak_b [some 0] rfl rfl rfl (by simp only [wk, z, seval]) (by simp only [wk, z, seval])
    rintro v8 z4 H
    try dsimp only at H
    unfold slices_IndexFunc_f43_M2_b2 at H
    refine Sm.seqA h00 mixed hΓ (by kernel_rfl) fun K5 hK5 => ?_
    simp only [rs]
    repeat (refine opsG fun K hK => ?_; simp only [z, seval, slices_IndexFunc_f43_M2_t2]; (repeat (first | refine gcI ?_ | refine fun (_ : _ ≤ _) => ?_)); refine hK _ ?_; clear hK K)
    refine hK5 _ ?_
    refine Sm.seqK fun K6 hK6 => ?_
    refine Sm.condK (by rfl) fun Ka Kb ha hb => ?_
    simp only [wpCond, z, seval, slices_IndexFunc_f43_M2_t2]
    refine ⟨fun h7 => ha ?_, fun h7 => hb ?_⟩
    · first | replace H := bif_t h7 H | replace H := bif_t2 h7 H (by simp only [List.length_append])
      refine Sm.skip ?_
      refine hK6 _ ?_
      refine Sm.seqK fun K8 hK8 => ?_
      refine Sm.block ?_
      refine Sm.seqA h00 mixed hΓ (by kernel_rfl) fun K9 hK9 => ?_
      simp only [rs]
      repeat (refine opsG fun K hK => ?_; simp only [z, seval, slices_IndexFunc_f43_M2_t2]; (repeat (first | refine gcI ?_ | refine fun (_ : _ ≤ _) => ?_)); refine hK _ ?_; clear hK K)
      refine hK9 _ ?_
      refine Sm.seqX h00 mixed hΓ (by kernel_rfl) fun K10 hK10 => ?_
      simp only [rs]
      obtain ⟨hg11, H⟩ := gd_some H
      obtain ⟨r1, hr1, H⟩ := bind_some H
      iterate 5 (refine opsX fun K hK => ?_; simp only [z, seval, slices_IndexFunc_f43_M2_t2]; (repeat (first | refine gcI ?_ | refine fun (_ : _ ≤ _) => ?_)); refine hK _ ?_; clear hK K)
      refine opsM (cenqueue_index_1_M1 n _ _ r1 hr1) [0] [] (by simp only [z, seval, slices_IndexFunc_f43_M2_t2, hr1]; try rfl) (by simp only [z, seval, slices_IndexFunc_f43_M2_t2, hr1]) (by simp only [z, seval, slices_IndexFunc_f43_M2_t2, hr1]) (by simp only [z, seval, slices_IndexFunc_f43_M2_t2, hr1]) (by simp only [z, seval, slices_IndexFunc_f43_M2_t2, hr1]) rfl (by simp only [z, seval, slices_IndexFunc_f43_M2_t2, hr1]) rfl ?_
      refine hK10 _ ?_
      refine Sm.condK (by rfl) fun Ka Kb ha hb => ?_
      simp only [wpCond, z, seval, slices_IndexFunc_f43_M2_t2]
      refine ⟨fun h12 => ha ?_, fun h12 => hb ?_⟩
      · first | replace H := bif_t h12 H | replace H := bif_t2 h12 H (by simp only [List.length_append])
        refine Sm.seqA h00 mixed hΓ (by kernel_rfl) fun K13 hK13 => ?_
        simp only [rs]
        repeat (refine opsG fun K hK => ?_; simp only [z, seval, slices_IndexFunc_f43_M2_t2]; (repeat (first | refine gcI ?_ | refine fun (_ : _ ≤ _) => ?_)); refine hK _ ?_; clear hK K)
        refine hK13 _ ?_
        refine Sm.ret ?_
        try simp only [seval, Exit.exit.injEq]
        refine ⟨⟨_, (Option.some.inj H).symm⟩, fun hz => ?_⟩
        have hyy := Sum.inr.inj ((Option.some.inj H).trans hz)
        subst hyy
        have H := Ho4
        try dsimp only at H
        try simp only [seval, Exit.exit.injEq]
        obtain rfl := Option.some.inj H
        refine RetM.mk (.inr rfl) [some 0] rfl ?_
        simp only [z, seval, slices_IndexFunc_f43_M2_t2]
      first | replace H := bif_f h12 H | replace H := bif_f2 h12 H (by simp only [List.length_append])
      refine Sm.skip ?_
      refine hK8 _ ?_
      refine Sm.regA h00 mixed hΓ (by kernel_rfl) ?_
      simp only [rs]
      repeat (refine opsG fun K hK => ?_; simp only [z, seval, slices_IndexFunc_f43_M2_t2]; (repeat (first | refine gcI ?_ | refine fun (_ : _ ≤ _) => ?_)); refine hK _ ?_; clear hK K)
      refine opsG0 ?_
      try simp only [seval, Exit.exit.injEq]
      refine ⟨_, (Option.some.inj H).symm, ?_⟩
      exact weak_b [some 0] rfl rfl rfl (by simp only [wk, z, seval, slices_IndexFunc_f43_M2_t2]) (by simp only [wk, z, seval, slices_IndexFunc_f43_M2_t2])
    first | replace H := bif_f h7 H | replace H := bif_f2 h7 H (by simp only [List.length_append])
    refine Sm.exit ?_
    try simp only [seval, Exit.exit.injEq]
    refine ⟨⟨_, (Option.some.inj H).symm⟩, fun hz => ?_⟩
    have hyy := Sum.inr.inj ((Option.some.inj H).trans hz)
    subst hyy
    have H := Ho4
    try dsimp only at H
    try simp only [seval, Exit.exit.injEq]
    refine ⟨(), H, ?_⟩
    exact weak_b [some 0] rfl rfl rfl (by simp only [wk, z, seval, slices_IndexFunc_f43_M2_t2]) (by simp only [wk, z, seval, slices_IndexFunc_f43_M2_t2])
  rintro ⟨⟩ H
  try dsimp only at H
  unfold slices_IndexFunc_f43_M2_k1 at H
  refine Sm.seqA h00 mixed hΓ (by kernel_rfl) fun K2 hK2 => ?_
  simp only [rs]
  repeat (refine opsG fun K hK => ?_; simp only [z, seval, slices_IndexFunc_f43_M2_s1]; (repeat (first | refine gcI ?_ | refine fun (_ : _ ≤ _) => ?_)); refine hK _ ?_; clear hK K)
  refine hK2 _ ?_
  refine Sm.ret ?_
  try simp only [seval, Exit.exit.injEq]
  obtain rfl := Option.some.inj H
  refine RetM.mk (.inr rfl) [some 0] rfl ?_
  simp only [z, seval, slices_IndexFunc_f43_M2_s1]

def enqueue_index (n : Nat) (l : List TRequest) (job : Int) : Option Int :=
  (slices_IndexFunc_f43_M2 n l job).bind fun r1 =>
  some r1

def xenqueue_index (n : Nat) : Go.AE.Fn := mkFn (A := (List TRequest) × Int) (R := Int) 26 [(false, [.slice 50]), (false, [.int .i64])] false (fun xs => (((cg (xs.getD 0 []) 0).toSl.map d_TRequest), (cg (xs.getD 1 []) 0).toInt)) (fun a => [[.slice (List.map e_TRequest a.1)], [.int a.2]]) (fun a => enqueue_index n a.1 a.2) (fun r => [.c (.int .i64) (.int r)]) (fun r => [])

theorem cenqueue_index (n : Nat) : Contract Tryd.prog (xenqueue_index n) := by
  have hΓ : ∀ g, g ∈ ([] : List Go.AE.Fn) → Contract Tryd.prog g := by simp
  refine contract_f (Tryd.f26.body.getD .skip) h00 Tryd.func26 rfl (by intro args w; exact Tryd.call26 args w) (by decide) (by intro _ r; exact ⟨rfl, by simp⟩) ?_
  rintro ⟨l, job⟩ r H
  try dsimp only at H
  unfold enqueue_index at H
  simp only [Tryd.f26, Option.getD]
  refine Sm.seqA h00 mixed hΓ (by kernel_rfl) fun K1 hK1 => ?_
  simp only [rs]
  repeat (refine opsG fun K hK => ?_; simp only [z, seval]; (repeat (first | refine gcI ?_ | refine fun (_ : _ ≤ _) => ?_)); refine hK _ ?_; clear hK K)
  refine hK1 _ ?_
  refine Sm.seqX h00 mixed hΓ (by kernel_rfl) fun K2 hK2 => ?_
  simp only [rs]
  obtain ⟨r1, hr1, H⟩ := bind_some H
  (refine opsX fun K hK => ?_; simp only [z, seval]; (repeat (first | refine gcI ?_ | refine fun (_ : _ ≤ _) => ?_)); refine hK _ ?_; clear hK K)
  refine opsY fun K hK => ?_; simp only [z, seval]; (repeat (first | refine gcI ?_ | refine fun (_ : _ ≤ _) => ?_)); refine hK _ ?_; clear hK K
  refine opsM (cslices_IndexFunc_f43_M2 n _ _ r1 hr1) [48] [] (by simp only [z, seval, hr1]; try rfl) (by simp only [z, seval, hr1]) (by simp only [z, seval, hr1]) (by simp only [z, seval, hr1]) (by simp only [z, seval, hr1]) rfl (by simp only [z, seval, hr1]) rfl ?_
  (refine opsX fun K hK => ?_; simp only [z, seval, hr1]; (repeat (first | refine gcI ?_ | refine fun (_ : _ ≤ _) => ?_)); refine hK _ ?_; clear hK K)
  refine hK2 _ ?_
  refine Sm.ret ?_
  try simp only [seval, Exit.exit.injEq]
  obtain rfl := Option.some.inj H
  refine Ret.ofR [] (.inr rfl) ?_
  simp only [z, seval]

def slices_SortFunc_f39_c40 (n : Nat) (s : List TWant) : Option (List TWant) := sortG (fun x y => enqueue_normalize_1 n x y) s

theorem cslices_SortFunc_f39_c40 (n : Nat) (s : List TWant) (r : List TWant) (H : slices_SortFunc_f39_c40 n s = some r) : CallsM Tryd.prog 39 [.ref (.own 0 [.str, .bool] 0 s.length), .ref (.fnv 40 [])] [.row 44 (List.map e_TWant s)] [] [.row 44 (List.map e_TWant r)] :=
  callsM_sortG lay39 ty44 Tryd.isAgg44 Tryd.sizeOf44 (by decide) (by decide) (by intro args w; exact Tryd.call40 args w) e_TWant (fun _ => rfl) (fun x y => enqueue_normalize_1 n x y) (fun x y c h => raw40 x y c h) s r H

abbrev enqueue_normalize_s2 (out : List TWant) : S := stB [(6, .own 9001 [.str, .bool] 0 out.length)] [(9001, .row 44 (List.map e_TWant out))]

def enqueue_normalize_k2 (n : Nat) (out : List TWant) : Option (List TWant) :=
  (slices_SortFunc_f39_c40 n out).bind fun r1 =>
  some (List.take out.length r1)

abbrev enqueue_normalize_t3 (out_1 : List TWant) (rest : List (List UInt8 × Bool)) : S := stB [(6, .own 9005 [.str, .bool] 0 out_1.length), (29, .mref 9006)] [(9005, .row 44 (List.map e_TWant out_1)), (9006, .it .str (false, [.bool]) none (List.map em_Str_Bool rest))]

def enqueue_normalize_b3 (n : Nat) (out_1 : List TWant) (oo : Option ((List UInt8) × Bool)) : Option (((List TWant)) ⊕ (((List TWant)))) :=
  match oo with
  | none =>
    some (.inr out_1)
  | some e9 =>
    gd ((out_1.length + 1) ≤ 2147483648) <|
    some (.inl (out_1 ++ [(⟨e9.1, e9.2⟩ : TWant)]))

abbrev enqueue_normalize_s1 (exclusive : List (List UInt8 × Bool)) : S := stB [(3, .mref 9000)] [(9000, .mp .str (false, [.bool]) (List.map em_Str_Bool exclusive))]

def enqueue_normalize_k1 (n : Nat) (exclusive : List (List UInt8 × Bool)) : Option (List TWant) :=
  allP exclusive fun q => (loopE (fun (x : (List TWant)) oo => enqueue_normalize_b3 n x oo) n [] q).bind fun y7 =>
  enqueue_normalize_k2 n y7

abbrev enqueue_normalize_t4 (l : List TWant) (v11 : Int) (exclusive_1 : List (List UInt8 × Bool)) (v12 : Int) : S := stB [(3, .mref 9008), (10, .c (.slice 44) (.slice (List.map e_TWant l))), (11, .c (.int .i64) (.int v11)), (12, .c (.int .i64) (.int v12))] [(9008, .mp .str (false, [.bool]) (List.map em_Str_Bool exclusive_1))]

def enqueue_normalize_b4 (n : Nat) (l : List TWant) (v11 : Int) (exclusive_1 : List (List UInt8 × Bool)) (v12 : Int) : Option (((List (List UInt8 × Bool)) × Int) ⊕ (((List (List UInt8 × Bool))))) :=
  bif (decide (v12 < v11)) then
    gd ((0 ≤ v12 ∧ v12 < (l.length : Int))) <|
    some (.inl ((tset ((gt l (Int.toNat v12)).Name) (if ((tget ((gt l (Int.toNat v12)).Name) exclusive_1).getD default) = true then true else (gt l (Int.toNat v12)).Exclusive) exclusive_1), (IntKind.wrap .i64 (v12 + 1))))
  else
    some (.inr exclusive_1)

def enqueue_normalize (n : Nat) (l : List TWant) : Option (List TWant) :=
  (loopF (fun (x : (List (List UInt8 × Bool)) × Int) => enqueue_normalize_b4 n l (l.length : Int) x.1 x.2) n ([], 0)).bind fun y17 =>
  enqueue_normalize_k1 n y17

def xenqueue_normalize (n : Nat) : Go.AE.Fn := mkFn (A := (List TWant)) (R := (List TWant)) 18 [(false, [.slice 44])] true (fun xs => ((cg (xs.getD 0 []) 0).toSl.map d_TWant)) (fun a => [[.slice (List.map e_TWant a)]]) (fun a => enqueue_normalize n a) (fun r => [.c (.slice 44) (.slice (List.map e_TWant r))]) (fun r => [])

theorem cenqueue_normalize (n : Nat) : Contract Tryd.prog (xenqueue_normalize n) := by
  have hΓ : ∀ g, g ∈ ([] : List Go.AE.Fn) → Contract Tryd.prog g := by simp
  refine contract_f (Tryd.f18.body.getD .skip) h00 Tryd.func18 rfl (by intro args w; exact Tryd.call18 args w) (by decide) (by intro h; cases h) ?_
  rintro l r H
  try dsimp only at H
  unfold enqueue_normalize at H
  simp only [Tryd.f18, Option.getD]
  refine Sm.seqA h00 mixed hΓ (by kernel_rfl) fun K1 hK1 => ?_
  simp only [rs]
  repeat (refine opsG fun K hK => ?_; simp only [z, seval]; (repeat (first | refine gcI ?_ | refine fun (_ : _ ≤ _) => ?_)); refine hK _ ?_; clear hK K)
  refine hK1 _ ?_
  refine Sm.seqA h00 mixed hΓ (by kernel_rfl) fun K2 hK2 => ?_
  simp only [rs]
  repeat (refine opsG fun K hK => ?_; simp only [z, seval]; (repeat (first | refine gcI ?_ | refine fun (_ : _ ≤ _) => ?_)); refine hK _ ?_; clear hK K)
  refine hK2 _ ?_
  refine Sm.cut (fun (x : (List (List UInt8 × Bool))) => enqueue_normalize_s1 x) (fun x => enqueue_normalize_k1 n x = some r) ?_ ?_
  · refine Sm.seqA h00 mixed hΓ (by kernel_rfl) fun K16 hK16 => ?_
    simp only [rs]
    repeat (refine opsG fun K hK => ?_; simp only [z, seval]; (repeat (first | refine gcI ?_ | refine fun (_ : _ ≤ _) => ?_)); refine hK _ ?_; clear hK K)
    refine hK16 _ ?_
    refine Sm.block ?_
    obtain ⟨y17, hy17, Ho17⟩ := bind_some H
    refine Sm.loopB (fun (x : (List (List UInt8 × Bool)) × Int) => enqueue_normalize_b4 n l (l.length : Int) x.1 x.2) (fun x => enqueue_normalize_t4 l (l.length : Int) x.1 x.2) hy17 ?_ ?_
    · exact weak_b [some 144] rfl rfl rfl (by simp only [wk, z, seval]) (by simp only [wk, z, seval])
    rintro ⟨exclusive_1, v12⟩ z17 H
    try dsimp only at H
    unfold enqueue_normalize_b4 at H
    refine Sm.seqA h00 mixed hΓ (by kernel_rfl) fun K18 hK18 => ?_
    simp only [rs]
    repeat (refine opsG fun K hK => ?_; simp only [z, seval, enqueue_normalize_t4]; (repeat (first | refine gcI ?_ | refine fun (_ : _ ≤ _) => ?_)); refine hK _ ?_; clear hK K)
    refine hK18 _ ?_
    refine Sm.seqK fun K19 hK19 => ?_
    refine Sm.condK (by rfl) fun Ka Kb ha hb => ?_
    simp only [wpCond, z, seval, enqueue_normalize_t4]
    refine ⟨fun h20 => ha ?_, fun h20 => hb ?_⟩
    · first | replace H := bif_t h20 H | replace H := bif_t2 h20 H (by simp only [List.length_append])
      refine Sm.skip ?_
      refine hK19 _ ?_
      refine Sm.seqK fun K21 hK21 => ?_
      refine Sm.block ?_
      obtain ⟨hg23, H⟩ := gd_some H
      refine Sm.seqA h00 mixed hΓ (by kernel_rfl) fun K22 hK22 => ?_
      simp only [rs]
      repeat (refine opsG fun K hK => ?_; simp only [z, seval, enqueue_normalize_t4]; (repeat (first | refine gcI ?_ | refine fun (_ : _ ≤ _) => ?_)); refine hK _ ?_; clear hK K)
      refine hK22 _ ?_
      refine Sm.regA h00 mixed hΓ (by kernel_rfl) ?_
      simp only [rs]
      repeat (refine opsG fun K hK => ?_; simp only [z, seval, enqueue_normalize_t4]; (repeat (first | refine gcI ?_ | refine fun (_ : _ ≤ _) => ?_)); refine hK _ ?_; clear hK K)
      refine opsG0 ?_
      refine hK21 _ ?_
      refine Sm.regA h00 mixed hΓ (by kernel_rfl) ?_
      simp only [rs]
      repeat (refine opsG fun K hK => ?_; simp only [z, seval, enqueue_normalize_t4]; (repeat (first | refine gcI ?_ | refine fun (_ : _ ≤ _) => ?_)); refine hK _ ?_; clear hK K)
      refine opsG0 ?_
      try simp only [seval, Exit.exit.injEq]
      refine ⟨(_, _), (Option.some.inj H).symm, ?_⟩
      exact weak_b [some 9008] rfl rfl rfl (by simp only [wk, z, seval, enqueue_normalize_t4]) (by simp only [wk, z, seval, enqueue_normalize_t4])
    first | replace H := bif_f h20 H | replace H := bif_f2 h20 H (by simp only [List.length_append])
    refine Sm.exit ?_
    try simp only [seval, Exit.exit.injEq]
    refine ⟨⟨_, (Option.some.inj H).symm⟩, fun hz => ?_⟩
    have hyy := Sum.inr.inj ((Option.some.inj H).trans hz)
    subst hyy
    have H := Ho17
    try dsimp only at H
    try simp only [seval, Exit.exit.injEq]
    refine ⟨_, H, ?_⟩
    exact weak_b [some 9008] rfl rfl rfl (by simp only [wk, z, seval, enqueue_normalize_t4]) (by simp only [wk, z, seval, enqueue_normalize_t4])
  rintro exclusive H
  try dsimp only at H
  unfold enqueue_normalize_k1 at H
  refine Sm.seqA h00 mixed hΓ (by kernel_rfl) fun K3 hK3 => ?_
  simp only [rs]
  repeat (refine opsG fun K hK => ?_; simp only [z, seval, enqueue_normalize_s1]; (repeat (first | refine gcI ?_ | refine fun (_ : _ ≤ _) => ?_)); refine hK _ ?_; clear hK K)
  refine hK3 _ ?_
  refine Sm.cut (fun (x : (List TWant)) => enqueue_normalize_s2 x) (fun x => enqueue_normalize_k2 n x = some r) ?_ ?_
  · refine Sm.seqX h00 mixed hΓ (by kernel_rfl) fun K6 hK6 => ?_
    simp only [rs]
    (refine opsX fun K hK => ?_; simp only [z, seval, enqueue_normalize_s1]; (repeat (first | refine gcI ?_ | refine fun (_ : _ ≤ _) => ?_)); refine hK _ ?_; clear hK K)
    refine opsE stepZ_ok fun K hK => ?_; simp only [z, seval, enqueue_normalize_s1]; (repeat (first | refine gcI ?_ | refine fun (_ : _ ≤ _) => ?_)); refine hK _ ?_; clear hK K
    refine hK6 _ ?_
    refine Sm.block ?_
    refine Sm.loopE (fun (x : (List TWant)) oo => enqueue_normalize_b3 n x oo) (fun x l => enqueue_normalize_t3 x l) _ (allP_some H) ?_ ?_
    · exact weak_b [none, some 464] rfl rfl rfl (by simp only [wk, z, seval, enqueue_normalize_s1]) (by simp only [wk, z, seval, enqueue_normalize_s1])
    rintro out_1 rest hdef_b3
    refine Sm.seqX h00 mixed hΓ (by kernel_rfl) fun K8 hK8 => ?_
    simp only [rs]
    refine opsE (stepLT_ok em_Str_Bool rest) fun K hK => ?_; simp only [z, seval, enqueue_normalize_t3]; (repeat (first | refine gcI ?_ | refine fun (_ : _ ≤ _) => ?_)); refine ⟨fun hl9 => hK _ ?_, fun e9 L9 hp9 => hK _ ?_⟩ <;> clear hK K
    · obtain ⟨z7, Hz9⟩ := hdef_b3 none [] ⟨hl9, rfl⟩
      have H := Hz9
      try dsimp only at H
      unfold enqueue_normalize_b3 at H
      try dsimp only at H
      (refine opsX fun K hK => ?_; simp only [z, seval, enqueue_normalize_t3]; (repeat (first | refine gcI ?_ | refine fun (_ : _ ≤ _) => ?_)); refine hK _ ?_; clear hK K)
      refine hK8 _ ?_
      refine Sm.seqK fun K10 hK10 => ?_
      refine Sm.condK (by rfl) fun Ka Kb ha hb => ?_
      simp only [wpCond, z, seval, enqueue_normalize_t3]
      refine hb ?_
      refine Sm.exit ?_
      refine ⟨none, [], _, ⟨hl9, rfl⟩, Hz9, ?_⟩
      try simp only [seval, Exit.exit.injEq]
      refine ⟨⟨_, (Option.some.inj H).symm⟩, fun y7 hz Ho7 => ?_⟩
      have hyy := Sum.inr.inj ((Option.some.inj H).trans hz)
      subst hyy
      have H := Ho7
      try dsimp only at H
      try simp only [seval, Exit.exit.injEq]
      refine ⟨_, H, ?_⟩
      exact weak_b [some 9005] rfl rfl rfl (by simp only [wk, z, seval, enqueue_normalize_t3]) (by simp only [wk, z, seval, enqueue_normalize_t3])
    · obtain ⟨z7, Hz9⟩ := hdef_b3 (some e9) L9 hp9
      have H := Hz9
      try dsimp only at H
      unfold enqueue_normalize_b3 at H
      try dsimp only at H
      (refine opsX fun K hK => ?_; simp only [z, seval, enqueue_normalize_t3]; (repeat (first | refine gcI ?_ | refine fun (_ : _ ≤ _) => ?_)); refine hK _ ?_; clear hK K)
      refine hK8 _ ?_
      refine Sm.seqK fun K12 hK12 => ?_
      refine Sm.condK (by rfl) fun Ka Kb ha hb => ?_
      simp only [wpCond, z, seval, enqueue_normalize_t3]
      refine ha ?_
      refine Sm.skip ?_
      refine hK12 _ ?_
      refine Sm.block ?_
      refine Sm.seqX h00 mixed hΓ (by kernel_rfl) fun K14 hK14 => ?_
      simp only [rs]
      refine opsE stepZ_ok fun K hK => ?_; simp only [z, seval, enqueue_normalize_t3]; (repeat (first | refine gcI ?_ | refine fun (_ : _ ≤ _) => ?_)); refine hK _ ?_; clear hK K
      iterate 4 (refine opsX fun K hK => ?_; simp only [z, seval, enqueue_normalize_t3]; (repeat (first | refine gcI ?_ | refine fun (_ : _ ≤ _) => ?_)); refine hK _ ?_; clear hK K)
      refine hK14 _ ?_
      obtain ⟨hg15, H⟩ := gd_some H
      refine Sm.regA h00 mixed hΓ (by kernel_rfl) ?_
      simp only [rs]
      repeat (refine opsG fun K hK => ?_; simp only [z, seval, enqueue_normalize_t3]; (repeat (first | refine gcI ?_ | refine fun (_ : _ ≤ _) => ?_)); refine hK _ ?_; clear hK K)
      refine opsG0 ?_
      refine ⟨some e9, L9, _, hp9, Hz9, ?_⟩
      try simp only [seval, Exit.exit.injEq]
      refine ⟨_, (Option.some.inj H).symm, ?_⟩
      exact weak_b [some 640, some 9006] rfl rfl rfl (by simp only [wk, z, seval, enqueue_normalize_t3]) (by simp only [wk, z, seval, enqueue_normalize_t3])
  rintro out H
  try dsimp only at H
  unfold enqueue_normalize_k2 at H
  refine Sm.seqX h00 mixed hΓ (by kernel_rfl) fun K4 hK4 => ?_
  simp only [rs]
  obtain ⟨r1, hr1, H⟩ := bind_some H
  (refine opsX fun K hK => ?_; simp only [z, seval, enqueue_normalize_s2]; (repeat (first | refine gcI ?_ | refine fun (_ : _ ≤ _) => ?_)); refine hK _ ?_; clear hK K)
  refine opsM (cslices_SortFunc_f39_c40 n _ r1 hr1) [9001] [] (by simp only [z, seval, enqueue_normalize_s2, hr1]; try rfl) (by simp only [z, seval, enqueue_normalize_s2, hr1]) (by simp only [z, seval, enqueue_normalize_s2, hr1]) (by simp only [z, seval, enqueue_normalize_s2, hr1]) (by simp only [z, seval, enqueue_normalize_s2, hr1]) rfl (by simp only [z, seval, enqueue_normalize_s2, hr1]) rfl ?_
  refine hK4 _ ?_
  refine Sm.seqA h00 mixed hΓ (by kernel_rfl) fun K5 hK5 => ?_
  simp only [rs]
  repeat (refine opsG fun K hK => ?_; simp only [z, seval, enqueue_normalize_s2]; (repeat (first | refine gcI ?_ | refine fun (_ : _ ≤ _) => ?_)); refine hK _ ?_; clear hK K)
  refine hK5 _ ?_
  refine Sm.ret ?_
  try simp only [seval, Exit.exit.injEq]
  obtain rfl := Option.some.inj H
  refine Ret.ofR [] (.inr rfl) ?_
  simp only [z, seval, enqueue_normalize_s2]

def slices_Clone_f65 (n : Nat) (s : List TWant) : Option (List TWant) :=
  uniB s fun nb1 =>
  bif nb1 then
    some []
  else
    gd (s.length ≤ 2147483648) <|
    some s

def xslices_Clone_f65 (n : Nat) : Go.AE.Fn := mkFn (A := (List TWant)) (R := (List TWant)) 65 [(false, [.slice 44])] false (fun xs => ((cg (xs.getD 0 []) 0).toSl.map d_TWant)) (fun a => [[.slice (List.map e_TWant a)]]) (fun a => slices_Clone_f65 n a) (fun r => [.own 0 [.str, .bool] 0 r.length]) (fun r => [.row 44 (List.map e_TWant r)])

theorem cslices_Clone_f65 (n : Nat) : Contract Tryd.prog (xslices_Clone_f65 n) := by
  have hΓ : ∀ g, g ∈ ([] : List Go.AE.Fn) → Contract Tryd.prog g := by simp
  refine contract_f (Tryd.f65.body.getD .skip) h00 Tryd.func65 rfl (by intro args w; exact Tryd.call65 args w) (by decide) (by
    intro _ r; refine ⟨rfl, ?_⟩; simp only [List.mem_cons, List.not_mem_nil, or_false]; rintro _ rfl
    · exact ⟨44, _, _, rfl, ty44, rfl⟩) ?_
  rintro s r H
  try dsimp only at H
  unfold slices_Clone_f65 at H
  simp only [Tryd.f65, Option.getD]
  refine Sm.seqA h00 mixed hΓ (by kernel_rfl) fun K1 hK1 => ?_
  simp only [rs]
  repeat (refine opsG fun K hK => ?_; simp only [z, seval]; (repeat (first | refine gcI ?_ | refine fun (_ : _ ≤ _) => ?_)); refine hK _ ?_; clear hK K)
  refine hK1 _ ?_
  refine Sm.seqK fun K2 hK2 => ?_
  refine Sm.seqX h00 mixed hΓ (by kernel_rfl) fun K3 hK3 => ?_
  simp only [rs]
  (refine opsX fun K hK => ?_; simp only [z, seval]; (repeat (first | refine gcI ?_ | refine fun (_ : _ ≤ _) => ?_)); refine hK _ ?_; clear hK K)
  refine opsN fun K hK => ?_; simp only [z, seval]; (repeat (first | refine gcI ?_ | refine fun (_ : _ ≤ _) => ?_)); intro nb1 hnb1; refine hK _ ?_; clear hK K
  replace H := uniB_some H nb1 (fun hb => by simpa using hnb1 hb)
  refine hK3 _ ?_
  refine Sm.condK (by rfl) fun Ka Kb ha hb => ?_
  simp only [wpCond, z, seval]
  refine ⟨fun h4 => ha ?_, fun h4 => hb ?_⟩
  · first | replace H := bif_t h4 H | replace H := bif_t2 h4 H (by simp only [List.length_append])
    refine Sm.seqA h00 mixed hΓ (by kernel_rfl) fun K5 hK5 => ?_
    simp only [rs]
    repeat (refine opsG fun K hK => ?_; simp only [z, seval]; (repeat (first | refine gcI ?_ | refine fun (_ : _ ≤ _) => ?_)); refine hK _ ?_; clear hK K)
    refine hK5 _ ?_
    refine Sm.ret ?_
    try simp only [seval, Exit.exit.injEq]
    obtain rfl := Option.some.inj H
    refine Ret.ofR [none] (.inr rfl) ?_
    simp only [z, seval]
    try omega
  first | replace H := bif_f h4 H | replace H := bif_f2 h4 H (by simp only [List.length_append])
  refine Sm.skip ?_
  refine hK2 _ ?_
  obtain ⟨hg7, H⟩ := gd_some H
  refine Sm.seqA h00 mixed hΓ (by kernel_rfl) fun K6 hK6 => ?_
  simp only [rs]
  repeat (refine opsG fun K hK => ?_; simp only [z, seval]; (repeat (first | refine gcI ?_ | refine fun (_ : _ ≤ _) => ?_)); refine hK _ ?_; clear hK K)
  refine hK6 _ ?_
  refine Sm.ret ?_
  try simp only [seval, Exit.exit.injEq]
  obtain rfl := Option.some.inj H
  refine Ret.ofR [some 112] (.inr rfl) ?_
  simp only [z, seval]
  try omega

abbrev enqueue_copied_s1 (out : List TRequest) : S := stB [(3, .own 9000 [.int .i64, .slice 44] 0 out.length)] [(9000, .row 50 (List.map e_TRequest out))]

def enqueue_copied_k1 (n : Nat) (out : List TRequest) : Option (List TRequest) :=
  some out

abbrev enqueue_copied_t2 (l : List TRequest) (v7 : Int) (out_1 : List TRequest) (v8 : Int) : S := stB [(3, .own 9002 [.int .i64, .slice 44] 0 out_1.length), (6, .c (.slice 50) (.slice (List.map e_TRequest l))), (7, .c (.int .i64) (.int v7)), (8, .c (.int .i64) (.int v8))] [(9002, .row 50 (List.map e_TRequest out_1))]

def enqueue_copied_b2 (n : Nat) (l : List TRequest) (v7 : Int) (out_1 : List TRequest) (v8 : Int) : Option (((List TRequest) × Int) ⊕ (((List TRequest)))) :=
  bif (decide (v8 < v7)) then
    gd ((0 ≤ v8 ∧ v8 < (l.length : Int))) <|
    (slices_Clone_f65 n ((gt l (Int.toNat v8)).Wants)).bind fun r1 =>
    gd ((out_1.length + 1) ≤ 2147483648) <|
    some (.inl ((out_1 ++ [(⟨(gt l (Int.toNat v8)).Job, r1⟩ : TRequest)]), (IntKind.wrap .i64 (v8 + 1))))
  else
    some (.inr out_1)

def enqueue_copied (n : Nat) (l : List TRequest) : Option (List TRequest) :=
  (loopF (fun (x : (List TRequest) × Int) => enqueue_copied_b2 n l (l.length : Int) x.1 x.2) n ([], 0)).bind fun y5 =>
  enqueue_copied_k1 n y5

def xenqueue_copied (n : Nat) : Go.AE.Fn := mkFn (A := (List TRequest)) (R := (List TRequest)) 45 [(false, [.slice 50])] true (fun xs => ((cg (xs.getD 0 []) 0).toSl.map d_TRequest)) (fun a => [[.slice (List.map e_TRequest a)]]) (fun a => enqueue_copied n a) (fun r => [.own 0 [.int .i64, .slice 44] 0 r.length]) (fun r => [.row 50 (List.map e_TRequest r)])

theorem cenqueue_copied (n : Nat) : Contract Tryd.prog (xenqueue_copied n) := by
  have hΓ : ∀ g, g ∈ ([xslices_Clone_f65 n] : List Go.AE.Fn) → Contract Tryd.prog g := by
    intro g hg; simp only [List.mem_cons, List.not_mem_nil, or_false] at hg; subst hg; exact cslices_Clone_f65 n
  refine contract_f (Tryd.f45.body.getD .skip) h00 Tryd.func45 rfl (by intro args w; exact Tryd.call45 args w) (by decide) (by intro h; cases h) ?_
  rintro l r H
  try dsimp only at H
  unfold enqueue_copied at H
  simp only [Tryd.f45, Option.getD]
  refine Sm.seqA h00 mixed hΓ (by kernel_rfl) fun K1 hK1 => ?_
  simp only [rs]
  repeat (refine opsG fun K hK => ?_; simp only [z, seval]; (repeat (first | refine gcI ?_ | refine fun (_ : _ ≤ _) => ?_)); refine hK _ ?_; clear hK K)
  refine hK1 _ ?_
  refine Sm.seqA h00 mixed hΓ (by kernel_rfl) fun K2 hK2 => ?_
  simp only [rs]
  repeat (refine opsG fun K hK => ?_; simp only [z, seval]; (repeat (first | refine gcI ?_ | refine fun (_ : _ ≤ _) => ?_)); refine hK _ ?_; clear hK K)
  refine hK2 _ ?_
  refine Sm.cut (fun (x : (List TRequest)) => enqueue_copied_s1 x) (fun x => enqueue_copied_k1 n x = some r) ?_ ?_
  · refine Sm.seqA h00 mixed hΓ (by kernel_rfl) fun K4 hK4 => ?_
    simp only [rs]
    repeat (refine opsG fun K hK => ?_; simp only [z, seval]; (repeat (first | refine gcI ?_ | refine fun (_ : _ ≤ _) => ?_)); refine hK _ ?_; clear hK K)
    refine hK4 _ ?_
    refine Sm.block ?_
    obtain ⟨y5, hy5, Ho5⟩ := bind_some H
    refine Sm.loopB (fun (x : (List TRequest) × Int) => enqueue_copied_b2 n l (l.length : Int) x.1 x.2) (fun x => enqueue_copied_t2 l (l.length : Int) x.1 x.2) hy5 ?_ ?_
    · exact weak_b [none] rfl rfl rfl (by simp only [wk, z, seval]) (by simp only [wk, z, seval])
    rintro ⟨out_1, v8⟩ z5 H
    try dsimp only at H
    unfold enqueue_copied_b2 at H
    refine Sm.seqA h00 mixed hΓ (by kernel_rfl) fun K6 hK6 => ?_
    simp only [rs]
    repeat (refine opsG fun K hK => ?_; simp only [z, seval, enqueue_copied_t2]; (repeat (first | refine gcI ?_ | refine fun (_ : _ ≤ _) => ?_)); refine hK _ ?_; clear hK K)
    refine hK6 _ ?_
    refine Sm.seqK fun K7 hK7 => ?_
    refine Sm.condK (by rfl) fun Ka Kb ha hb => ?_
    simp only [wpCond, z, seval, enqueue_copied_t2]
    refine ⟨fun h8 => ha ?_, fun h8 => hb ?_⟩
    · first | replace H := bif_t h8 H | replace H := bif_t2 h8 H (by simp only [List.length_append])
      refine Sm.skip ?_
      refine hK7 _ ?_
      refine Sm.seqK fun K9 hK9 => ?_
      refine Sm.block ?_
      obtain ⟨hg12, H⟩ := gd_some H
      refine Sm.seqA h00 mixed hΓ (by kernel_rfl) fun K10 hK10 => ?_
      simp only [rs]
      repeat (refine opsG fun K hK => ?_; simp only [z, seval, enqueue_copied_t2]; (repeat (first | refine gcI ?_ | refine fun (_ : _ ≤ _) => ?_)); refine hK _ ?_; clear hK K)
      refine hK10 _ ?_
      obtain ⟨r1, hr1, H⟩ := bind_some H
      obtain ⟨hg11, H⟩ := gd_some H
      refine Sm.regQ h00 mixed hΓ [0, 1, 2, 3, 4, 5, 6, 7, 8, 9] [(none, [], []), (none, [80], []), (none, [80], []), (none, [80], []), (none, [80], []), (none, [], [287, 286, 285, 284, 283, 282, 281, 280, 279, 278, 277, 276, 275, 274, 273, 272]), (none, [272], []), (none, [272], [304, 272]), (none, [304, 9002], [320, 9002]), (none, [], [])] (by kernel_rfl) rfl ?_
      simp only [rs]
      iterate 10 (refine opsQ fun K hK => ?_; simp only [z, seval, enqueue_copied_t2, xslices_Clone_f65, hr1]; (repeat (first | refine gcI ?_ | refine fun (_ : _ ≤ _) => ?_)); refine hK _ ?_; clear hK K)
      refine opsQ0 ?_
      refine hK9 _ ?_
      refine Sm.regA h00 mixed hΓ (by kernel_rfl) ?_
      simp only [rs]
      repeat (refine opsG fun K hK => ?_; simp only [z, seval, enqueue_copied_t2]; (repeat (first | refine gcI ?_ | refine fun (_ : _ ≤ _) => ?_)); refine hK _ ?_; clear hK K)
      refine opsG0 ?_
      try simp only [seval, Exit.exit.injEq]
      refine ⟨(_, _), (Option.some.inj H).symm, ?_⟩
      exact weak_b [some 320] rfl rfl rfl (by simp only [wk, z, seval, enqueue_copied_t2]) (by simp only [wk, z, seval, enqueue_copied_t2])
    first | replace H := bif_f h8 H | replace H := bif_f2 h8 H (by simp only [List.length_append])
    refine Sm.exit ?_
    try simp only [seval, Exit.exit.injEq]
    refine ⟨⟨_, (Option.some.inj H).symm⟩, fun hz => ?_⟩
    have hyy := Sum.inr.inj ((Option.some.inj H).trans hz)
    subst hyy
    have H := Ho5
    try dsimp only at H
    try simp only [seval, Exit.exit.injEq]
    refine ⟨_, H, ?_⟩
    exact weak_b [some 9002] rfl rfl rfl (by simp only [wk, z, seval, enqueue_copied_t2]) (by simp only [wk, z, seval, enqueue_copied_t2])
  rintro out H
  try dsimp only at H
  unfold enqueue_copied_k1 at H
  refine Sm.seqA h00 mixed hΓ (by kernel_rfl) fun K3 hK3 => ?_
  simp only [rs]
  repeat (refine opsG fun K hK => ?_; simp only [z, seval, enqueue_copied_s1]; (repeat (first | refine gcI ?_ | refine fun (_ : _ ≤ _) => ?_)); refine hK _ ?_; clear hK K)
  refine hK3 _ ?_
  refine Sm.ret ?_
  try simp only [seval, Exit.exit.injEq]
  obtain rfl := Option.some.inj H
  refine Ret.ofR [some 9000] (.inr rfl) ?_
  simp only [z, seval, enqueue_copied_s1]
  try omega

def enqueue_Table__copied (n : Nat) (t : TTable) : Option TTable :=
  (enqueue_copied n t.Held).bind fun r1 =>
  (enqueue_copied n t.Waiting).bind fun r2 =>
  some (⟨r1, r2⟩ : TTable)

def xenqueue_Table__copied (n : Nat) : Go.AE.Fn := mkFn (A := TTable) (R := TTable) 27 [(true, [.slice 50, .slice 50])] true (fun xs => (⟨((cg (xs.getD 0 []) 0).toSl.map d_TRequest), ((cg (xs.getD 0 []) 1).toSl.map d_TRequest)⟩ : TTable)) (fun a => [[.slice (List.map e_TRequest a.Held), .slice (List.map e_TRequest a.Waiting)]]) (fun a => enqueue_Table__copied n a) (fun r => [.agg [.own 0 [.int .i64, .slice 44] 0 r.Held.length, .own 1 [.int .i64, .slice 44] 0 r.Waiting.length]]) (fun r => [.row 50 (List.map e_TRequest r.Held), .row 50 (List.map e_TRequest r.Waiting)])

theorem cenqueue_Table__copied (n : Nat) : Contract Tryd.prog (xenqueue_Table__copied n) := by
  have hΓ : ∀ g, g ∈ ([xenqueue_copied n] : List Go.AE.Fn) → Contract Tryd.prog g := by
    intro g hg; simp only [List.mem_cons, List.not_mem_nil, or_false] at hg; subst hg; exact cenqueue_copied n
  refine contract_f (Tryd.f27.body.getD .skip) h00 Tryd.func27 rfl (by intro args w; exact Tryd.call27 args w) (by decide) (by intro h; cases h) ?_
  rintro t r H
  try dsimp only at H
  unfold enqueue_Table__copied at H
  simp only [Tryd.f27, Option.getD]
  refine Sm.seqA h00 mixed hΓ (by kernel_rfl) fun K1 hK1 => ?_
  simp only [rs]
  repeat (refine opsG fun K hK => ?_; simp only [z, seval]; (repeat (first | refine gcI ?_ | refine fun (_ : _ ≤ _) => ?_)); refine hK _ ?_; clear hK K)
  refine hK1 _ ?_
  obtain ⟨r1, hr1, H⟩ := bind_some H
  obtain ⟨r2, hr2, H⟩ := bind_some H
  refine Sm.seqQ h00 mixed hΓ [0, 1, 2, 3, 4, 5, 6, 7] [(none, [16], []), (none, [16], []), (none, [], [95, 94, 93, 92, 91, 90, 89, 88, 87, 86, 85, 84, 83, 82, 81, 80]), (none, [16], []), (none, [16], []), (none, [], [143, 142, 141, 140, 139, 138, 137, 136, 135, 134, 133, 132, 131, 130, 129, 128]), (none, [80, 128], []), (none, [32, 80, 128], [32])] (by kernel_rfl) rfl fun K2 hK2 => ?_
  simp only [rs]
  iterate 8 (refine opsQ fun K hK => ?_; simp only [z, seval, xenqueue_copied, hr1, hr2]; (repeat (first | refine gcI ?_ | refine fun (_ : _ ≤ _) => ?_)); refine hK _ ?_; clear hK K)
  refine opsQ0 ?_
  refine hK2 _ ?_
  refine Sm.ret ?_
  try simp only [seval, Exit.exit.injEq]
  obtain rfl := Option.some.inj H
  refine Ret.ofR [some 80, some 128] (.inr rfl) ?_
  simp only [z, seval]
  try omega

def enqueue_Ask (n : Nat) (t : TTable) (job : Int) (wants : List TWant) : Option (TTable × Bool × Int) :=
  (enqueue_Check n t).bind fun r1 =>
  bif (r1 != 0) then
    some ((⟨[], []⟩ : TTable), false, r1)
  else
    (enqueue_index n t.Held job).bind fun r2 =>
    gd (((!(decide (r2 ≥ 0))) = true → (enqueue_index n t.Waiting job).isSome = true)) <|
    bif (if (decide (r2 ≥ 0)) = true then true else (decide (((enqueue_index n t.Waiting job).getD default) ≥ 0))) then
      some ((⟨[], []⟩ : TTable), false, 4)
    else
      (enqueue_normalize n wants).bind fun r3 =>
      bif (decide ((r3.length : Int) > 512)) then
        some ((⟨[], []⟩ : TTable), false, 2)
      else
        (enqueue_Table__copied n t).bind fun r4 =>
        (enqueue_Request__blocked n (⟨job, r3⟩ : TRequest) t.Held).bind fun r5 =>
        gd (((!r5) = true → (enqueue_Request__blocked n (⟨job, r3⟩ : TRequest) t.Waiting).isSome = true)) <|
        bif (if r5 = true then true else ((enqueue_Request__blocked n (⟨job, r3⟩ : TRequest) t.Waiting).getD default)) then
          gd ((r4.Waiting.length + 1) ≤ 2147483648) <|
          some ((⟨r4.Held, (r4.Waiting ++ [(⟨job, r3⟩ : TRequest)])⟩ : TTable), false, 0)
        else
          gd ((r4.Held.length + 1) ≤ 2147483648) <|
          some ((⟨(r4.Held ++ [(⟨job, r3⟩ : TRequest)]), r4.Waiting⟩ : TTable), true, 0)

def xenqueue_Ask (n : Nat) : Go.AE.Fn := mkFn (A := TTable × Int × (List TWant)) (R := TTable × Bool × Int) 9 [(true, [.slice 50, .slice 50]), (false, [.int .i64]), (false, [.slice 44])] true (fun xs => ((⟨((cg (xs.getD 0 []) 0).toSl.map d_TRequest), ((cg (xs.getD 0 []) 1).toSl.map d_TRequest)⟩ : TTable), (cg (xs.getD 1 []) 0).toInt, ((cg (xs.getD 2 []) 0).toSl.map d_TWant))) (fun a => [[.slice (List.map e_TRequest a.1.Held), .slice (List.map e_TRequest a.1.Waiting)], [.int a.2.1], [.slice (List.map e_TWant a.2.2)]]) (fun a => enqueue_Ask n a.1 a.2.1 a.2.2) (fun r => [.agg [.own 0 [.int .i64, .slice 44] 0 r.1.Held.length, .own 1 [.int .i64, .slice 44] 0 r.1.Waiting.length], .c .bool (.bool r.2.1), .c (.int .i64) (.int r.2.2)]) (fun r => [.row 50 (List.map e_TRequest r.1.Held), .row 50 (List.map e_TRequest r.1.Waiting)])

theorem cenqueue_Ask (n : Nat) : Contract Tryd.prog (xenqueue_Ask n) := by
  have hΓ : ∀ g, g ∈ ([xenqueue_Check n, xenqueue_index n, xenqueue_normalize n, xenqueue_Table__copied n, xenqueue_Request__blocked n] : List Go.AE.Fn) → Contract Tryd.prog g := by
    intro g hg; simp only [List.mem_cons, List.not_mem_nil, or_false] at hg; rcases hg with rfl | rfl | rfl | rfl | rfl; exact cenqueue_Check n; exact cenqueue_index n; exact cenqueue_normalize n; exact cenqueue_Table__copied n; exact cenqueue_Request__blocked n
  refine contract_f (Tryd.f9.body.getD .skip) h00 Tryd.func9 rfl (by intro args w; exact Tryd.call9 args w) (by decide) (by intro h; cases h) ?_
  rintro ⟨t, job, wants⟩ r H
  try dsimp only at H
  unfold enqueue_Ask at H
  simp only [Tryd.f9, Option.getD]
  refine Sm.seqA h00 mixed hΓ (by kernel_rfl) fun K1 hK1 => ?_
  simp only [rs]
  repeat (refine opsG fun K hK => ?_; simp only [z, seval]; (repeat (first | refine gcI ?_ | refine fun (_ : _ ≤ _) => ?_)); refine hK _ ?_; clear hK K)
  refine hK1 _ ?_
  refine Sm.seqK fun K2 hK2 => ?_
  obtain ⟨r1, hr1, H⟩ := bind_some H
  refine Sm.seqA h00 mixed hΓ (by kernel_rfl) fun K3 hK3 => ?_
  simp only [rs]
  repeat (refine opsG fun K hK => ?_; simp only [z, seval, xenqueue_Check, hr1]; (repeat (first | refine gcI ?_ | refine fun (_ : _ ≤ _) => ?_)); refine hK _ ?_; clear hK K)
  refine hK3 _ ?_
  refine Sm.seqA h00 mixed hΓ (by kernel_rfl) fun K4 hK4 => ?_
  simp only [rs]
  repeat (refine opsG fun K hK => ?_; simp only [z, seval]; (repeat (first | refine gcI ?_ | refine fun (_ : _ ≤ _) => ?_)); refine hK _ ?_; clear hK K)
  refine hK4 _ ?_
  refine Sm.condK (by rfl) fun Ka Kb ha hb => ?_
  simp only [wpCond, z, seval]
  refine ⟨fun h5 => ha ?_, fun h5 => hb ?_⟩
  · first | replace H := bif_t h5 H | replace H := bif_t2 h5 H (by simp only [List.length_append])
    refine Sm.seqA h00 mixed hΓ (by kernel_rfl) fun K6 hK6 => ?_
    simp only [rs]
    repeat (refine opsG fun K hK => ?_; simp only [z, seval]; (repeat (first | refine gcI ?_ | refine fun (_ : _ ≤ _) => ?_)); refine hK _ ?_; clear hK K)
    refine hK6 _ ?_
    refine Sm.ret ?_
    try simp only [seval, Exit.exit.injEq]
    obtain rfl := Option.some.inj H
    refine Ret.ofR [none, none] (.inr rfl) ?_
    simp only [z, seval]
    try omega
  first | replace H := bif_f h5 H | replace H := bif_f2 h5 H (by simp only [List.length_append])
  refine Sm.skip ?_
  refine hK2 _ ?_
  refine Sm.seqK fun K7 hK7 => ?_
  obtain ⟨r2, hr2, H⟩ := bind_some H
  obtain ⟨hg27, H⟩ := gd_some H
  refine Sm.seqA h00 mixed hΓ (by kernel_rfl) fun K8 hK8 => ?_
  simp only [rs]
  repeat (refine opsG fun K hK => ?_; simp only [z, seval, xenqueue_Check, xenqueue_index, hr2]; (repeat (first | refine gcI ?_ | refine fun (_ : _ ≤ _) => ?_)); refine hK _ ?_; clear hK K)
  refine hK8 _ ?_
  refine Sm.condK (by rfl) fun Ka Kb ha hb => ?_
  simp only [wpCond, z, seval]
  refine ⟨fun h9 => ha ?_, fun h9 => hb ?_⟩
  · first | replace H := bif_t h9 H | replace H := bif_t2 h9 H (by simp only [List.length_append])
    refine Sm.seqA h00 mixed hΓ (by kernel_rfl) fun K10 hK10 => ?_
    simp only [rs]
    repeat (refine opsG fun K hK => ?_; simp only [z, seval]; (repeat (first | refine gcI ?_ | refine fun (_ : _ ≤ _) => ?_)); refine hK _ ?_; clear hK K)
    refine hK10 _ ?_
    refine Sm.ret ?_
    try simp only [seval, Exit.exit.injEq]
    obtain rfl := Option.some.inj H
    refine Ret.ofR [none, none] (.inr rfl) ?_
    simp only [z, seval]
    try omega
  first | replace H := bif_f h9 H | replace H := bif_f2 h9 H (by simp only [List.length_append])
  refine Sm.skip ?_
  refine hK7 _ ?_
  obtain ⟨r3, hr3, H⟩ := bind_some H
  refine Sm.seqA h00 mixed hΓ (by kernel_rfl) fun K11 hK11 => ?_
  simp only [rs]
  repeat (refine opsG fun K hK => ?_; simp only [z, seval, xenqueue_Check, xenqueue_index, xenqueue_normalize, hr3]; (repeat (first | refine gcI ?_ | refine fun (_ : _ ≤ _) => ?_)); refine hK _ ?_; clear hK K)
  refine hK11 _ ?_
  refine Sm.seqK fun K12 hK12 => ?_
  refine Sm.seqA h00 mixed hΓ (by kernel_rfl) fun K13 hK13 => ?_
  simp only [rs]
  repeat (refine opsG fun K hK => ?_; simp only [z, seval]; (repeat (first | refine gcI ?_ | refine fun (_ : _ ≤ _) => ?_)); refine hK _ ?_; clear hK K)
  refine hK13 _ ?_
  refine Sm.condK (by rfl) fun Ka Kb ha hb => ?_
  simp only [wpCond, z, seval]
  refine ⟨fun h14 => ha ?_, fun h14 => hb ?_⟩
  · first | replace H := bif_t h14 H | replace H := bif_t2 h14 H (by simp only [List.length_append])
    refine Sm.seqA h00 mixed hΓ (by kernel_rfl) fun K15 hK15 => ?_
    simp only [rs]
    repeat (refine opsG fun K hK => ?_; simp only [z, seval]; (repeat (first | refine gcI ?_ | refine fun (_ : _ ≤ _) => ?_)); refine hK _ ?_; clear hK K)
    refine hK15 _ ?_
    refine Sm.ret ?_
    try simp only [seval, Exit.exit.injEq]
    obtain rfl := Option.some.inj H
    refine Ret.ofR [none, none] (.inr rfl) ?_
    simp only [z, seval]
    try omega
  first | replace H := bif_f h14 H | replace H := bif_f2 h14 H (by simp only [List.length_append])
  refine Sm.skip ?_
  refine hK12 _ ?_
  obtain ⟨r4, hr4, H⟩ := bind_some H
  refine Sm.seqA h00 mixed hΓ (by kernel_rfl) fun K16 hK16 => ?_
  simp only [rs]
  repeat (refine opsG fun K hK => ?_; simp only [z, seval, xenqueue_Check, xenqueue_index, xenqueue_normalize, xenqueue_Table__copied, hr4]; (repeat (first | refine gcI ?_ | refine fun (_ : _ ≤ _) => ?_)); refine hK _ ?_; clear hK K)
  refine hK16 _ ?_
  refine Sm.seqK fun K17 hK17 => ?_
  obtain ⟨r5, hr5, H⟩ := bind_some H
  obtain ⟨hg26, H⟩ := gd_some H
  refine Sm.seqA h00 mixed hΓ (by kernel_rfl) fun K18 hK18 => ?_
  simp only [rs]
  repeat (refine opsG fun K hK => ?_; simp only [z, seval, xenqueue_Check, xenqueue_index, xenqueue_normalize, xenqueue_Table__copied, xenqueue_Request__blocked, hr5]; (repeat (first | refine gcI ?_ | refine fun (_ : _ ≤ _) => ?_)); refine hK _ ?_; clear hK K)
  refine hK18 _ ?_
  refine Sm.condK (by rfl) fun Ka Kb ha hb => ?_
  simp only [wpCond, z, seval]
  refine ⟨fun h19 => ha ?_, fun h19 => hb ?_⟩
  · first | replace H := bif_t h19 H | replace H := bif_t2 h19 H (by simp only [List.length_append])
    obtain ⟨hg22, H⟩ := gd_some H
    refine Sm.seqA h00 mixed hΓ (by kernel_rfl) fun K20 hK20 => ?_
    simp only [rs]
    repeat (refine opsG fun K hK => ?_; simp only [z, seval]; (repeat (first | refine gcI ?_ | refine fun (_ : _ ≤ _) => ?_)); refine hK _ ?_; clear hK K)
    refine hK20 _ ?_
    refine Sm.seqA h00 mixed hΓ (by kernel_rfl) fun K21 hK21 => ?_
    simp only [rs]
    repeat (refine opsG fun K hK => ?_; simp only [z, seval]; (repeat (first | refine gcI ?_ | refine fun (_ : _ ≤ _) => ?_)); refine hK _ ?_; clear hK K)
    refine hK21 _ ?_
    refine Sm.ret ?_
    try simp only [seval, Exit.exit.injEq]
    obtain rfl := Option.some.inj H
    refine Ret.ofR [some 656, some 896] (.inr rfl) ?_
    simp only [z, seval]
    try omega
  first | replace H := bif_f h19 H | replace H := bif_f2 h19 H (by simp only [List.length_append])
  refine Sm.skip ?_
  refine hK17 _ ?_
  obtain ⟨hg25, H⟩ := gd_some H
  refine Sm.seqA h00 mixed hΓ (by kernel_rfl) fun K23 hK23 => ?_
  simp only [rs]
  repeat (refine opsG fun K hK => ?_; simp only [z, seval]; (repeat (first | refine gcI ?_ | refine fun (_ : _ ≤ _) => ?_)); refine hK _ ?_; clear hK K)
  refine hK23 _ ?_
  refine Sm.seqA h00 mixed hΓ (by kernel_rfl) fun K24 hK24 => ?_
  simp only [rs]
  repeat (refine opsG fun K hK => ?_; simp only [z, seval]; (repeat (first | refine gcI ?_ | refine fun (_ : _ ≤ _) => ?_)); refine hK _ ?_; clear hK K)
  refine hK24 _ ?_
  refine Sm.ret ?_
  try simp only [seval, Exit.exit.injEq]
  obtain rfl := Option.some.inj H
  refine Ret.ofR [some 1008, some 657] (.inr rfl) ?_
  simp only [z, seval]
  try omega

def slices_Delete_f29_M1 (n : Nat) (s : List TRequest) (i : Int) (j : Int) : Option (Nat × (List TRequest)) :=
  gd ((0 ≤ i ∧ i ≤ j ∧ j ≤ ((s.length : Nat) : Int) ∧ ((s.length : Nat) : Int) ≤ (s.length : Int))) <|
  bif (i == j) then
    some (s.length, s)
  else
    gd ((0 ≤ i ∧ i ≤ (s.length : Int)) ∧ (0 ≤ j ∧ j ≤ (s.length : Int) ∧ (s.length : Int) ≤ (s.length : Int)) ∧ ((Int.toNat (i - 0)) + (List.take (Int.toNat ((s.length : Int) - j)) (List.drop (Int.toNat j) s)).length) ≤ s.length) <|
    gd ((0 ≤ ((((Int.toNat (i - 0)) + (List.take (Int.toNat ((s.length : Int) - j)) (List.drop (Int.toNat j) s)).length) : Nat) : Int) ∧ ((((Int.toNat (i - 0)) + (List.take (Int.toNat ((s.length : Int) - j)) (List.drop (Int.toNat j) s)).length) : Nat) : Int) ≤ ((s.length : Nat) : Int) ∧ ((s.length : Nat) : Int) ≤ (s.length : Int)) ∧ (((Int.toNat (i - 0)) + (List.take (Int.toNat ((s.length : Int) - j)) (List.drop (Int.toNat j) s)).length) + (Int.toNat (((s.length : Nat) : Int) - ((((Int.toNat (i - 0)) + (List.take (Int.toNat ((s.length : Int) - j)) (List.drop (Int.toNat j) s)).length) : Nat) : Int)))) ≤ s.length) <|
    some (((Int.toNat (i - 0)) + (List.take (Int.toNat ((s.length : Int) - j)) (List.drop (Int.toNat j) s)).length), (overL (overL s (Int.toNat (i - 0)) (List.take (Int.toNat ((s.length : Int) - j)) (List.drop (Int.toNat j) s))) ((Int.toNat (i - 0)) + (List.take (Int.toNat ((s.length : Int) - j)) (List.drop (Int.toNat j) s)).length) (zreps (Int.toNat (((s.length : Nat) : Int) - ((((Int.toNat (i - 0)) + (List.take (Int.toNat ((s.length : Int) - j)) (List.drop (Int.toNat j) s)).length) : Nat) : Int))) (⟨0, []⟩ : TRequest))))

theorem cslices_Delete_f29_M1 (n : Nat) (s : List TRequest) (i : Int) (j : Int) (r : Nat × (List TRequest)) (H : slices_Delete_f29_M1 n s i j = some r) : CallsM Tryd.prog 29 [.ref (.own 0 [.int .i64, .slice 44] 0 s.length), .dat (false, [.int .i64]) [.int i], .dat (false, [.int .i64]) [.int j]] [.row 50 (List.map e_TRequest s)] [.own 0 [.int .i64, .slice 44] 0 r.1] [.row 50 (List.map e_TRequest r.2)] := by
  have hΓ : ∀ g, g ∈ ([] : List Go.AE.Fn) → Contract Tryd.prog g := by simp
  refine callsM_of (Tryd.f29.body.getD .skip) h00 Tryd.func29 rfl (by intro args w; exact Tryd.call29 args w) (Nat.le_of_ble_eq_true rfl) (Nat.le_of_ble_eq_true rfl) ?_
  unfold slices_Delete_f29_M1 at H
  simp only [Tryd.f29, Option.getD]
  refine Sm.seqA h00 mixed hΓ (by kernel_rfl) fun K1 hK1 => ?_
  simp only [rs]
  repeat (refine opsG fun K hK => ?_; simp only [z, seval]; (repeat (first | refine gcI ?_ | refine fun (_ : _ ≤ _) => ?_)); refine hK _ ?_; clear hK K)
  refine hK1 _ ?_
  refine Sm.seqX h00 mixed hΓ (by kernel_rfl) fun K2 hK2 => ?_
  simp only [rs]
  obtain ⟨hg3, H⟩ := gd_some H
  iterate 5 (refine opsX fun K hK => ?_; simp only [z, seval]; (repeat (first | refine gcI ?_ | refine fun (_ : _ ≤ _) => ?_)); refine hK _ ?_; clear hK K)
  refine opsY fun K hK => ?_; simp only [z, seval]; (repeat (first | refine gcI ?_ | refine fun (_ : _ ≤ _) => ?_)); refine hK _ ?_; clear hK K
  refine hK2 _ ?_
  refine Sm.seqK fun K4 hK4 => ?_
  refine Sm.seqA h00 mixed hΓ (by kernel_rfl) fun K5 hK5 => ?_
  simp only [rs]
  repeat (refine opsG fun K hK => ?_; simp only [z, seval]; (repeat (first | refine gcI ?_ | refine fun (_ : _ ≤ _) => ?_)); refine hK _ ?_; clear hK K)
  refine hK5 _ ?_
  refine Sm.condK (by rfl) fun Ka Kb ha hb => ?_
  simp only [wpCond, z, seval]
  refine ⟨fun h6 => ha ?_, fun h6 => hb ?_⟩
  · first | replace H := bif_t h6 H | replace H := bif_t2 h6 H (by simp only [List.length_append])
    refine Sm.seqA h00 mixed hΓ (by kernel_rfl) fun K7 hK7 => ?_
    simp only [rs]
    repeat (refine opsG fun K hK => ?_; simp only [z, seval]; (repeat (first | refine gcI ?_ | refine fun (_ : _ ≤ _) => ?_)); refine hK _ ?_; clear hK K)
    refine hK7 _ ?_
    refine Sm.ret ?_
    try simp only [seval, Exit.exit.injEq]
    obtain rfl := Option.some.inj H
    refine RetM.mk (.inr rfl) [some 0] rfl ?_
    simp only [z, seval]
  first | replace H := bif_f h6 H | replace H := bif_f2 h6 H (by simp only [List.length_append])
  refine Sm.skip ?_
  refine hK4 _ ?_
  refine Sm.seqA h00 mixed hΓ (by kernel_rfl) fun K8 hK8 => ?_
  simp only [rs]
  repeat (refine opsG fun K hK => ?_; simp only [z, seval]; (repeat (first | refine gcI ?_ | refine fun (_ : _ ≤ _) => ?_)); refine hK _ ?_; clear hK K)
  refine hK8 _ ?_
  obtain ⟨⟨hg14, hg15, hg16⟩, H⟩ := gd_some H
  refine Sm.seqD h00 mixed hΓ (by kernel_rfl) fun K9 hK9 => ?_
  simp only [rs]
  repeat (refine opsH fun K hK => ?_; simp only [z, seval]; (repeat (first | refine gcI ?_ | refine fun (_ : _ ≤ _) => ?_)); refine hK _ ?_; clear hK K)
  refine hK9 _ ?_
  refine Sm.seqX h00 mixed hΓ (by kernel_rfl) fun K10 hK10 => ?_
  simp only [rs]
  obtain ⟨⟨hg11, hg12⟩, H⟩ := gd_some H
  iterate 5 (refine opsX fun K hK => ?_; simp only [z, seval]; (repeat (first | refine gcI ?_ | refine fun (_ : _ ≤ _) => ?_)); refine hK _ ?_; clear hK K)
  refine opsY fun K hK => ?_; simp only [z, seval]; (repeat (first | refine gcI ?_ | refine fun (_ : _ ≤ _) => ?_)); refine hK _ ?_; clear hK K
  refine hK10 _ ?_
  refine Sm.seqA h00 mixed hΓ (by kernel_rfl) fun K13 hK13 => ?_
  simp only [rs]
  repeat (refine opsG fun K hK => ?_; simp only [z, seval]; (repeat (first | refine gcI ?_ | refine fun (_ : _ ≤ _) => ?_)); refine hK _ ?_; clear hK K)
  refine hK13 _ ?_
  refine Sm.ret ?_
  try simp only [seval, Exit.exit.injEq]
  obtain rfl := Option.some.inj H
  refine RetM.mk (.inr rfl) [some 0] rfl ?_
  simp only [z, seval]

abbrev enqueue_Release_s2 (out_4 : List TRequest) (out_5 : Nat) (out_6 : List TRequest) (jobs : List Int) : S := stB [(4, .box 9004 0), (8, .box 9005 0), (11, .own 9008 [.int .i64] 0 jobs.length)] [(9004, .box [.nilsl, .nilsl]), (9005, .box [.own 9006 [.int .i64, .slice 44] 0 out_5, .own 9007 [.int .i64, .slice 44] 0 out_6.length]), (9006, .row 50 (List.map e_TRequest out_4)), (9007, .row 50 (List.map e_TRequest out_6)), (9008, .row 3 (List.map e_Int jobs))]

def enqueue_Release_k2 (n : Nat) (out_4 : List TRequest) (out_5 : Nat) (out_6 : List TRequest) (jobs : List Int) : Option (TTable × (List Int) × Int) :=
  some ((⟨(List.take out_5 out_4), out_6⟩ : TTable), jobs, 0)

abbrev enqueue_Release_s4 (out_10 : List TRequest) (out_11 : Nat) (out_12 : List TRequest) (jobs_2 : List Int) (out_2 : List TRequest) (v53_1 : Nat) (v54 : Int) (v55 : Int) : S := stB [(4, .box 9025 0), (8, .box 9026 0), (11, .own 9029 [.int .i64] 0 jobs_2.length), (53, .own 9030 [.int .i64, .slice 44] 0 v53_1), (54, .c (.int .i64) (.int v54)), (55, .c (.int .i64) (.int v55))] [(9025, .box [.nilsl, .nilsl]), (9026, .box [.own 9027 [.int .i64, .slice 44] 0 out_11, .own 9028 [.int .i64, .slice 44] 0 out_12.length]), (9027, .row 50 (List.map e_TRequest out_10)), (9028, .row 50 (List.map e_TRequest out_12)), (9029, .row 3 (List.map e_Int jobs_2)), (9030, .row 50 (List.map e_TRequest out_2))]

def enqueue_Release_k4 (n : Nat) (out_10 : List TRequest) (out_11 : Nat) (out_12 : List TRequest) (jobs_2 : List Int) (out_2 : List TRequest) (v53_1 : Nat) (v54 : Int) (v55 : Int) : Option (((List TRequest) × Nat × (List TRequest) × (List Int) × Nat × Int) ⊕ (((List TRequest) × Nat × (List TRequest) × (List Int)))) :=
  some (.inl (out_10, out_11, out_12, jobs_2, v53_1, (IntKind.wrap .i64 (v55 + 1))))

abbrev enqueue_Release_t3 (out_2 : List TRequest) (v54 : Int) (out_7 : List TRequest) (out_8 : Nat) (out_9 : List TRequest) (jobs_1 : List Int) (v53 : Nat) (v55 : Int) : S := stB [(4, .box 9019 0), (8, .box 9020 0), (11, .own 9023 [.int .i64] 0 jobs_1.length), (53, .own 9024 [.int .i64, .slice 44] 0 v53), (54, .c (.int .i64) (.int v54)), (55, .c (.int .i64) (.int v55))] [(9019, .box [.nilsl, .nilsl]), (9020, .box [.own 9021 [.int .i64, .slice 44] 0 out_8, .own 9022 [.int .i64, .slice 44] 0 out_9.length]), (9021, .row 50 (List.map e_TRequest out_7)), (9022, .row 50 (List.map e_TRequest out_9)), (9023, .row 3 (List.map e_Int jobs_1)), (9024, .row 50 (List.map e_TRequest out_2))]

def enqueue_Release_b3 (n : Nat) (out_2 : List TRequest) (v54 : Int) (out_7 : List TRequest) (out_8 : Nat) (out_9 : List TRequest) (jobs_1 : List Int) (v53 : Nat) (v55 : Int) : Option (((List TRequest) × Nat × (List TRequest) × (List Int) × Nat × Int) ⊕ (((List TRequest) × Nat × (List TRequest) × (List Int)))) :=
  bif (decide (v55 < v54)) then
    gd ((0 ≤ v55 ∧ v55 < (v53 : Int)) ∧ (Int.toNat v55) < out_2.length) <|
    (enqueue_Request__blocked n (gt out_2 (Int.toNat v55)) (List.take out_8 out_7)).bind fun r3 =>
    gd (((!r3) = true → (enqueue_Request__blocked n (gt out_2 (Int.toNat v55)) out_9).isSome = true)) <|
    bif (if r3 = true then true else ((enqueue_Request__blocked n (gt out_2 (Int.toNat v55)) out_9).getD default)) then
      gd ((out_9.length + 1) ≤ 2147483648) <|
      enqueue_Release_k4 n out_7 out_8 (out_9 ++ [(gt out_2 (Int.toNat v55))]) jobs_1 out_2 v53 v54 v55
    else
      gd (out_8 ≤ out_7.length ∧ (out_8 + 1) ≤ 2147483648) <|
      gd ((jobs_1.length + 1) ≤ 2147483648) <|
      enqueue_Release_k4 n ((List.take out_8 out_7) ++ [(gt out_2 (Int.toNat v55))]) (out_8 + 1) out_9 (jobs_1 ++ [(gt out_2 (Int.toNat v55)).Job]) out_2 v53 v54 v55
  else
    some (.inr (out_7, out_8, out_9, jobs_1))

abbrev enqueue_Release_s1 (out : List TRequest) (out_1 : Nat) (out_2 : List TRequest) (out_3 : Nat) : S := stB [(4, .box 9000 0), (8, .box 9001 0)] [(9000, .box [.nilsl, .nilsl]), (9001, .box [.own 9002 [.int .i64, .slice 44] 0 out_1, .own 9003 [.int .i64, .slice 44] 0 out_3]), (9002, .row 50 (List.map e_TRequest out)), (9003, .row 50 (List.map e_TRequest out_2))]

def enqueue_Release_k1 (n : Nat) (out : List TRequest) (out_1 : Nat) (out_2 : List TRequest) (out_3 : Nat) : Option (TTable × (List Int) × Int) :=
  (loopF (fun (x : (List TRequest) × Nat × (List TRequest) × (List Int) × Nat × Int) => enqueue_Release_b3 n out_2 ((out_3 : Nat) : Int) x.1 x.2.1 x.2.2.1 x.2.2.2.1 x.2.2.2.2.1 x.2.2.2.2.2) n (out, out_1, [], [], out_3, 0)).bind fun y13 =>
  enqueue_Release_k2 n y13.1 y13.2.1 y13.2.2.1 y13.2.2.2

def enqueue_Release (n : Nat) (t : TTable) (job : Int) : Option (TTable × (List Int) × Int) :=
  (enqueue_Check n t).bind fun r1 =>
  bif (r1 != 0) then
    some ((⟨[], []⟩ : TTable), [], r1)
  else
    (enqueue_Table__copied n t).bind fun r2 =>
    (enqueue_index n r2.Held job).bind fun r4 =>
    bif (decide (r4 ≥ 0)) then
      (slices_Delete_f29_M1 n r2.Held r4 (IntKind.wrap .i64 (r4 + 1))).bind fun r5 =>
      enqueue_Release_k1 n r5.2 r5.1 r2.Waiting r2.Waiting.length
    else
      (enqueue_index n r2.Waiting job).bind fun r6 =>
      bif (decide (r6 ≥ 0)) then
        (slices_Delete_f29_M1 n r2.Waiting r6 (IntKind.wrap .i64 (r6 + 1))).bind fun r7 =>
        enqueue_Release_k1 n r2.Held r2.Held.length r7.2 r7.1
      else
        some ((⟨[], []⟩ : TTable), [], 3)

def xenqueue_Release (n : Nat) : Go.AE.Fn := mkFn (A := TTable × Int) (R := TTable × (List Int) × Int) 11 [(true, [.slice 50, .slice 50]), (false, [.int .i64])] true (fun xs => ((⟨((cg (xs.getD 0 []) 0).toSl.map d_TRequest), ((cg (xs.getD 0 []) 1).toSl.map d_TRequest)⟩ : TTable), (cg (xs.getD 1 []) 0).toInt)) (fun a => [[.slice (List.map e_TRequest a.1.Held), .slice (List.map e_TRequest a.1.Waiting)], [.int a.2]]) (fun a => enqueue_Release n a.1 a.2) (fun r => [.agg [.c (.slice 50) (.slice (List.map e_TRequest r.1.Held)), .own 0 [.int .i64, .slice 44] 0 r.1.Waiting.length], .own 1 [.int .i64] 0 r.2.1.length, .c (.int .i64) (.int r.2.2)]) (fun r => [.row 50 (List.map e_TRequest r.1.Waiting), .row 3 (List.map e_Int r.2.1)])

theorem cenqueue_Release (n : Nat) : Contract Tryd.prog (xenqueue_Release n) := by
  have hΓ : ∀ g, g ∈ ([xenqueue_Check n, xenqueue_Table__copied n, xenqueue_index n, xenqueue_Request__blocked n] : List Go.AE.Fn) → Contract Tryd.prog g := by
    intro g hg; simp only [List.mem_cons, List.not_mem_nil, or_false] at hg; rcases hg with rfl | rfl | rfl | rfl; exact cenqueue_Check n; exact cenqueue_Table__copied n; exact cenqueue_index n; exact cenqueue_Request__blocked n
  refine contract_f (Tryd.f11.body.getD .skip) h00 Tryd.func11 rfl (by intro args w; exact Tryd.call11 args w) (by decide) (by intro h; cases h) ?_
  rintro ⟨t, job⟩ r H
  try dsimp only at H
  unfold enqueue_Release at H
  simp only [Tryd.f11, Option.getD]
  refine Sm.seqA h00 mixed hΓ (by kernel_rfl) fun K1 hK1 => ?_
  simp only [rs]
  repeat (refine opsG fun K hK => ?_; simp only [z, seval]; (repeat (first | refine gcI ?_ | refine fun (_ : _ ≤ _) => ?_)); refine hK _ ?_; clear hK K)
  refine hK1 _ ?_
  refine Sm.seqK fun K2 hK2 => ?_
  obtain ⟨r1, hr1, H⟩ := bind_some H
  refine Sm.seqA h00 mixed hΓ (by kernel_rfl) fun K3 hK3 => ?_
  simp only [rs]
  repeat (refine opsG fun K hK => ?_; simp only [z, seval, xenqueue_Check, hr1]; (repeat (first | refine gcI ?_ | refine fun (_ : _ ≤ _) => ?_)); refine hK _ ?_; clear hK K)
  refine hK3 _ ?_
  refine Sm.seqA h00 mixed hΓ (by kernel_rfl) fun K4 hK4 => ?_
  simp only [rs]
  repeat (refine opsG fun K hK => ?_; simp only [z, seval]; (repeat (first | refine gcI ?_ | refine fun (_ : _ ≤ _) => ?_)); refine hK _ ?_; clear hK K)
  refine hK4 _ ?_
  refine Sm.condK (by rfl) fun Ka Kb ha hb => ?_
  simp only [wpCond, z, seval]
  refine ⟨fun h5 => ha ?_, fun h5 => hb ?_⟩
  · first | replace H := bif_t h5 H | replace H := bif_t2 h5 H (by simp only [List.length_append])
    refine Sm.seqA h00 mixed hΓ (by kernel_rfl) fun K6 hK6 => ?_
    simp only [rs]
    repeat (refine opsG fun K hK => ?_; simp only [z, seval]; (repeat (first | refine gcI ?_ | refine fun (_ : _ ≤ _) => ?_)); refine hK _ ?_; clear hK K)
    refine hK6 _ ?_
    refine Sm.ret ?_
    try simp only [seval, Exit.exit.injEq]
    obtain rfl := Option.some.inj H
    refine Ret.ofR [none, none] (.inr rfl) ?_
    simp only [z, seval]
    try omega
  first | replace H := bif_f h5 H | replace H := bif_f2 h5 H (by simp only [List.length_append])
  refine Sm.skip ?_
  refine hK2 _ ?_
  obtain ⟨r2, hr2, H⟩ := bind_some H
  refine Sm.seqA h00 mixed hΓ (by kernel_rfl) fun K7 hK7 => ?_
  simp only [rs]
  repeat (refine opsG fun K hK => ?_; simp only [z, seval, xenqueue_Check, xenqueue_Table__copied, hr2]; (repeat (first | refine gcI ?_ | refine fun (_ : _ ≤ _) => ?_)); refine hK _ ?_; clear hK K)
  refine hK7 _ ?_
  refine Sm.cut (fun (x : (List TRequest) × Nat × (List TRequest) × Nat) => enqueue_Release_s1 x.1 x.2.1 x.2.2.1 x.2.2.2) (fun x => enqueue_Release_k1 n x.1 x.2.1 x.2.2.1 x.2.2.2 = some r) ?_ ?_
  · obtain ⟨r4, hr4, H⟩ := bind_some H
    refine Sm.seqA h00 mixed hΓ (by kernel_rfl) fun K30 hK30 => ?_
    simp only [rs]
    repeat (refine opsG fun K hK => ?_; simp only [z, seval, xenqueue_Check, xenqueue_Table__copied, xenqueue_index, hr4]; (repeat (first | refine gcI ?_ | refine fun (_ : _ ≤ _) => ?_)); refine hK _ ?_; clear hK K)
    refine hK30 _ ?_
    refine Sm.seqA h00 mixed hΓ (by kernel_rfl) fun K31 hK31 => ?_
    simp only [rs]
    repeat (refine opsG fun K hK => ?_; simp only [z, seval]; (repeat (first | refine gcI ?_ | refine fun (_ : _ ≤ _) => ?_)); refine hK _ ?_; clear hK K)
    refine hK31 _ ?_
    refine Sm.condK (by rfl) fun Ka Kb ha hb => ?_
    simp only [wpCond, z, seval]
    refine ⟨fun h32 => ha ?_, fun h32 => hb ?_⟩
    · first | replace H := bif_t h32 H | replace H := bif_t2 h32 H (by simp only [List.length_append])
      refine Sm.rgX h00 mixed hΓ (by kernel_rfl) ?_
      simp only [rs]
      obtain ⟨r5, hr5, H⟩ := bind_some H
      iterate 5 (refine opsX fun K hK => ?_; simp only [z, seval]; (repeat (first | refine gcI ?_ | refine fun (_ : _ ≤ _) => ?_)); refine hK _ ?_; clear hK K)
      refine opsM (cslices_Delete_f29_M1 n _ _ _ r5 hr5) [352] [] (by simp only [z, seval, hr5]; try rfl) (by simp only [z, seval, hr5]) (by simp only [z, seval, hr5]) (by simp only [z, seval, hr5]) (by simp only [z, seval, hr5]) rfl (by simp only [z, seval, hr5]) rfl ?_
      iterate 2 (refine opsX fun K hK => ?_; simp only [z, seval, hr5]; (repeat (first | refine gcI ?_ | refine fun (_ : _ ≤ _) => ?_)); refine hK _ ?_; clear hK K)
      refine opsX0 ?_
      try simp only [seval, Exit.exit.injEq]
      refine ⟨(r5.2, r5.1, r2.Waiting, r2.Waiting.length), H, ?_⟩
      exact weak_b [some 64, some 128, some 352, some 353] rfl rfl rfl (by simp only [wk, z, seval]) (by simp only [wk, z, seval])
    first | replace H := bif_f h32 H | replace H := bif_f2 h32 H (by simp only [List.length_append])
    obtain ⟨r6, hr6, H⟩ := bind_some H
    refine Sm.seqA h00 mixed hΓ (by kernel_rfl) fun K33 hK33 => ?_
    simp only [rs]
    repeat (refine opsG fun K hK => ?_; simp only [z, seval, xenqueue_Check, xenqueue_Table__copied, xenqueue_index, hr6]; (repeat (first | refine gcI ?_ | refine fun (_ : _ ≤ _) => ?_)); refine hK _ ?_; clear hK K)
    refine hK33 _ ?_
    refine Sm.seqA h00 mixed hΓ (by kernel_rfl) fun K34 hK34 => ?_
    simp only [rs]
    repeat (refine opsG fun K hK => ?_; simp only [z, seval]; (repeat (first | refine gcI ?_ | refine fun (_ : _ ≤ _) => ?_)); refine hK _ ?_; clear hK K)
    refine hK34 _ ?_
    refine Sm.condK (by rfl) fun Ka Kb ha hb => ?_
    simp only [wpCond, z, seval]
    refine ⟨fun h35 => ha ?_, fun h35 => hb ?_⟩
    · first | replace H := bif_t h35 H | replace H := bif_t2 h35 H (by simp only [List.length_append])
      refine Sm.rgX h00 mixed hΓ (by kernel_rfl) ?_
      simp only [rs]
      obtain ⟨r7, hr7, H⟩ := bind_some H
      iterate 5 (refine opsX fun K hK => ?_; simp only [z, seval]; (repeat (first | refine gcI ?_ | refine fun (_ : _ ≤ _) => ?_)); refine hK _ ?_; clear hK K)
      refine opsM (cslices_Delete_f29_M1 n _ _ _ r7 hr7) [353] [] (by simp only [z, seval, hr7]; try rfl) (by simp only [z, seval, hr7]) (by simp only [z, seval, hr7]) (by simp only [z, seval, hr7]) (by simp only [z, seval, hr7]) rfl (by simp only [z, seval, hr7]) rfl ?_
      iterate 2 (refine opsX fun K hK => ?_; simp only [z, seval, hr7]; (repeat (first | refine gcI ?_ | refine fun (_ : _ ≤ _) => ?_)); refine hK _ ?_; clear hK K)
      refine opsX0 ?_
      try simp only [seval, Exit.exit.injEq]
      refine ⟨(r2.Held, r2.Held.length, r7.2, r7.1), H, ?_⟩
      exact weak_b [some 64, some 128, some 352, some 353] rfl rfl rfl (by simp only [wk, z, seval]) (by simp only [wk, z, seval])
    first | replace H := bif_f h35 H | replace H := bif_f2 h35 H (by simp only [List.length_append])
    refine Sm.seqA h00 mixed hΓ (by kernel_rfl) fun K36 hK36 => ?_
    simp only [rs]
    repeat (refine opsG fun K hK => ?_; simp only [z, seval]; (repeat (first | refine gcI ?_ | refine fun (_ : _ ≤ _) => ?_)); refine hK _ ?_; clear hK K)
    refine hK36 _ ?_
    refine Sm.ret ?_
    try simp only [seval, Exit.exit.injEq]
    obtain rfl := Option.some.inj H
    refine Ret.ofR [none, none] (.inr rfl) ?_
    simp only [z, seval]
    try omega
  rintro ⟨out, out_1, out_2, out_3⟩ H
  try dsimp only at H
  unfold enqueue_Release_k1 at H
  refine Sm.seqA h00 mixed hΓ (by kernel_rfl) fun K8 hK8 => ?_
  simp only [rs]
  repeat (refine opsG fun K hK => ?_; simp only [z, seval, enqueue_Release_s1]; (repeat (first | refine gcI ?_ | refine fun (_ : _ ≤ _) => ?_)); refine hK _ ?_; clear hK K)
  refine hK8 _ ?_
  refine Sm.seqA h00 mixed hΓ (by kernel_rfl) fun K9 hK9 => ?_
  simp only [rs]
  repeat (refine opsG fun K hK => ?_; simp only [z, seval, enqueue_Release_s1]; (repeat (first | refine gcI ?_ | refine fun (_ : _ ≤ _) => ?_)); refine hK _ ?_; clear hK K)
  refine hK9 _ ?_
  refine Sm.seqA h00 mixed hΓ (by kernel_rfl) fun K10 hK10 => ?_
  simp only [rs]
  repeat (refine opsG fun K hK => ?_; simp only [z, seval, enqueue_Release_s1]; (repeat (first | refine gcI ?_ | refine fun (_ : _ ≤ _) => ?_)); refine hK _ ?_; clear hK K)
  refine hK10 _ ?_
  refine Sm.cut (fun (x : (List TRequest) × Nat × (List TRequest) × (List Int)) => enqueue_Release_s2 x.1 x.2.1 x.2.2.1 x.2.2.2) (fun x => enqueue_Release_k2 n x.1 x.2.1 x.2.2.1 x.2.2.2 = some r) ?_ ?_
  · refine Sm.seqA h00 mixed hΓ (by kernel_rfl) fun K12 hK12 => ?_
    simp only [rs]
    repeat (refine opsG fun K hK => ?_; simp only [z, seval, enqueue_Release_s1]; (repeat (first | refine gcI ?_ | refine fun (_ : _ ≤ _) => ?_)); refine hK _ ?_; clear hK K)
    refine hK12 _ ?_
    refine Sm.block ?_
    obtain ⟨y13, hy13, Ho13⟩ := bind_some H
    refine Sm.loopB (fun (x : (List TRequest) × Nat × (List TRequest) × (List Int) × Nat × Int) => enqueue_Release_b3 n out_2 ((out_3 : Nat) : Int) x.1 x.2.1 x.2.2.1 x.2.2.2.1 x.2.2.2.2.1 x.2.2.2.2.2) (fun x => enqueue_Release_t3 out_2 ((out_3 : Nat) : Int) x.1 x.2.1 x.2.2.1 x.2.2.2.1 x.2.2.2.2.1 x.2.2.2.2.2) hy13 ?_ ?_
    · exact weak_b [some 9000, some 9001, some 9002, none, none, some 9003] rfl rfl rfl (by simp only [wk, z, seval, enqueue_Release_s1]) (by simp only [wk, z, seval, enqueue_Release_s1])
    rintro ⟨out_7, out_8, out_9, jobs_1, v53, v55⟩ z13 H
    try dsimp only at H
    unfold enqueue_Release_b3 at H
    refine Sm.seqA h00 mixed hΓ (by kernel_rfl) fun K14 hK14 => ?_
    simp only [rs]
    repeat (refine opsG fun K hK => ?_; simp only [z, seval, enqueue_Release_t3]; (repeat (first | refine gcI ?_ | refine fun (_ : _ ≤ _) => ?_)); refine hK _ ?_; clear hK K)
    refine hK14 _ ?_
    refine Sm.seqK fun K15 hK15 => ?_
    refine Sm.condK (by rfl) fun Ka Kb ha hb => ?_
    simp only [wpCond, z, seval, enqueue_Release_t3]
    refine ⟨fun h16 => ha ?_, fun h16 => hb ?_⟩
    · first | replace H := bif_t h16 H | replace H := bif_t2 h16 H (by simp only [List.length_append])
      refine Sm.skip ?_
      refine hK15 _ ?_
      refine Sm.cut (fun (x : (List TRequest) × Nat × (List TRequest) × (List Int)) => enqueue_Release_s4 x.1 x.2.1 x.2.2.1 x.2.2.2 out_2 v53 ((out_3 : Nat) : Int) v55) (fun x => enqueue_Release_k4 n x.1 x.2.1 x.2.2.1 x.2.2.2 out_2 v53 ((out_3 : Nat) : Int) v55 = some z13) ?_ ?_
      · refine Sm.block ?_
        obtain ⟨⟨hg28, hg29⟩, H⟩ := gd_some H
        refine Sm.seqA h00 mixed hΓ (by kernel_rfl) fun K17 hK17 => ?_
        simp only [rs]
        repeat (refine opsG fun K hK => ?_; simp only [z, seval, enqueue_Release_t3]; (repeat (first | refine gcI ?_ | refine fun (_ : _ ≤ _) => ?_)); refine hK _ ?_; clear hK K)
        refine hK17 _ ?_
        refine Sm.seqK fun K18 hK18 => ?_
        obtain ⟨r3, hr3, H⟩ := bind_some H
        obtain ⟨hg27, H⟩ := gd_some H
        refine Sm.seqA h00 mixed hΓ (by kernel_rfl) fun K19 hK19 => ?_
        simp only [rs]
        repeat (refine opsG fun K hK => ?_; simp only [z, seval, enqueue_Release_t3, xenqueue_Check, xenqueue_Table__copied, xenqueue_index, xenqueue_Request__blocked, hr3]; (repeat (first | refine gcI ?_ | refine fun (_ : _ ≤ _) => ?_)); refine hK _ ?_; clear hK K)
        refine hK19 _ ?_
        refine Sm.condK (by rfl) fun Ka Kb ha hb => ?_
        simp only [wpCond, z, seval, enqueue_Release_t3]
        refine ⟨fun h20 => ha ?_, fun h20 => hb ?_⟩
        · first | replace H := bif_t h20 H | replace H := bif_t2 h20 H (by simp only [List.length_append])
          obtain ⟨hg22, H⟩ := gd_some H
          refine Sm.seqA h00 mixed hΓ (by kernel_rfl) fun K21 hK21 => ?_
          simp only [rs]
          repeat (refine opsG fun K hK => ?_; simp only [z, seval, enqueue_Release_t3]; (repeat (first | refine gcI ?_ | refine fun (_ : _ ≤ _) => ?_)); refine hK _ ?_; clear hK K)
          refine hK21 _ ?_
          refine Sm.exit ?_
          try simp only [seval, Exit.exit.injEq]
          refine ⟨(out_7, out_8, (out_9 ++ [(gt out_2 (Int.toNat v55))]), jobs_1), H, ?_⟩
          exact weak_b [some 9019, some 9020, some 9021, some 1168, some 9023, some 9024] rfl rfl rfl (by simp only [wk, z, seval, enqueue_Release_t3]) (by simp only [wk, z, seval, enqueue_Release_t3])
        first | replace H := bif_f h20 H | replace H := bif_f2 h20 H (by simp only [List.length_append])
        refine Sm.skip ?_
        refine hK18 _ ?_
        obtain ⟨⟨hg25, hg26⟩, H⟩ := gd_some H
        refine Sm.seqA h00 mixed hΓ (by kernel_rfl) fun K23 hK23 => ?_
        simp only [rs]
        repeat (refine opsG fun K hK => ?_; simp only [z, seval, enqueue_Release_t3]; (repeat (first | refine gcI ?_ | refine fun (_ : _ ≤ _) => ?_)); refine hK _ ?_; clear hK K)
        refine hK23 _ ?_
        obtain ⟨hg24, H⟩ := gd_some H
        refine Sm.regA h00 mixed hΓ (by kernel_rfl) ?_
        simp only [rs]
        repeat (refine opsG fun K hK => ?_; simp only [z, seval, enqueue_Release_t3]; (repeat (first | refine gcI ?_ | refine fun (_ : _ ≤ _) => ?_)); refine hK _ ?_; clear hK K)
        refine opsG0 ?_
        try simp only [seval, Exit.exit.injEq]
        refine ⟨(((List.take out_8 out_7) ++ [(gt out_2 (Int.toNat v55))]), (out_8 + 1), out_9, (jobs_1 ++ [(gt out_2 (Int.toNat v55)).Job])), H, ?_⟩
        exact weak_b [some 9019, some 9020, some 1264, some 9022, some 1360, some 9024] rfl rfl rfl (by simp only [wk, z, seval, enqueue_Release_t3]) (by simp only [wk, z, seval, enqueue_Release_t3])
      rintro ⟨out_10, out_11, out_12, jobs_2⟩ H
      try dsimp only at H
      unfold enqueue_Release_k4 at H
      refine Sm.regA h00 mixed hΓ (by kernel_rfl) ?_
      simp only [rs]
      repeat (refine opsG fun K hK => ?_; simp only [z, seval, enqueue_Release_s4]; (repeat (first | refine gcI ?_ | refine fun (_ : _ ≤ _) => ?_)); refine hK _ ?_; clear hK K)
      refine opsG0 ?_
      try simp only [seval, Exit.exit.injEq]
      refine ⟨(_, _, _, _, _, _), (Option.some.inj H).symm, ?_⟩
      exact weak_b [some 9025, some 9026, some 9027, some 9028, some 9029, some 9030] rfl rfl rfl (by simp only [wk, z, seval, enqueue_Release_s4]) (by simp only [wk, z, seval, enqueue_Release_s4])
    first | replace H := bif_f h16 H | replace H := bif_f2 h16 H (by simp only [List.length_append])
    refine Sm.exit ?_
    try simp only [seval, Exit.exit.injEq]
    refine ⟨⟨_, (Option.some.inj H).symm⟩, fun hz => ?_⟩
    have hyy := Sum.inr.inj ((Option.some.inj H).trans hz)
    subst hyy
    have H := Ho13
    try dsimp only at H
    try simp only [seval, Exit.exit.injEq]
    refine ⟨(out_7, out_8, out_9, jobs_1), H, ?_⟩
    exact weak_b [some 9019, some 9020, some 9021, some 9022, some 9023] rfl rfl rfl (by simp only [wk, z, seval, enqueue_Release_t3]) (by simp only [wk, z, seval, enqueue_Release_t3])
  rintro ⟨out_4, out_5, out_6, jobs⟩ H
  try dsimp only at H
  unfold enqueue_Release_k2 at H
  refine Sm.seqA h00 mixed hΓ (by kernel_rfl) fun K11 hK11 => ?_
  simp only [rs]
  repeat (refine opsG fun K hK => ?_; simp only [z, seval, enqueue_Release_s2]; (repeat (first | refine gcI ?_ | refine fun (_ : _ ≤ _) => ?_)); refine hK _ ?_; clear hK K)
  refine hK11 _ ?_
  refine Sm.ret ?_
  try simp only [seval, Exit.exit.injEq]
  obtain rfl := Option.some.inj H
  refine Ret.ofR [some 9007, some 9008] (.inr rfl) ?_
  simp only [z, seval, enqueue_Release_s2]
  try omega

abbrev law37_ints_s1 : S := stB [] []

def law37_ints_k1 (n : Nat) : Option Bool :=
  some true

abbrev law37_ints_t2 (a : List Int) (b : List Int) (k : Int) : S := stB [(0, .c (.slice 3) (.slice (List.map e_Int a))), (1, .c (.slice 3) (.slice (List.map e_Int b))), (5, .c (.int .i64) (.int k))] []

def law37_ints_b2 (n : Nat) (a : List Int) (b : List Int) (k : Int) : Option ((Int) ⊕ (((Bool) ⊕ (Unit)))) :=
  bif (decide (k < (a.length : Int))) then
    gd ((0 ≤ k ∧ k < (a.length : Int)) ∧ (0 ≤ k ∧ k < (b.length : Int))) <|
    bif ((gt a (Int.toNat k)) != (gt b (Int.toNat k))) then
      some (.inr (.inl false))
    else
      some (.inl (IntKind.wrap .i64 (k + 1)))
  else
    some (.inr (.inr ()))

def law37_ints (n : Nat) (a : List Int) (b : List Int) : Option Bool :=
  bif ((a.length : Int) != (b.length : Int)) then
    some false
  else
    (loopF (fun (x : Int) => law37_ints_b2 n a b x) n 0).bind fun y8 =>
    match y8 with
    | .inl v =>
      some v
    | .inr v =>
      law37_ints_k1 n

def xlaw37_ints (n : Nat) : Go.AE.Fn := mkFn (A := (List Int) × (List Int)) (R := Bool) 12 [(false, [.slice 3]), (false, [.slice 3])] false (fun xs => (((cg (xs.getD 0 []) 0).toSl.map d_Int), ((cg (xs.getD 1 []) 0).toSl.map d_Int))) (fun a => [[.slice (List.map e_Int a.1)], [.slice (List.map e_Int a.2)]]) (fun a => law37_ints n a.1 a.2) (fun r => [.c .bool (.bool r)]) (fun r => [])

theorem claw37_ints (n : Nat) : Contract Tryd.prog (xlaw37_ints n) := by
  have hΓ : ∀ g, g ∈ ([] : List Go.AE.Fn) → Contract Tryd.prog g := by simp
  refine contract_f (Tryd.f12.body.getD .skip) h00 Tryd.func12 rfl (by intro args w; exact Tryd.call12 args w) (by decide) (by intro _ r; exact ⟨rfl, by simp⟩) ?_
  rintro ⟨a, b⟩ r H
  try dsimp only at H
  unfold law37_ints at H
  simp only [Tryd.f12, Option.getD]
  refine Sm.seqA h00 mixed hΓ (by kernel_rfl) fun K1 hK1 => ?_
  simp only [rs]
  repeat (refine opsG fun K hK => ?_; simp only [z, seval]; (repeat (first | refine gcI ?_ | refine fun (_ : _ ≤ _) => ?_)); refine hK _ ?_; clear hK K)
  refine hK1 _ ?_
  refine Sm.seqK fun K2 hK2 => ?_
  refine Sm.seqA h00 mixed hΓ (by kernel_rfl) fun K3 hK3 => ?_
  simp only [rs]
  repeat (refine opsG fun K hK => ?_; simp only [z, seval]; (repeat (first | refine gcI ?_ | refine fun (_ : _ ≤ _) => ?_)); refine hK _ ?_; clear hK K)
  refine hK3 _ ?_
  refine Sm.condK (by rfl) fun Ka Kb ha hb => ?_
  simp only [wpCond, z, seval]
  refine ⟨fun h4 => ha ?_, fun h4 => hb ?_⟩
  · first | replace H := bif_t h4 H | replace H := bif_t2 h4 H (by simp only [List.length_append])
    refine Sm.seqA h00 mixed hΓ (by kernel_rfl) fun K5 hK5 => ?_
    simp only [rs]
    repeat (refine opsG fun K hK => ?_; simp only [z, seval]; (repeat (first | refine gcI ?_ | refine fun (_ : _ ≤ _) => ?_)); refine hK _ ?_; clear hK K)
    refine hK5 _ ?_
    refine Sm.ret ?_
    try simp only [seval, Exit.exit.injEq]
    obtain rfl := Option.some.inj H
    refine Ret.ofR [] (.inr rfl) ?_
    simp only [z, seval]
  first | replace H := bif_f h4 H | replace H := bif_f2 h4 H (by simp only [List.length_append])
  refine Sm.skip ?_
  refine hK2 _ ?_
  refine Sm.cut (fun (x : Unit) => law37_ints_s1) (fun x => law37_ints_k1 n = some r) ?_ ?_
  · refine Sm.seqA h00 mixed hΓ (by kernel_rfl) fun K7 hK7 => ?_
    simp only [rs]
    repeat (refine opsG fun K hK => ?_; simp only [z, seval]; (repeat (first | refine gcI ?_ | refine fun (_ : _ ≤ _) => ?_)); refine hK _ ?_; clear hK K)
    refine hK7 _ ?_
    refine Sm.block ?_
    obtain ⟨y8, hy8, Ho8⟩ := bind_some H
    refine Sm.loopB (fun (x : Int) => law37_ints_b2 n a b x) (fun x => law37_ints_t2 a b x) hy8 ?_ ?_
    · exact weak_b [] rfl rfl rfl (by simp only [wk, z, seval]) (by simp only [wk, z, seval])
    rintro k z8 H
    try dsimp only at H
    unfold law37_ints_b2 at H
    refine Sm.seqK fun K9 hK9 => ?_
    refine Sm.seqA h00 mixed hΓ (by kernel_rfl) fun K10 hK10 => ?_
    simp only [rs]
    repeat (refine opsG fun K hK => ?_; simp only [z, seval, law37_ints_t2]; (repeat (first | refine gcI ?_ | refine fun (_ : _ ≤ _) => ?_)); refine hK _ ?_; clear hK K)
    refine hK10 _ ?_
    refine Sm.condK (by rfl) fun Ka Kb ha hb => ?_
    simp only [wpCond, z, seval, law37_ints_t2]
    refine ⟨fun h11 => ha ?_, fun h11 => hb ?_⟩
    · first | replace H := bif_t h11 H | replace H := bif_t2 h11 H (by simp only [List.length_append])
      refine Sm.skip ?_
      refine hK9 _ ?_
      refine Sm.seqK fun K12 hK12 => ?_
      refine Sm.block ?_
      obtain ⟨⟨hg16, hg17⟩, H⟩ := gd_some H
      refine Sm.seqD h00 mixed hΓ (by kernel_rfl) fun K13 hK13 => ?_
      simp only [rs]
      repeat (refine opsH fun K hK => ?_; simp only [z, seval, law37_ints_t2]; (repeat (first | refine gcI ?_ | refine fun (_ : _ ≤ _) => ?_)); refine hK _ ?_; clear hK K)
      refine hK13 _ ?_
      refine Sm.condK (by rfl) fun Ka Kb ha hb => ?_
      simp only [wpCond, z, seval, law37_ints_t2]
      refine ⟨fun h14 => ha ?_, fun h14 => hb ?_⟩
      · first | replace H := bif_t h14 H | replace H := bif_t2 h14 H (by simp only [List.length_append])
        refine Sm.seqA h00 mixed hΓ (by kernel_rfl) fun K15 hK15 => ?_
        simp only [rs]
        repeat (refine opsG fun K hK => ?_; simp only [z, seval, law37_ints_t2]; (repeat (first | refine gcI ?_ | refine fun (_ : _ ≤ _) => ?_)); refine hK _ ?_; clear hK K)
        refine hK15 _ ?_
        refine Sm.ret ?_
        try simp only [seval, Exit.exit.injEq]
        refine ⟨⟨_, (Option.some.inj H).symm⟩, fun hz => ?_⟩
        have hyy := Sum.inr.inj ((Option.some.inj H).trans hz)
        subst hyy
        have H := Ho8
        try dsimp only at H
        try simp only [seval, Exit.exit.injEq]
        obtain rfl := Option.some.inj H
        refine Ret.ofR [] (.inr rfl) ?_
        simp only [z, seval, law37_ints_t2]
      first | replace H := bif_f h14 H | replace H := bif_f2 h14 H (by simp only [List.length_append])
      refine Sm.skip ?_
      refine hK12 _ ?_
      refine Sm.regA h00 mixed hΓ (by kernel_rfl) ?_
      simp only [rs]
      repeat (refine opsG fun K hK => ?_; simp only [z, seval, law37_ints_t2]; (repeat (first | refine gcI ?_ | refine fun (_ : _ ≤ _) => ?_)); refine hK _ ?_; clear hK K)
      refine opsG0 ?_
      try simp only [seval, Exit.exit.injEq]
      refine ⟨_, (Option.some.inj H).symm, ?_⟩
      exact weak_b [] rfl rfl rfl (by simp only [wk, z, seval, law37_ints_t2]) (by simp only [wk, z, seval, law37_ints_t2])
    first | replace H := bif_f h11 H | replace H := bif_f2 h11 H (by simp only [List.length_append])
    refine Sm.exit ?_
    try simp only [seval, Exit.exit.injEq]
    refine ⟨⟨_, (Option.some.inj H).symm⟩, fun hz => ?_⟩
    have hyy := Sum.inr.inj ((Option.some.inj H).trans hz)
    subst hyy
    have H := Ho8
    try dsimp only at H
    try simp only [seval, Exit.exit.injEq]
    refine ⟨(), H, ?_⟩
    exact weak_b [] rfl rfl rfl (by simp only [wk, z, seval, law37_ints_t2]) (by simp only [wk, z, seval, law37_ints_t2])
  rintro ⟨⟩ H
  try dsimp only at H
  unfold law37_ints_k1 at H
  refine Sm.seqA h00 mixed hΓ (by kernel_rfl) fun K6 hK6 => ?_
  simp only [rs]
  repeat (refine opsG fun K hK => ?_; simp only [z, seval, law37_ints_s1]; (repeat (first | refine gcI ?_ | refine fun (_ : _ ≤ _) => ?_)); refine hK _ ?_; clear hK K)
  refine hK6 _ ?_
  refine Sm.ret ?_
  try simp only [seval, Exit.exit.injEq]
  obtain rfl := Option.some.inj H
  refine Ret.ofR [] (.inr rfl) ?_
  simp only [z, seval, law37_ints_s1]

def law37_works (n : Nat) : Option Bool :=
  (law37_one n [65] false).bind fun r1 =>
  (enqueue_Ask n (⟨[], []⟩ : TTable) 1 r1).bind fun r2 =>
  (law37_one n [65] true).bind fun r3 =>
  (enqueue_Ask n r2.1 2 r3).bind fun r4 =>
  (law37_one n [65] false).bind fun r5 =>
  (enqueue_Ask n r4.1 3 r5).bind fun r6 =>
  (enqueue_Release n r6.1 1).bind fun r7 =>
  bif (if (if (if (if (if (if (r2.2.2 == 0) = true then (r4.2.2 == 0) else false) = true then (r6.2.2 == 0) else false) = true then (r7.2.2 == 0) else false) = true then r2.2.1 else false) = true then (!r4.2.1) else false) = true then (!r6.2.1) else false) then
    gd ((if (if (if (if (if (if (r2.2.2 == 0) = true then (r4.2.2 == 0) else false) = true then (r6.2.2 == 0) else false) = true then (r7.2.2 == 0) else false) = true then r2.2.1 else false) = true then (!r4.2.1) else false) = true then (!r6.2.1) else false) = true) <|
    (law37_ints n r7.2.1 [2]).bind fun r8 =>
    some (if (if r8 = true then ((r7.1.Held.length : Int) == 1) else false) = true then (((r7.1.Waiting.length : Nat) : Int) == 1) else false)
  else
    some false

def xlaw37_works (n : Nat) : Go.AE.Fn := mkFn (A := Unit) (R := Bool) 5 [] false (fun xs => ()) (fun a => []) (fun a => law37_works n) (fun r => [.c .bool (.bool r)]) (fun r => [])

theorem claw37_works (n : Nat) : Contract Tryd.prog (xlaw37_works n) := by
  have hΓ : ∀ g, g ∈ ([xlaw37_one n, xenqueue_Ask n, xenqueue_Release n, xlaw37_ints n] : List Go.AE.Fn) → Contract Tryd.prog g := by
    intro g hg; simp only [List.mem_cons, List.not_mem_nil, or_false] at hg; rcases hg with rfl | rfl | rfl | rfl; exact claw37_one n; exact cenqueue_Ask n; exact cenqueue_Release n; exact claw37_ints n
  refine contract_f (Tryd.f5.body.getD .skip) h00 Tryd.func5 rfl (by intro args w; exact Tryd.call5 args w) (by decide) (by intro _ r; exact ⟨rfl, by simp⟩) ?_
  rintro ⟨⟩ r H
  try dsimp only at H
  unfold law37_works at H
  simp only [Tryd.f5, Option.getD]
  refine Sm.seqA h00 mixed hΓ (by kernel_rfl) fun K1 hK1 => ?_
  simp only [rs]
  repeat (refine opsG fun K hK => ?_; simp only [z, seval]; (repeat (first | refine gcI ?_ | refine fun (_ : _ ≤ _) => ?_)); refine hK _ ?_; clear hK K)
  refine hK1 _ ?_
  obtain ⟨r1, hr1, H⟩ := bind_some H
  obtain ⟨r2, hr2, H⟩ := bind_some H
  refine Sm.seqA h00 mixed hΓ (by kernel_rfl) fun K2 hK2 => ?_
  simp only [rs]
  repeat (refine opsG fun K hK => ?_; simp only [z, seval, xlaw37_one, xenqueue_Ask, hr1, hr2]; (repeat (first | refine gcI ?_ | refine fun (_ : _ ≤ _) => ?_)); refine hK _ ?_; clear hK K)
  refine hK2 _ ?_
  obtain ⟨r3, hr3, H⟩ := bind_some H
  obtain ⟨r4, hr4, H⟩ := bind_some H
  refine Sm.seqQ h00 mixed hΓ [0, 1, 2, 3, 4, 5, 6, 7, 8, 9] [(none, [16], []), (none, [], [335, 334, 333, 332, 331, 330, 329, 328, 327, 326, 325, 324, 323, 322, 321, 320]), (none, [224, 225, 320], [351, 350, 349, 348, 347, 346, 345, 344, 343, 342, 341, 340, 339, 338, 337, 336, 224, 225, 320]), (none, [], []), (none, [], []), (none, [], []), (none, [], []), (none, [16, 336, 337], [16]), (none, [], []), (none, [], [])] (by kernel_rfl) rfl fun K3 hK3 => ?_
  simp only [rs]
  iterate 10 (refine opsQ fun K hK => ?_; simp only [z, seval, xlaw37_one, xenqueue_Ask, hr3, hr4]; (repeat (first | refine gcI ?_ | refine fun (_ : _ ≤ _) => ?_)); refine hK _ ?_; clear hK K)
  refine opsQ0 ?_
  refine hK3 _ ?_
  obtain ⟨r5, hr5, H⟩ := bind_some H
  obtain ⟨r6, hr6, H⟩ := bind_some H
  refine Sm.seqQ h00 mixed hΓ [0, 1, 2, 3, 4, 5, 6, 7, 8, 9] [(none, [16], []), (none, [], [447, 446, 445, 444, 443, 442, 441, 440, 439, 438, 437, 436, 435, 434, 433, 432]), (none, [336, 337, 432], [463, 462, 461, 460, 459, 458, 457, 456, 455, 454, 453, 452, 451, 450, 449, 448, 336, 337, 432]), (none, [], []), (none, [], []), (none, [], []), (none, [], []), (none, [16, 448, 449], [16]), (none, [], []), (none, [], [])] (by kernel_rfl) rfl fun K4 hK4 => ?_
  simp only [rs]
  iterate 10 (refine opsQ fun K hK => ?_; simp only [z, seval, xlaw37_one, xenqueue_Ask, hr5, hr6]; (repeat (first | refine gcI ?_ | refine fun (_ : _ ≤ _) => ?_)); refine hK _ ?_; clear hK K)
  refine opsQ0 ?_
  refine hK4 _ ?_
  obtain ⟨r7, hr7, H⟩ := bind_some H
  refine Sm.seqA h00 mixed hΓ (by kernel_rfl) fun K5 hK5 => ?_
  simp only [rs]
  repeat (refine opsG fun K hK => ?_; simp only [z, seval, xlaw37_one, xenqueue_Ask, xenqueue_Release, hr7]; (repeat (first | refine gcI ?_ | refine fun (_ : _ ≤ _) => ?_)); refine hK _ ?_; clear hK K)
  refine hK5 _ ?_
  refine Sm.seqX h00 mixed hΓ (by kernel_rfl) fun K6 hK6 => ?_
  simp only [rs]
  iterate 27 (refine opsX fun K hK => ?_; simp only [z, seval, xlaw37_one, xenqueue_Ask, xenqueue_Release, xlaw37_ints]; (repeat (first | refine gcI ?_ | refine fun (_ : _ ≤ _) => ?_)); refine hK _ ?_; clear hK K)
  refine bif_cases H (fun hs7 H => ?_) (fun hs7 H => ?_)
  · obtain ⟨hg8, H⟩ := gd_some H
    obtain ⟨r8, hr8, H⟩ := bind_some H
    refine opsTG rfl (by simp only [z, seval, xlaw37_one, xenqueue_Ask, xenqueue_Release, xlaw37_ints, hs7]) fun K hK => ?_; simp only [z, seval, xlaw37_one, xenqueue_Ask, xenqueue_Release, xlaw37_ints, hs7]; (repeat (first | refine gcI ?_ | refine fun (_ : _ ≤ _) => ?_)); refine hK _ ?_; clear hK K
    refine opsTG rfl (by simp only [z, seval, xlaw37_one, xenqueue_Ask, xenqueue_Release, xlaw37_ints, hs7, hr8]) fun K hK => ?_; simp only [z, seval, xlaw37_one, xenqueue_Ask, xenqueue_Release, xlaw37_ints, hs7, hr8]; (repeat (first | refine gcI ?_ | refine fun (_ : _ ≤ _) => ?_)); refine hK _ ?_; clear hK K
    refine opsP fun K hK => ?_; simp only [z, seval, xlaw37_one, xenqueue_Ask, xenqueue_Release, xlaw37_ints, hs7, hr8]; (repeat (first | refine gcI ?_ | refine fun (_ : _ ≤ _) => ?_)); refine Or.inl ?_; (repeat (first | refine gcI ?_ | refine fun (_ : _ ≤ _) => ?_)); refine hK _ ?_; clear hK K
    iterate 13 (refine opsX fun K hK => ?_; simp only [z, seval, xlaw37_one, xenqueue_Ask, xenqueue_Release, xlaw37_ints, hs7, hr8]; (repeat (first | refine gcI ?_ | refine fun (_ : _ ≤ _) => ?_)); refine hK _ ?_; clear hK K)
    refine hK6 _ ?_
    refine Sm.ret ?_
    try simp only [seval, Exit.exit.injEq]
    obtain rfl := Option.some.inj H
    refine Ret.ofR [] (.inr rfl) ?_
    simp only [z, seval]
  refine opsF rfl (by simp only [z, seval, xlaw37_one, xenqueue_Ask, xenqueue_Release, xlaw37_ints, hs7]) ?_
  refine opsF rfl (by simp only [z, seval, xlaw37_one, xenqueue_Ask, xenqueue_Release, xlaw37_ints, hs7]) ?_
  refine opsP fun K hK => ?_; simp only [z, seval, xlaw37_one, xenqueue_Ask, xenqueue_Release, xlaw37_ints, hs7]; (repeat (first | refine gcI ?_ | refine fun (_ : _ ≤ _) => ?_)); refine Or.inr ?_; (repeat (first | refine gcI ?_ | refine fun (_ : _ ≤ _) => ?_)); refine hK _ ?_; clear hK K
  (refine opsX fun K hK => ?_; simp only [z, seval, xlaw37_one, xenqueue_Ask, xenqueue_Release, xlaw37_ints, hs7]; (repeat (first | refine gcI ?_ | refine fun (_ : _ ≤ _) => ?_)); refine hK _ ?_; clear hK K)
  refine opsF rfl (by simp only [z, seval, xlaw37_one, xenqueue_Ask, xenqueue_Release, xlaw37_ints, hs7]) ?_
  refine opsF rfl (by simp only [z, seval, xlaw37_one, xenqueue_Ask, xenqueue_Release, xlaw37_ints, hs7]) ?_
  refine opsF rfl (by simp only [z, seval, xlaw37_one, xenqueue_Ask, xenqueue_Release, xlaw37_ints, hs7]) ?_
  refine opsF rfl (by simp only [z, seval, xlaw37_one, xenqueue_Ask, xenqueue_Release, xlaw37_ints, hs7]) ?_
  refine opsP fun K hK => ?_; simp only [z, seval, xlaw37_one, xenqueue_Ask, xenqueue_Release, xlaw37_ints, hs7]; (repeat (first | refine gcI ?_ | refine fun (_ : _ ≤ _) => ?_)); refine Or.inr ?_; (repeat (first | refine gcI ?_ | refine fun (_ : _ ≤ _) => ?_)); refine hK _ ?_; clear hK K
  (refine opsX fun K hK => ?_; simp only [z, seval, xlaw37_one, xenqueue_Ask, xenqueue_Release, xlaw37_ints, hs7]; (repeat (first | refine gcI ?_ | refine fun (_ : _ ≤ _) => ?_)); refine hK _ ?_; clear hK K)
  refine opsF rfl (by simp only [z, seval, xlaw37_one, xenqueue_Ask, xenqueue_Release, xlaw37_ints, hs7]) ?_
  refine opsF rfl (by simp only [z, seval, xlaw37_one, xenqueue_Ask, xenqueue_Release, xlaw37_ints, hs7]) ?_
  refine opsF rfl (by simp only [z, seval, xlaw37_one, xenqueue_Ask, xenqueue_Release, xlaw37_ints, hs7]) ?_
  refine opsF rfl (by simp only [z, seval, xlaw37_one, xenqueue_Ask, xenqueue_Release, xlaw37_ints, hs7]) ?_
  refine opsP fun K hK => ?_; simp only [z, seval, xlaw37_one, xenqueue_Ask, xenqueue_Release, xlaw37_ints, hs7]; (repeat (first | refine gcI ?_ | refine fun (_ : _ ≤ _) => ?_)); refine Or.inr ?_; (repeat (first | refine gcI ?_ | refine fun (_ : _ ≤ _) => ?_)); refine hK _ ?_; clear hK K
  (refine opsX fun K hK => ?_; simp only [z, seval, xlaw37_one, xenqueue_Ask, xenqueue_Release, xlaw37_ints, hs7]; (repeat (first | refine gcI ?_ | refine fun (_ : _ ≤ _) => ?_)); refine hK _ ?_; clear hK K)
  refine hK6 _ ?_
  refine Sm.ret ?_
  try simp only [seval, Exit.exit.injEq]
  obtain rfl := Option.some.inj H
  refine Ret.ofR [] (.inr rfl) ?_
  simp only [z, seval]

abbrev flow_Default_s4 (d : TDD) (d_1 : Int) (d_2 : Int) (d_3 : Int) : S := stB [(1, .box 9006 0), (2, .box 9007 0)] [(9006, .box [.c .str (.str d.Name), .c .str (.str d.Dsn), .c .str (.str d.Member), .c (.int .i64) (.int d.Gen), .c .bool (.bool d.HasGen), .c (.int .i64) (.int d_1), .c (.int .i64) (.int d_2), .c (.int .i64) (.int d_3), .c (.int .i64) (.int d.Unit), .c .str (.str d.Vol), .c (.int .i64) (.int d.Tracks), .c (.int .i64) (.int d.More), .c (.int .i64) (.int d.File), .c (.int .i64) (.int d.Dcb.Org), .c (.int .i64) (.int d.Dcb.Format), .c .bool (.bool d.Dcb.Blocked), .c .bool (.bool d.Dcb.Asa), .c (.int .i64) (.int d.Dcb.Lrecl), .c (.int .i64) (.int d.Dcb.Blksize), .c (.int .i64) (.int d.Dcb.KeyLen), .c (.int .i64) (.int d.Dcb.KeyPos), .c .str (.str d.Sysout), .c (.slice 9) (.slice (List.map e_Str d.Instream)), .c .bool (.bool d.HasData), .c .bool (.bool d.Dummy)]), (9007, .box [.c .str (.str []), .c .str (.str []), .c .str (.str []), .c (.int .i64) (.int 0), .c .bool (.bool false), .c (.int .i64) (.int 0), .c (.int .i64) (.int 0), .c (.int .i64) (.int 0), .c (.int .i64) (.int 0), .c .str (.str []), .c (.int .i64) (.int 0), .c (.int .i64) (.int 0), .c (.int .i64) (.int 0), .c (.int .i64) (.int 0), .c (.int .i64) (.int 0), .c .bool (.bool false), .c .bool (.bool false), .c (.int .i64) (.int 0), .c (.int .i64) (.int 0), .c (.int .i64) (.int 0), .c (.int .i64) (.int 0), .c .str (.str []), .nilsl, .c .bool (.bool false), .c .bool (.bool false)])]

def flow_Default_k4 (n : Nat) (d : TDD) (d_1 : Int) (d_2 : Int) (d_3 : Int) : Option TDD :=
  gd (d.Instream.length ≤ 2147483648) <|
  some (⟨d.Name, d.Dsn, d.Member, d.Gen, d.HasGen, d_1, d_2, d_3, d.Unit, d.Vol, d.Tracks, d.More, d.File, d.Dcb, d.Sysout, d.Instream, d.HasData, d.Dummy⟩ : TDD)

abbrev flow_Default_s3 (d : TDD) (d_1 : Int) (d_2 : Int) (end_ : Int) : S := stB [(1, .box 9004 0), (2, .box 9005 0), (3, .c (.int .i64) (.int end_))] [(9004, .box [.c .str (.str d.Name), .c .str (.str d.Dsn), .c .str (.str d.Member), .c (.int .i64) (.int d.Gen), .c .bool (.bool d.HasGen), .c (.int .i64) (.int d_1), .c (.int .i64) (.int d_2), .c (.int .i64) (.int d.Abend), .c (.int .i64) (.int d.Unit), .c .str (.str d.Vol), .c (.int .i64) (.int d.Tracks), .c (.int .i64) (.int d.More), .c (.int .i64) (.int d.File), .c (.int .i64) (.int d.Dcb.Org), .c (.int .i64) (.int d.Dcb.Format), .c .bool (.bool d.Dcb.Blocked), .c .bool (.bool d.Dcb.Asa), .c (.int .i64) (.int d.Dcb.Lrecl), .c (.int .i64) (.int d.Dcb.Blksize), .c (.int .i64) (.int d.Dcb.KeyLen), .c (.int .i64) (.int d.Dcb.KeyPos), .c .str (.str d.Sysout), .c (.slice 9) (.slice (List.map e_Str d.Instream)), .c .bool (.bool d.HasData), .c .bool (.bool d.Dummy)]), (9005, .box [.c .str (.str []), .c .str (.str []), .c .str (.str []), .c (.int .i64) (.int 0), .c .bool (.bool false), .c (.int .i64) (.int 0), .c (.int .i64) (.int 0), .c (.int .i64) (.int 0), .c (.int .i64) (.int 0), .c .str (.str []), .c (.int .i64) (.int 0), .c (.int .i64) (.int 0), .c (.int .i64) (.int 0), .c (.int .i64) (.int 0), .c (.int .i64) (.int 0), .c .bool (.bool false), .c .bool (.bool false), .c (.int .i64) (.int 0), .c (.int .i64) (.int 0), .c (.int .i64) (.int 0), .c (.int .i64) (.int 0), .c .str (.str []), .nilsl, .c .bool (.bool false), .c .bool (.bool false)])]

def flow_Default_k3 (n : Nat) (d : TDD) (d_1 : Int) (d_2 : Int) (end_ : Int) : Option TDD :=
  bif (d.Abend == 0) then
    bif (d_2 == 5) then
      flow_Default_k4 n d d_1 d_2 end_
    else
      flow_Default_k4 n d d_1 d_2 d_2
  else
    flow_Default_k4 n d d_1 d_2 d.Abend

abbrev flow_Default_s2 (d : TDD) (d_1 : Int) (end_ : Int) : S := stB [(1, .box 9002 0), (2, .box 9003 0), (3, .c (.int .i64) (.int end_))] [(9002, .box [.c .str (.str d.Name), .c .str (.str d.Dsn), .c .str (.str d.Member), .c (.int .i64) (.int d.Gen), .c .bool (.bool d.HasGen), .c (.int .i64) (.int d_1), .c (.int .i64) (.int d.Normal), .c (.int .i64) (.int d.Abend), .c (.int .i64) (.int d.Unit), .c .str (.str d.Vol), .c (.int .i64) (.int d.Tracks), .c (.int .i64) (.int d.More), .c (.int .i64) (.int d.File), .c (.int .i64) (.int d.Dcb.Org), .c (.int .i64) (.int d.Dcb.Format), .c .bool (.bool d.Dcb.Blocked), .c .bool (.bool d.Dcb.Asa), .c (.int .i64) (.int d.Dcb.Lrecl), .c (.int .i64) (.int d.Dcb.Blksize), .c (.int .i64) (.int d.Dcb.KeyLen), .c (.int .i64) (.int d.Dcb.KeyPos), .c .str (.str d.Sysout), .c (.slice 9) (.slice (List.map e_Str d.Instream)), .c .bool (.bool d.HasData), .c .bool (.bool d.Dummy)]), (9003, .box [.c .str (.str []), .c .str (.str []), .c .str (.str []), .c (.int .i64) (.int 0), .c .bool (.bool false), .c (.int .i64) (.int 0), .c (.int .i64) (.int 0), .c (.int .i64) (.int 0), .c (.int .i64) (.int 0), .c .str (.str []), .c (.int .i64) (.int 0), .c (.int .i64) (.int 0), .c (.int .i64) (.int 0), .c (.int .i64) (.int 0), .c (.int .i64) (.int 0), .c .bool (.bool false), .c .bool (.bool false), .c (.int .i64) (.int 0), .c (.int .i64) (.int 0), .c (.int .i64) (.int 0), .c (.int .i64) (.int 0), .c .str (.str []), .nilsl, .c .bool (.bool false), .c .bool (.bool false)])]

def flow_Default_k2 (n : Nat) (d : TDD) (d_1 : Int) (end_ : Int) : Option TDD :=
  bif (d.Normal == 0) then
    flow_Default_k3 n d d_1 end_ end_
  else
    flow_Default_k3 n d d_1 d.Normal end_

abbrev flow_Default_s1 (d : TDD) (d_1 : Int) : S := stB [(1, .box 9000 0), (2, .box 9001 0)] [(9000, .box [.c .str (.str d.Name), .c .str (.str d.Dsn), .c .str (.str d.Member), .c (.int .i64) (.int d.Gen), .c .bool (.bool d.HasGen), .c (.int .i64) (.int d_1), .c (.int .i64) (.int d.Normal), .c (.int .i64) (.int d.Abend), .c (.int .i64) (.int d.Unit), .c .str (.str d.Vol), .c (.int .i64) (.int d.Tracks), .c (.int .i64) (.int d.More), .c (.int .i64) (.int d.File), .c (.int .i64) (.int d.Dcb.Org), .c (.int .i64) (.int d.Dcb.Format), .c .bool (.bool d.Dcb.Blocked), .c .bool (.bool d.Dcb.Asa), .c (.int .i64) (.int d.Dcb.Lrecl), .c (.int .i64) (.int d.Dcb.Blksize), .c (.int .i64) (.int d.Dcb.KeyLen), .c (.int .i64) (.int d.Dcb.KeyPos), .c .str (.str d.Sysout), .c (.slice 9) (.slice (List.map e_Str d.Instream)), .c .bool (.bool d.HasData), .c .bool (.bool d.Dummy)]), (9001, .box [.c .str (.str []), .c .str (.str []), .c .str (.str []), .c (.int .i64) (.int 0), .c .bool (.bool false), .c (.int .i64) (.int 0), .c (.int .i64) (.int 0), .c (.int .i64) (.int 0), .c (.int .i64) (.int 0), .c .str (.str []), .c (.int .i64) (.int 0), .c (.int .i64) (.int 0), .c (.int .i64) (.int 0), .c (.int .i64) (.int 0), .c (.int .i64) (.int 0), .c .bool (.bool false), .c .bool (.bool false), .c (.int .i64) (.int 0), .c (.int .i64) (.int 0), .c (.int .i64) (.int 0), .c (.int .i64) (.int 0), .c .str (.str []), .nilsl, .c .bool (.bool false), .c .bool (.bool false)])]

def flow_Default_k1 (n : Nat) (d : TDD) (d_1 : Int) : Option TDD :=
  bif (d_1 == 1) then
    flow_Default_k2 n d d_1 2
  else
    flow_Default_k2 n d d_1 1

def flow_Default (n : Nat) (d : TDD) : Option TDD :=
  bif (d.Disp == 0) then
    flow_Default_k1 n d 1
  else
    flow_Default_k1 n d d.Disp

def xflow_Default (n : Nat) : Go.AE.Fn := mkFn (A := TDD) (R := TDD) 14 [(true, [.str, .str, .str, .int .i64, .bool, .int .i64, .int .i64, .int .i64, .int .i64, .str, .int .i64, .int .i64, .int .i64, .int .i64, .int .i64, .bool, .bool, .int .i64, .int .i64, .int .i64, .int .i64, .str, .slice 9, .bool, .bool])] false (fun xs => (⟨(cg (xs.getD 0 []) 0).toStr, (cg (xs.getD 0 []) 1).toStr, (cg (xs.getD 0 []) 2).toStr, (cg (xs.getD 0 []) 3).toInt, (cg (xs.getD 0 []) 4).toBool, (cg (xs.getD 0 []) 5).toInt, (cg (xs.getD 0 []) 6).toInt, (cg (xs.getD 0 []) 7).toInt, (cg (xs.getD 0 []) 8).toInt, (cg (xs.getD 0 []) 9).toStr, (cg (xs.getD 0 []) 10).toInt, (cg (xs.getD 0 []) 11).toInt, (cg (xs.getD 0 []) 12).toInt, (⟨(cg (xs.getD 0 []) 13).toInt, (cg (xs.getD 0 []) 14).toInt, (cg (xs.getD 0 []) 15).toBool, (cg (xs.getD 0 []) 16).toBool, (cg (xs.getD 0 []) 17).toInt, (cg (xs.getD 0 []) 18).toInt, (cg (xs.getD 0 []) 19).toInt, (cg (xs.getD 0 []) 20).toInt⟩ : TDcb), (cg (xs.getD 0 []) 21).toStr, ((cg (xs.getD 0 []) 22).toSl.map d_Str), (cg (xs.getD 0 []) 23).toBool, (cg (xs.getD 0 []) 24).toBool⟩ : TDD)) (fun a => [[.str a.Name, .str a.Dsn, .str a.Member, .int a.Gen, .bool a.HasGen, .int a.Disp, .int a.Normal, .int a.Abend, .int a.Unit, .str a.Vol, .int a.Tracks, .int a.More, .int a.File, .int a.Dcb.Org, .int a.Dcb.Format, .bool a.Dcb.Blocked, .bool a.Dcb.Asa, .int a.Dcb.Lrecl, .int a.Dcb.Blksize, .int a.Dcb.KeyLen, .int a.Dcb.KeyPos, .str a.Sysout, .slice (List.map e_Str a.Instream), .bool a.HasData, .bool a.Dummy]]) (fun a => flow_Default n a) (fun r => [.agg [.c .str (.str r.Name), .c .str (.str r.Dsn), .c .str (.str r.Member), .c (.int .i64) (.int r.Gen), .c .bool (.bool r.HasGen), .c (.int .i64) (.int r.Disp), .c (.int .i64) (.int r.Normal), .c (.int .i64) (.int r.Abend), .c (.int .i64) (.int r.Unit), .c .str (.str r.Vol), .c (.int .i64) (.int r.Tracks), .c (.int .i64) (.int r.More), .c (.int .i64) (.int r.File), .c (.int .i64) (.int r.Dcb.Org), .c (.int .i64) (.int r.Dcb.Format), .c .bool (.bool r.Dcb.Blocked), .c .bool (.bool r.Dcb.Asa), .c (.int .i64) (.int r.Dcb.Lrecl), .c (.int .i64) (.int r.Dcb.Blksize), .c (.int .i64) (.int r.Dcb.KeyLen), .c (.int .i64) (.int r.Dcb.KeyPos), .c .str (.str r.Sysout), .own 0 [.str] 0 r.Instream.length, .c .bool (.bool r.HasData), .c .bool (.bool r.Dummy)]]) (fun r => [.row 9 (List.map e_Str r.Instream)])

theorem cflow_Default (n : Nat) : Contract Tryd.prog (xflow_Default n) := by
  have hΓ : ∀ g, g ∈ ([] : List Go.AE.Fn) → Contract Tryd.prog g := by simp
  refine contract_f (Tryd.f14.body.getD .skip) h00 Tryd.func14 rfl (by intro args w; exact Tryd.call14 args w) (by decide) (by
    intro _ r; refine ⟨rfl, ?_⟩; simp only [List.mem_cons, List.not_mem_nil, or_false]; rintro _ rfl
    · exact ⟨9, _, _, rfl, ty9, rfl⟩) ?_
  rintro d r H
  try dsimp only at H
  unfold flow_Default at H
  simp only [Tryd.f14, Option.getD]
  refine Sm.seqA h00 mixed hΓ (by kernel_rfl) fun K1 hK1 => ?_
  simp only [rs]
  repeat (refine opsG fun K hK => ?_; simp only [z, seval]; (repeat (first | refine gcI ?_ | refine fun (_ : _ ≤ _) => ?_)); refine hK _ ?_; clear hK K)
  refine hK1 _ ?_
  refine Sm.cut (fun (x : Int) => flow_Default_s1 d x) (fun x => flow_Default_k1 n d x = some r) ?_ ?_
  · refine Sm.seqA h00 mixed hΓ (by kernel_rfl) fun K15 hK15 => ?_
    simp only [rs]
    repeat (refine opsG fun K hK => ?_; simp only [z, seval]; (repeat (first | refine gcI ?_ | refine fun (_ : _ ≤ _) => ?_)); refine hK _ ?_; clear hK K)
    refine hK15 _ ?_
    refine Sm.condK (by rfl) fun Ka Kb ha hb => ?_
    simp only [wpCond, z, seval]
    refine ⟨fun h16 => ha ?_, fun h16 => hb ?_⟩
    · first | replace H := bif_t h16 H | replace H := bif_t2 h16 H (by simp only [List.length_append])
      refine Sm.regA h00 mixed hΓ (by kernel_rfl) ?_
      simp only [rs]
      repeat (refine opsG fun K hK => ?_; simp only [z, seval]; (repeat (first | refine gcI ?_ | refine fun (_ : _ ≤ _) => ?_)); refine hK _ ?_; clear hK K)
      refine opsG0 ?_
      try simp only [seval, Exit.exit.injEq]
      refine ⟨_, H, ?_⟩
      exact weak_b [some 16, some 32] rfl rfl rfl (by simp only [wk, z, seval]) (by simp only [wk, z, seval])
    first | replace H := bif_f h16 H | replace H := bif_f2 h16 H (by simp only [List.length_append])
    refine Sm.skip ?_
    try simp only [seval, Exit.exit.injEq]
    refine ⟨_, H, ?_⟩
    exact weak_b [some 16, some 32] rfl rfl rfl (by simp only [wk, z, seval]) (by simp only [wk, z, seval])
  rintro d_1 H
  try dsimp only at H
  unfold flow_Default_k1 at H
  refine Sm.seqA h00 mixed hΓ (by kernel_rfl) fun K2 hK2 => ?_
  simp only [rs]
  repeat (refine opsG fun K hK => ?_; simp only [z, seval, flow_Default_s1]; (repeat (first | refine gcI ?_ | refine fun (_ : _ ≤ _) => ?_)); refine hK _ ?_; clear hK K)
  refine hK2 _ ?_
  refine Sm.cut (fun (x : Int) => flow_Default_s2 d d_1 x) (fun x => flow_Default_k2 n d d_1 x = some r) ?_ ?_
  · refine Sm.seqA h00 mixed hΓ (by kernel_rfl) fun K13 hK13 => ?_
    simp only [rs]
    repeat (refine opsG fun K hK => ?_; simp only [z, seval, flow_Default_s1]; (repeat (first | refine gcI ?_ | refine fun (_ : _ ≤ _) => ?_)); refine hK _ ?_; clear hK K)
    refine hK13 _ ?_
    refine Sm.condK (by rfl) fun Ka Kb ha hb => ?_
    simp only [wpCond, z, seval, flow_Default_s1]
    refine ⟨fun h14 => ha ?_, fun h14 => hb ?_⟩
    · first | replace H := bif_t h14 H | replace H := bif_t2 h14 H (by simp only [List.length_append])
      refine Sm.regA h00 mixed hΓ (by kernel_rfl) ?_
      simp only [rs]
      repeat (refine opsG fun K hK => ?_; simp only [z, seval, flow_Default_s1]; (repeat (first | refine gcI ?_ | refine fun (_ : _ ≤ _) => ?_)); refine hK _ ?_; clear hK K)
      refine opsG0 ?_
      try simp only [seval, Exit.exit.injEq]
      refine ⟨_, H, ?_⟩
      exact weak_b [some 9000, some 9001] rfl rfl rfl (by simp only [wk, z, seval, flow_Default_s1]) (by simp only [wk, z, seval, flow_Default_s1])
    first | replace H := bif_f h14 H | replace H := bif_f2 h14 H (by simp only [List.length_append])
    refine Sm.skip ?_
    try simp only [seval, Exit.exit.injEq]
    refine ⟨_, H, ?_⟩
    exact weak_b [some 9000, some 9001] rfl rfl rfl (by simp only [wk, z, seval, flow_Default_s1]) (by simp only [wk, z, seval, flow_Default_s1])
  rintro end_ H
  try dsimp only at H
  unfold flow_Default_k2 at H
  refine Sm.cut (fun (x : Int) => flow_Default_s3 d d_1 x end_) (fun x => flow_Default_k3 n d d_1 x end_ = some r) ?_ ?_
  · refine Sm.seqA h00 mixed hΓ (by kernel_rfl) fun K11 hK11 => ?_
    simp only [rs]
    repeat (refine opsG fun K hK => ?_; simp only [z, seval, flow_Default_s2]; (repeat (first | refine gcI ?_ | refine fun (_ : _ ≤ _) => ?_)); refine hK _ ?_; clear hK K)
    refine hK11 _ ?_
    refine Sm.condK (by rfl) fun Ka Kb ha hb => ?_
    simp only [wpCond, z, seval, flow_Default_s2]
    refine ⟨fun h12 => ha ?_, fun h12 => hb ?_⟩
    · first | replace H := bif_t h12 H | replace H := bif_t2 h12 H (by simp only [List.length_append])
      refine Sm.regA h00 mixed hΓ (by kernel_rfl) ?_
      simp only [rs]
      repeat (refine opsG fun K hK => ?_; simp only [z, seval, flow_Default_s2]; (repeat (first | refine gcI ?_ | refine fun (_ : _ ≤ _) => ?_)); refine hK _ ?_; clear hK K)
      refine opsG0 ?_
      try simp only [seval, Exit.exit.injEq]
      refine ⟨_, H, ?_⟩
      exact weak_b [some 9002, some 9003] rfl rfl rfl (by simp only [wk, z, seval, flow_Default_s2]) (by simp only [wk, z, seval, flow_Default_s2])
    first | replace H := bif_f h12 H | replace H := bif_f2 h12 H (by simp only [List.length_append])
    refine Sm.skip ?_
    try simp only [seval, Exit.exit.injEq]
    refine ⟨_, H, ?_⟩
    exact weak_b [some 9002, some 9003] rfl rfl rfl (by simp only [wk, z, seval, flow_Default_s2]) (by simp only [wk, z, seval, flow_Default_s2])
  rintro d_2 H
  try dsimp only at H
  unfold flow_Default_k3 at H
  refine Sm.cut (fun (x : Int) => flow_Default_s4 d d_1 d_2 x) (fun x => flow_Default_k4 n d d_1 d_2 x = some r) ?_ ?_
  · refine Sm.seqA h00 mixed hΓ (by kernel_rfl) fun K6 hK6 => ?_
    simp only [rs]
    repeat (refine opsG fun K hK => ?_; simp only [z, seval, flow_Default_s3]; (repeat (first | refine gcI ?_ | refine fun (_ : _ ≤ _) => ?_)); refine hK _ ?_; clear hK K)
    refine hK6 _ ?_
    refine Sm.condK (by rfl) fun Ka Kb ha hb => ?_
    simp only [wpCond, z, seval, flow_Default_s3]
    refine ⟨fun h7 => ha ?_, fun h7 => hb ?_⟩
    · first | replace H := bif_t h7 H | replace H := bif_t2 h7 H (by simp only [List.length_append])
      refine Sm.seqA h00 mixed hΓ (by kernel_rfl) fun K8 hK8 => ?_
      simp only [rs]
      repeat (refine opsG fun K hK => ?_; simp only [z, seval, flow_Default_s3]; (repeat (first | refine gcI ?_ | refine fun (_ : _ ≤ _) => ?_)); refine hK _ ?_; clear hK K)
      refine hK8 _ ?_
      refine Sm.seqA h00 mixed hΓ (by kernel_rfl) fun K9 hK9 => ?_
      simp only [rs]
      repeat (refine opsG fun K hK => ?_; simp only [z, seval, flow_Default_s3]; (repeat (first | refine gcI ?_ | refine fun (_ : _ ≤ _) => ?_)); refine hK _ ?_; clear hK K)
      refine hK9 _ ?_
      refine Sm.condK (by rfl) fun Ka Kb ha hb => ?_
      simp only [wpCond, z, seval, flow_Default_s3]
      refine ⟨fun h10 => ha ?_, fun h10 => hb ?_⟩
      · first | replace H := bif_t h10 H | replace H := bif_t2 h10 H (by simp only [List.length_append])
        refine Sm.regA h00 mixed hΓ (by kernel_rfl) ?_
        simp only [rs]
        repeat (refine opsG fun K hK => ?_; simp only [z, seval, flow_Default_s3]; (repeat (first | refine gcI ?_ | refine fun (_ : _ ≤ _) => ?_)); refine hK _ ?_; clear hK K)
        refine opsG0 ?_
        try simp only [seval, Exit.exit.injEq]
        refine ⟨_, H, ?_⟩
        exact weak_b [some 9004, some 9005] rfl rfl rfl (by simp only [wk, z, seval, flow_Default_s3]) (by simp only [wk, z, seval, flow_Default_s3])
      first | replace H := bif_f h10 H | replace H := bif_f2 h10 H (by simp only [List.length_append])
      refine Sm.skip ?_
      try simp only [seval, Exit.exit.injEq]
      refine ⟨_, H, ?_⟩
      exact weak_b [some 9004, some 9005] rfl rfl rfl (by simp only [wk, z, seval, flow_Default_s3]) (by simp only [wk, z, seval, flow_Default_s3])
    first | replace H := bif_f h7 H | replace H := bif_f2 h7 H (by simp only [List.length_append])
    refine Sm.skip ?_
    try simp only [seval, Exit.exit.injEq]
    refine ⟨_, H, ?_⟩
    exact weak_b [some 9004, some 9005] rfl rfl rfl (by simp only [wk, z, seval, flow_Default_s3]) (by simp only [wk, z, seval, flow_Default_s3])
  rintro d_3 H
  try dsimp only at H
  unfold flow_Default_k4 at H
  obtain ⟨hg5, H⟩ := gd_some H
  refine Sm.seqA h00 mixed hΓ (by kernel_rfl) fun K3 hK3 => ?_
  simp only [rs]
  repeat (refine opsG fun K hK => ?_; simp only [z, seval, flow_Default_s4]; (repeat (first | refine gcI ?_ | refine fun (_ : _ ≤ _) => ?_)); refine hK _ ?_; clear hK K)
  refine hK3 _ ?_
  refine Sm.seqA h00 mixed hΓ (by kernel_rfl) fun K4 hK4 => ?_
  simp only [rs]
  repeat (refine opsG fun K hK => ?_; simp only [z, seval, flow_Default_s4]; (repeat (first | refine gcI ?_ | refine fun (_ : _ ≤ _) => ?_)); refine hK _ ?_; clear hK K)
  refine hK4 _ ?_
  refine Sm.ret ?_
  try simp only [seval, Exit.exit.injEq]
  obtain rfl := Option.some.inj H
  refine Ret.ofR [some 464] (.inr rfl) ?_
  simp only [z, seval, flow_Default_s4]
  try omega

abbrev enqueue_updates_s1 (v4 : Bool) : S := stB [(4, .c .bool (.bool v4))] []

def enqueue_updates_k1 (n : Nat) (v4 : Bool) : Option Bool :=
  bif v4 then
    some true
  else
    some false

def enqueue_updates (n : Nat) (end_ : Int) : Option Bool :=
  bif (end_ == 2) then
    enqueue_updates_k1 n (end_ == 2)
  else
    bif (end_ == 3) then
      enqueue_updates_k1 n (end_ == 3)
    else
      enqueue_updates_k1 n (end_ == 4)

def xenqueue_updates (n : Nat) : Go.AE.Fn := mkFn (A := Int) (R := Bool) 15 [(false, [.int .i64])] false (fun xs => (cg (xs.getD 0 []) 0).toInt) (fun a => [[.int a]]) (fun a => enqueue_updates n a) (fun r => [.c .bool (.bool r)]) (fun r => [])

theorem cenqueue_updates (n : Nat) : Contract Tryd.prog (xenqueue_updates n) := by
  have hΓ : ∀ g, g ∈ ([] : List Go.AE.Fn) → Contract Tryd.prog g := by simp
  refine contract_f (Tryd.f15.body.getD .skip) h00 Tryd.func15 rfl (by intro args w; exact Tryd.call15 args w) (by decide) (by intro _ r; exact ⟨rfl, by simp⟩) ?_
  rintro end_ r H
  try dsimp only at H
  unfold enqueue_updates at H
  simp only [Tryd.f15, Option.getD]
  refine Sm.seqA h00 mixed hΓ (by kernel_rfl) fun K1 hK1 => ?_
  simp only [rs]
  repeat (refine opsG fun K hK => ?_; simp only [z, seval]; (repeat (first | refine gcI ?_ | refine fun (_ : _ ≤ _) => ?_)); refine hK _ ?_; clear hK K)
  refine hK1 _ ?_
  refine Sm.seqK fun K2 hK2 => ?_
  refine Sm.seqA h00 mixed hΓ (by kernel_rfl) fun K3 hK3 => ?_
  simp only [rs]
  repeat (refine opsG fun K hK => ?_; simp only [z, seval]; (repeat (first | refine gcI ?_ | refine fun (_ : _ ≤ _) => ?_)); refine hK _ ?_; clear hK K)
  refine hK3 _ ?_
  refine Sm.block ?_
  refine Sm.cut (fun (x : Bool) => enqueue_updates_s1 x) (fun x => enqueue_updates_k1 n x = some r) ?_ ?_
  · refine Sm.seqA h00 mixed hΓ (by kernel_rfl) fun K7 hK7 => ?_
    simp only [rs]
    repeat (refine opsG fun K hK => ?_; simp only [z, seval]; (repeat (first | refine gcI ?_ | refine fun (_ : _ ≤ _) => ?_)); refine hK _ ?_; clear hK K)
    refine hK7 _ ?_
    refine Sm.condK (by rfl) fun Ka Kb ha hb => ?_
    simp only [wpCond, z, seval]
    refine ⟨fun h8 => ha ?_, fun h8 => hb ?_⟩
    · first | replace H := bif_t h8 H | replace H := bif_t2 h8 H (by simp only [List.length_append])
      refine Sm.skip ?_
      try simp only [seval, Exit.exit.injEq]
      refine ⟨_, H, ?_⟩
      exact weak_b [] rfl rfl rfl (by simp only [wk, z, seval]) (by simp only [wk, z, seval])
    first | replace H := bif_f h8 H | replace H := bif_f2 h8 H (by simp only [List.length_append])
    refine Sm.seqA h00 mixed hΓ (by kernel_rfl) fun K9 hK9 => ?_
    simp only [rs]
    repeat (refine opsG fun K hK => ?_; simp only [z, seval]; (repeat (first | refine gcI ?_ | refine fun (_ : _ ≤ _) => ?_)); refine hK _ ?_; clear hK K)
    refine hK9 _ ?_
    refine Sm.condK (by rfl) fun Ka Kb ha hb => ?_
    simp only [wpCond, z, seval]
    refine ⟨fun h10 => ha ?_, fun h10 => hb ?_⟩
    · first | replace H := bif_t h10 H | replace H := bif_t2 h10 H (by simp only [List.length_append])
      refine Sm.skip ?_
      try simp only [seval, Exit.exit.injEq]
      refine ⟨_, H, ?_⟩
      exact weak_b [] rfl rfl rfl (by simp only [wk, z, seval]) (by simp only [wk, z, seval])
    first | replace H := bif_f h10 H | replace H := bif_f2 h10 H (by simp only [List.length_append])
    refine Sm.regA h00 mixed hΓ (by kernel_rfl) ?_
    simp only [rs]
    repeat (refine opsG fun K hK => ?_; simp only [z, seval]; (repeat (first | refine gcI ?_ | refine fun (_ : _ ≤ _) => ?_)); refine hK _ ?_; clear hK K)
    refine opsG0 ?_
    try simp only [seval, Exit.exit.injEq]
    refine ⟨_, H, ?_⟩
    exact weak_b [] rfl rfl rfl (by simp only [wk, z, seval]) (by simp only [wk, z, seval])
  rintro v4 H
  try dsimp only at H
  unfold enqueue_updates_k1 at H
  refine Sm.condK (by rfl) fun Ka Kb ha hb => ?_
  simp only [wpCond, z, seval, enqueue_updates_s1]
  refine ⟨fun h4 => ha ?_, fun h4 => hb ?_⟩
  · first | replace H := bif_t h4 H | replace H := bif_t2 h4 H (by simp only [List.length_append])
    refine Sm.seqA h00 mixed hΓ (by kernel_rfl) fun K5 hK5 => ?_
    simp only [rs]
    repeat (refine opsG fun K hK => ?_; simp only [z, seval, enqueue_updates_s1]; (repeat (first | refine gcI ?_ | refine fun (_ : _ ≤ _) => ?_)); refine hK _ ?_; clear hK K)
    refine hK5 _ ?_
    refine Sm.ret ?_
    try simp only [seval, Exit.exit.injEq]
    obtain rfl := Option.some.inj H
    refine Ret.ofR [] (.inr rfl) ?_
    simp only [z, seval, enqueue_updates_s1]
  first | replace H := bif_f h4 H | replace H := bif_f2 h4 H (by simp only [List.length_append])
  refine Sm.skip ?_
  refine hK2 _ ?_
  refine Sm.seqA h00 mixed hΓ (by kernel_rfl) fun K6 hK6 => ?_
  simp only [rs]
  repeat (refine opsG fun K hK => ?_; simp only [z, seval, enqueue_updates_s1]; (repeat (first | refine gcI ?_ | refine fun (_ : _ ≤ _) => ?_)); refine hK _ ?_; clear hK K)
  refine hK6 _ ?_
  refine Sm.ret ?_
  try simp only [seval, Exit.exit.injEq]
  obtain rfl := Option.some.inj H
  refine Ret.ofR [] (.inr rfl) ?_
  simp only [z, seval, enqueue_updates_s1]

def flow_named (n : Nat) (d : TDD) : Option Bool :=
  some (if (if (if (d.Dsn != []) = true then (!d.Dummy) else false) = true then (d.Sysout == []) else false) = true then (!d.HasData) else false)

def xflow_named (n : Nat) : Go.AE.Fn := mkFn (A := TDD) (R := Bool) 37 [(true, [.str, .str, .str, .int .i64, .bool, .int .i64, .int .i64, .int .i64, .int .i64, .str, .int .i64, .int .i64, .int .i64, .int .i64, .int .i64, .bool, .bool, .int .i64, .int .i64, .int .i64, .int .i64, .str, .slice 9, .bool, .bool])] false (fun xs => (⟨(cg (xs.getD 0 []) 0).toStr, (cg (xs.getD 0 []) 1).toStr, (cg (xs.getD 0 []) 2).toStr, (cg (xs.getD 0 []) 3).toInt, (cg (xs.getD 0 []) 4).toBool, (cg (xs.getD 0 []) 5).toInt, (cg (xs.getD 0 []) 6).toInt, (cg (xs.getD 0 []) 7).toInt, (cg (xs.getD 0 []) 8).toInt, (cg (xs.getD 0 []) 9).toStr, (cg (xs.getD 0 []) 10).toInt, (cg (xs.getD 0 []) 11).toInt, (cg (xs.getD 0 []) 12).toInt, (⟨(cg (xs.getD 0 []) 13).toInt, (cg (xs.getD 0 []) 14).toInt, (cg (xs.getD 0 []) 15).toBool, (cg (xs.getD 0 []) 16).toBool, (cg (xs.getD 0 []) 17).toInt, (cg (xs.getD 0 []) 18).toInt, (cg (xs.getD 0 []) 19).toInt, (cg (xs.getD 0 []) 20).toInt⟩ : TDcb), (cg (xs.getD 0 []) 21).toStr, ((cg (xs.getD 0 []) 22).toSl.map d_Str), (cg (xs.getD 0 []) 23).toBool, (cg (xs.getD 0 []) 24).toBool⟩ : TDD)) (fun a => [[.str a.Name, .str a.Dsn, .str a.Member, .int a.Gen, .bool a.HasGen, .int a.Disp, .int a.Normal, .int a.Abend, .int a.Unit, .str a.Vol, .int a.Tracks, .int a.More, .int a.File, .int a.Dcb.Org, .int a.Dcb.Format, .bool a.Dcb.Blocked, .bool a.Dcb.Asa, .int a.Dcb.Lrecl, .int a.Dcb.Blksize, .int a.Dcb.KeyLen, .int a.Dcb.KeyPos, .str a.Sysout, .slice (List.map e_Str a.Instream), .bool a.HasData, .bool a.Dummy]]) (fun a => flow_named n a) (fun r => [.c .bool (.bool r)]) (fun r => [])

theorem cflow_named (n : Nat) : Contract Tryd.prog (xflow_named n) := by
  have hΓ : ∀ g, g ∈ ([] : List Go.AE.Fn) → Contract Tryd.prog g := by simp
  refine contract_f (Tryd.f37.body.getD .skip) h00 Tryd.func37 rfl (by intro args w; exact Tryd.call37 args w) (by decide) (by intro _ r; exact ⟨rfl, by simp⟩) ?_
  rintro d r H
  try dsimp only at H
  unfold flow_named at H
  simp only [Tryd.f37, Option.getD]
  refine Sm.seqA h00 mixed hΓ (by kernel_rfl) fun K1 hK1 => ?_
  simp only [rs]
  repeat (refine opsG fun K hK => ?_; simp only [z, seval]; (repeat (first | refine gcI ?_ | refine fun (_ : _ ≤ _) => ?_)); refine hK _ ?_; clear hK K)
  refine hK1 _ ?_
  refine Sm.seqA h00 mixed hΓ (by kernel_rfl) fun K2 hK2 => ?_
  simp only [rs]
  repeat (refine opsG fun K hK => ?_; simp only [z, seval]; (repeat (first | refine gcI ?_ | refine fun (_ : _ ≤ _) => ?_)); refine hK _ ?_; clear hK K)
  refine hK2 _ ?_
  refine Sm.ret ?_
  try simp only [seval, Exit.exit.injEq]
  obtain rfl := Option.some.inj H
  refine Ret.ofR [] (.inr rfl) ?_
  simp only [z, seval]

def flow_Exclusive (n : Nat) (d : TDD) : Option Bool :=
  (flow_named n d).bind fun r1 =>
  some (if r1 = true then (d.Disp != 3) else false)

def xflow_Exclusive (n : Nat) : Go.AE.Fn := mkFn (A := TDD) (R := Bool) 16 [(true, [.str, .str, .str, .int .i64, .bool, .int .i64, .int .i64, .int .i64, .int .i64, .str, .int .i64, .int .i64, .int .i64, .int .i64, .int .i64, .bool, .bool, .int .i64, .int .i64, .int .i64, .int .i64, .str, .slice 9, .bool, .bool])] false (fun xs => (⟨(cg (xs.getD 0 []) 0).toStr, (cg (xs.getD 0 []) 1).toStr, (cg (xs.getD 0 []) 2).toStr, (cg (xs.getD 0 []) 3).toInt, (cg (xs.getD 0 []) 4).toBool, (cg (xs.getD 0 []) 5).toInt, (cg (xs.getD 0 []) 6).toInt, (cg (xs.getD 0 []) 7).toInt, (cg (xs.getD 0 []) 8).toInt, (cg (xs.getD 0 []) 9).toStr, (cg (xs.getD 0 []) 10).toInt, (cg (xs.getD 0 []) 11).toInt, (cg (xs.getD 0 []) 12).toInt, (⟨(cg (xs.getD 0 []) 13).toInt, (cg (xs.getD 0 []) 14).toInt, (cg (xs.getD 0 []) 15).toBool, (cg (xs.getD 0 []) 16).toBool, (cg (xs.getD 0 []) 17).toInt, (cg (xs.getD 0 []) 18).toInt, (cg (xs.getD 0 []) 19).toInt, (cg (xs.getD 0 []) 20).toInt⟩ : TDcb), (cg (xs.getD 0 []) 21).toStr, ((cg (xs.getD 0 []) 22).toSl.map d_Str), (cg (xs.getD 0 []) 23).toBool, (cg (xs.getD 0 []) 24).toBool⟩ : TDD)) (fun a => [[.str a.Name, .str a.Dsn, .str a.Member, .int a.Gen, .bool a.HasGen, .int a.Disp, .int a.Normal, .int a.Abend, .int a.Unit, .str a.Vol, .int a.Tracks, .int a.More, .int a.File, .int a.Dcb.Org, .int a.Dcb.Format, .bool a.Dcb.Blocked, .bool a.Dcb.Asa, .int a.Dcb.Lrecl, .int a.Dcb.Blksize, .int a.Dcb.KeyLen, .int a.Dcb.KeyPos, .str a.Sysout, .slice (List.map e_Str a.Instream), .bool a.HasData, .bool a.Dummy]]) (fun a => flow_Exclusive n a) (fun r => [.c .bool (.bool r)]) (fun r => [])

theorem cflow_Exclusive (n : Nat) : Contract Tryd.prog (xflow_Exclusive n) := by
  have hΓ : ∀ g, g ∈ ([xflow_named n] : List Go.AE.Fn) → Contract Tryd.prog g := by
    intro g hg; simp only [List.mem_cons, List.not_mem_nil, or_false] at hg; subst hg; exact cflow_named n
  refine contract_f (Tryd.f16.body.getD .skip) h00 Tryd.func16 rfl (by intro args w; exact Tryd.call16 args w) (by decide) (by intro _ r; exact ⟨rfl, by simp⟩) ?_
  rintro d r H
  try dsimp only at H
  unfold flow_Exclusive at H
  simp only [Tryd.f16, Option.getD]
  refine Sm.seqA h00 mixed hΓ (by kernel_rfl) fun K1 hK1 => ?_
  simp only [rs]
  repeat (refine opsG fun K hK => ?_; simp only [z, seval]; (repeat (first | refine gcI ?_ | refine fun (_ : _ ≤ _) => ?_)); refine hK _ ?_; clear hK K)
  refine hK1 _ ?_
  obtain ⟨r1, hr1, H⟩ := bind_some H
  refine Sm.seqA h00 mixed hΓ (by kernel_rfl) fun K2 hK2 => ?_
  simp only [rs]
  repeat (refine opsG fun K hK => ?_; simp only [z, seval, xflow_named, hr1]; (repeat (first | refine gcI ?_ | refine fun (_ : _ ≤ _) => ?_)); refine hK _ ?_; clear hK K)
  refine hK2 _ ?_
  refine Sm.ret ?_
  try simp only [seval, Exit.exit.injEq]
  obtain rfl := Option.some.inj H
  refine Ret.ofR [] (.inr rfl) ?_
  simp only [z, seval]

def enqueue_generation (n : Nat) (s : List UInt8) : Option ((List UInt8) × Bool) :=
  gd (((!(decide ((IntKind.wrap .i64 ((s.length : Int) - 9)) < 1))) = true → (0 ≤ (IntKind.wrap .i64 ((s.length : Int) - 9)) ∧ (IntKind.wrap .i64 ((s.length : Int) - 9)) ≤ (IntKind.wrap .i64 ((IntKind.wrap .i64 ((s.length : Int) - 9)) + 2)) ∧ (IntKind.wrap .i64 ((IntKind.wrap .i64 ((s.length : Int) - 9)) + 2)) ≤ (s.length : Int))) ∧ ((!(if (decide ((IntKind.wrap .i64 ((s.length : Int) - 9)) < 1)) = true then true else ((List.drop (Int.toNat (IntKind.wrap .i64 ((s.length : Int) - 9))) (List.take (Int.toNat (IntKind.wrap .i64 ((IntKind.wrap .i64 ((s.length : Int) - 9)) + 2))) s)) != [46, 71]))) = true → (0 ≤ (IntKind.wrap .i64 ((IntKind.wrap .i64 ((s.length : Int) - 9)) + 6)) ∧ (IntKind.wrap .i64 ((IntKind.wrap .i64 ((s.length : Int) - 9)) + 6)) ≤ (s.length : Int) ∧ (s.length : Int) ≤ (s.length : Int))) ∧ ((!(if (if (decide ((IntKind.wrap .i64 ((s.length : Int) - 9)) < 1)) = true then true else ((List.drop (Int.toNat (IntKind.wrap .i64 ((s.length : Int) - 9))) (List.take (Int.toNat (IntKind.wrap .i64 ((IntKind.wrap .i64 ((s.length : Int) - 9)) + 2))) s)) != [46, 71])) = true then true else ((List.drop (Int.toNat (IntKind.wrap .i64 ((IntKind.wrap .i64 ((s.length : Int) - 9)) + 6))) s) != [86, 48, 48]))) = true → (0 ≤ (IntKind.wrap .i64 ((IntKind.wrap .i64 ((s.length : Int) - 9)) + 2)) ∧ (IntKind.wrap .i64 ((IntKind.wrap .i64 ((s.length : Int) - 9)) + 2)) ≤ (IntKind.wrap .i64 ((IntKind.wrap .i64 ((s.length : Int) - 9)) + 6)) ∧ (IntKind.wrap .i64 ((IntKind.wrap .i64 ((s.length : Int) - 9)) + 6)) ≤ (s.length : Int))) ∧ ((!(if (if (decide ((IntKind.wrap .i64 ((s.length : Int) - 9)) < 1)) = true then true else ((List.drop (Int.toNat (IntKind.wrap .i64 ((s.length : Int) - 9))) (List.take (Int.toNat (IntKind.wrap .i64 ((IntKind.wrap .i64 ((s.length : Int) - 9)) + 2))) s)) != [46, 71])) = true then true else ((List.drop (Int.toNat (IntKind.wrap .i64 ((IntKind.wrap .i64 ((s.length : Int) - 9)) + 6))) s) != [86, 48, 48]))) = true → (strings_Trim n (List.drop (Int.toNat (IntKind.wrap .i64 ((IntKind.wrap .i64 ((s.length : Int) - 9)) + 2))) (List.take (Int.toNat (IntKind.wrap .i64 ((IntKind.wrap .i64 ((s.length : Int) - 9)) + 6))) s)) [48, 49, 50, 51, 52, 53, 54, 55, 56, 57]).isSome = true)) <|
  bif (if (if (if (decide ((IntKind.wrap .i64 ((s.length : Int) - 9)) < 1)) = true then true else ((List.drop (Int.toNat (IntKind.wrap .i64 ((s.length : Int) - 9))) (List.take (Int.toNat (IntKind.wrap .i64 ((IntKind.wrap .i64 ((s.length : Int) - 9)) + 2))) s)) != [46, 71])) = true then true else ((List.drop (Int.toNat (IntKind.wrap .i64 ((IntKind.wrap .i64 ((s.length : Int) - 9)) + 6))) s) != [86, 48, 48])) = true then true else (((strings_Trim n (List.drop (Int.toNat (IntKind.wrap .i64 ((IntKind.wrap .i64 ((s.length : Int) - 9)) + 2))) (List.take (Int.toNat (IntKind.wrap .i64 ((IntKind.wrap .i64 ((s.length : Int) - 9)) + 6))) s)) [48, 49, 50, 51, 52, 53, 54, 55, 56, 57]).getD default) != [])) then
    some ([], false)
  else
    gd ((0 ≤ (IntKind.wrap .i64 ((s.length : Int) - 9)) ∧ (IntKind.wrap .i64 ((s.length : Int) - 9)) ≤ (s.length : Int))) <|
    some ((List.take (Int.toNat (IntKind.wrap .i64 ((s.length : Int) - 9))) s), true)

def xenqueue_generation (n : Nat) : Go.AE.Fn := mkFn (A := (List UInt8)) (R := (List UInt8) × Bool) 17 [(false, [.str])] false (fun xs => (cg (xs.getD 0 []) 0).toStr) (fun a => [[.str a]]) (fun a => enqueue_generation n a) (fun r => [.c .str (.str r.1), .c .bool (.bool r.2)]) (fun r => [])

theorem cenqueue_generation (n : Nat) : Contract Tryd.prog (xenqueue_generation n) := by
  have hΓ : ∀ g, g ∈ ([xstrings_Trim n] : List Go.AE.Fn) → Contract Tryd.prog g := by
    intro g hg; simp only [List.mem_cons, List.not_mem_nil, or_false] at hg; subst hg; exact cstrings_Trim n
  refine contract_f (Tryd.f17.body.getD .skip) h00 Tryd.func17 rfl (by intro args w; exact Tryd.call17 args w) (by decide) (by intro _ r; exact ⟨rfl, by simp⟩) ?_
  rintro s r H
  try dsimp only at H
  unfold enqueue_generation at H
  simp only [Tryd.f17, Option.getD]
  refine Sm.seqA h00 mixed hΓ (by kernel_rfl) fun K1 hK1 => ?_
  simp only [rs]
  repeat (refine opsG fun K hK => ?_; simp only [z, seval]; (repeat (first | refine gcI ?_ | refine fun (_ : _ ≤ _) => ?_)); refine hK _ ?_; clear hK K)
  refine hK1 _ ?_
  refine Sm.seqA h00 mixed hΓ (by kernel_rfl) fun K2 hK2 => ?_
  simp only [rs]
  repeat (refine opsG fun K hK => ?_; simp only [z, seval]; (repeat (first | refine gcI ?_ | refine fun (_ : _ ≤ _) => ?_)); refine hK _ ?_; clear hK K)
  refine hK2 _ ?_
  refine Sm.seqK fun K3 hK3 => ?_
  obtain ⟨⟨hg9, hg10, hg11, hg12⟩, H⟩ := gd_some H
  refine Sm.seqA h00 mixed hΓ (by kernel_rfl) fun K4 hK4 => ?_
  simp only [rs]
  repeat (refine opsG fun K hK => ?_; simp only [z, seval, xstrings_Trim]; (repeat (first | refine gcI ?_ | refine fun (_ : _ ≤ _) => ?_)); refine hK _ ?_; clear hK K)
  refine hK4 _ ?_
  refine Sm.condK (by rfl) fun Ka Kb ha hb => ?_
  simp only [wpCond, z, seval]
  refine ⟨fun h5 => ha ?_, fun h5 => hb ?_⟩
  · first | replace H := bif_t h5 H | replace H := bif_t2 h5 H (by simp only [List.length_append])
    refine Sm.seqA h00 mixed hΓ (by kernel_rfl) fun K6 hK6 => ?_
    simp only [rs]
    repeat (refine opsG fun K hK => ?_; simp only [z, seval]; (repeat (first | refine gcI ?_ | refine fun (_ : _ ≤ _) => ?_)); refine hK _ ?_; clear hK K)
    refine hK6 _ ?_
    refine Sm.ret ?_
    try simp only [seval, Exit.exit.injEq]
    obtain rfl := Option.some.inj H
    refine Ret.ofR [] (.inr rfl) ?_
    simp only [z, seval]
  first | replace H := bif_f h5 H | replace H := bif_f2 h5 H (by simp only [List.length_append])
  refine Sm.skip ?_
  refine hK3 _ ?_
  obtain ⟨hg8, H⟩ := gd_some H
  refine Sm.seqA h00 mixed hΓ (by kernel_rfl) fun K7 hK7 => ?_
  simp only [rs]
  repeat (refine opsG fun K hK => ?_; simp only [z, seval]; (repeat (first | refine gcI ?_ | refine fun (_ : _ ≤ _) => ?_)); refine hK _ ?_; clear hK K)
  refine hK7 _ ?_
  refine Sm.ret ?_
  try simp only [seval, Exit.exit.injEq]
  obtain rfl := Option.some.inj H
  refine Ret.ofR [] (.inr rfl) ?_
  simp only [z, seval]

abbrev enqueue_Wants_s1 (l : List TWant) : S := stB [(3, .own 9000 [.str, .bool] 0 l.length)] [(9000, .row 44 (List.map e_TWant l))]

def enqueue_Wants_k1 (n : Nat) (l : List TWant) : Option (List TWant) :=
  (enqueue_normalize n l).bind fun r1 =>
  some r1

abbrev enqueue_Wants_s3 (l_2 : List TWant) (j : TJob) (v17 : Int) (v18 : Int) : S := stB [(3, .own 9003 [.str, .bool] 0 l_2.length), (16, .c (.slice 29) (.slice (List.map e_TJobStep j.Steps))), (17, .c (.int .i64) (.int v17)), (18, .c (.int .i64) (.int v18))] [(9003, .row 44 (List.map e_TWant l_2))]

def enqueue_Wants_k3 (n : Nat) (l_2 : List TWant) (j : TJob) (v17 : Int) (v18 : Int) : Option (((List TWant) × Int) ⊕ (((List TWant)))) :=
  some (.inl (l_2, (IntKind.wrap .i64 (v18 + 1))))

abbrev enqueue_Wants_s5 (l_4 : List TWant) (j : TJob) (v17 : Int) (v18 : Int) (v23 : List TDD) (v24 : Int) (v25 : Int) : S := stB [(3, .own 9006 [.str, .bool] 0 l_4.length), (16, .c (.slice 29) (.slice (List.map e_TJobStep j.Steps))), (17, .c (.int .i64) (.int v17)), (18, .c (.int .i64) (.int v18)), (23, .c (.slice 63) (.slice (List.map e_TDD v23))), (24, .c (.int .i64) (.int v24)), (25, .c (.int .i64) (.int v25))] [(9006, .row 44 (List.map e_TWant l_4))]

def enqueue_Wants_k5 (n : Nat) (l_4 : List TWant) (j : TJob) (v17 : Int) (v18 : Int) (v23 : List TDD) (v24 : Int) (v25 : Int) : Option (((List TWant) × Int) ⊕ (((List TWant)))) :=
  some (.inl (l_4, (IntKind.wrap .i64 (v25 + 1))))

abbrev enqueue_Wants_t4 (j : TJob) (v17 : Int) (v18 : Int) (v23 : List TDD) (v24 : Int) (l_3 : List TWant) (v25 : Int) : S := stB [(3, .own 9005 [.str, .bool] 0 l_3.length), (16, .c (.slice 29) (.slice (List.map e_TJobStep j.Steps))), (17, .c (.int .i64) (.int v17)), (18, .c (.int .i64) (.int v18)), (23, .c (.slice 63) (.slice (List.map e_TDD v23))), (24, .c (.int .i64) (.int v24)), (25, .c (.int .i64) (.int v25))] [(9005, .row 44 (List.map e_TWant l_3))]

def enqueue_Wants_b4 (n : Nat) (j : TJob) (v17 : Int) (v18 : Int) (v23 : List TDD) (v24 : Int) (l_3 : List TWant) (v25 : Int) : Option (((List TWant) × Int) ⊕ (((List TWant)))) :=
  bif (decide (v25 < v24)) then
    gd ((0 ≤ v25 ∧ v25 < (v23.length : Int))) <|
    bif (if (if (if (((gt v23 (Int.toNat v25)).Dsn) == []) = true then true else (gt v23 (Int.toNat v25)).Dummy) = true then true else (((gt v23 (Int.toNat v25)).Sysout) != [])) = true then true else (gt v23 (Int.toNat v25)).HasData) then
      enqueue_Wants_k5 n l_3 j v17 v18 v23 v24 v25
    else
      (flow_Default n (gt v23 (Int.toNat v25))).bind fun r2 =>
      (enqueue_updates n r2.Normal).bind fun r3 =>
      gd (((!r3) = true → (enqueue_updates n r2.Abend).isSome = true)) <|
      gd (((!(if (if r3 = true then true else ((enqueue_updates n r2.Abend).getD default)) = true then true else (if (gt v23 (Int.toNat v25)).HasGen = true then (decide (((gt v23 (Int.toNat v25)).Gen) > 0)) else false))) = true → (flow_Exclusive n (gt v23 (Int.toNat v25))).isSome = true)) <|
      gd ((l_3.length + 1) ≤ 2147483648) <|
      (enqueue_generation n ((gt v23 (Int.toNat v25)).Dsn)).bind fun r4 =>
      bif r4.2 then
        gd (((l_3.length + 1) + 1) ≤ 2147483648) <|
        enqueue_Wants_k5 n ((l_3 ++ [(⟨(gt v23 (Int.toNat v25)).Dsn, (if (if (if r3 = true then true else ((enqueue_updates n r2.Abend).getD default)) = true then true else (if (gt v23 (Int.toNat v25)).HasGen = true then (decide (((gt v23 (Int.toNat v25)).Gen) > 0)) else false)) = true then true else ((flow_Exclusive n (gt v23 (Int.toNat v25))).getD default))⟩ : TWant)]) ++ [(⟨r4.1, (if (if (if r3 = true then true else ((enqueue_updates n r2.Abend).getD default)) = true then true else (if (gt v23 (Int.toNat v25)).HasGen = true then (decide (((gt v23 (Int.toNat v25)).Gen) > 0)) else false)) = true then true else ((flow_Exclusive n (gt v23 (Int.toNat v25))).getD default))⟩ : TWant)]) j v17 v18 v23 v24 v25
      else
        enqueue_Wants_k5 n (l_3 ++ [(⟨(gt v23 (Int.toNat v25)).Dsn, (if (if (if r3 = true then true else ((enqueue_updates n r2.Abend).getD default)) = true then true else (if (gt v23 (Int.toNat v25)).HasGen = true then (decide (((gt v23 (Int.toNat v25)).Gen) > 0)) else false)) = true then true else ((flow_Exclusive n (gt v23 (Int.toNat v25))).getD default))⟩ : TWant)]) j v17 v18 v23 v24 v25
  else
    some (.inr l_3)

abbrev enqueue_Wants_t2 (j : TJob) (v17 : Int) (l_1 : List TWant) (v18 : Int) : S := stB [(3, .own 9002 [.str, .bool] 0 l_1.length), (16, .c (.slice 29) (.slice (List.map e_TJobStep j.Steps))), (17, .c (.int .i64) (.int v17)), (18, .c (.int .i64) (.int v18))] [(9002, .row 44 (List.map e_TWant l_1))]

def enqueue_Wants_b2 (n : Nat) (j : TJob) (v17 : Int) (l_1 : List TWant) (v18 : Int) : Option (((List TWant) × Int) ⊕ (((List TWant)))) :=
  bif (decide (v18 < v17)) then
    gd ((0 ≤ v18 ∧ v18 < (j.Steps.length : Int))) <|
    (loopF (fun (x : (List TWant) × Int) => enqueue_Wants_b4 n j v17 v18 ((gt j.Steps (Int.toNat v18)).DDs) (((gt j.Steps (Int.toNat v18)).DDs).length : Int) x.1 x.2) n (l_1, 0)).bind fun y11 =>
    enqueue_Wants_k3 n y11 j v17 v18
  else
    some (.inr l_1)

def enqueue_Wants (n : Nat) (j : TJob) : Option (List TWant) :=
  (loopF (fun (x : (List TWant) × Int) => enqueue_Wants_b2 n j (j.Steps.length : Int) x.1 x.2) n ([(⟨[83, 89, 83, 49, 46, 76, 73, 78, 75, 76, 73, 66], false⟩ : TWant)], 0)).bind fun y5 =>
  enqueue_Wants_k1 n y5

def xenqueue_Wants (n : Nat) : Go.AE.Fn := mkFn (A := TJob) (R := (List TWant)) 7 [(true, [.str, .str, .int .i64, .slice 177, .slice 29])] true (fun xs => (⟨(cg (xs.getD 0 []) 0).toStr, (cg (xs.getD 0 []) 1).toStr, (cg (xs.getD 0 []) 2).toInt, ((cg (xs.getD 0 []) 3).toSl.map d_TCond), ((cg (xs.getD 0 []) 4).toSl.map d_TJobStep)⟩ : TJob)) (fun a => [[.str a.Name, .str a.Class, .int a.Prty, .slice (List.map e_TCond a.Conds), .slice (List.map e_TJobStep a.Steps)]]) (fun a => enqueue_Wants n a) (fun r => [.c (.slice 44) (.slice (List.map e_TWant r))]) (fun r => [])

theorem cenqueue_Wants (n : Nat) : Contract Tryd.prog (xenqueue_Wants n) := by
  have hΓ : ∀ g, g ∈ ([xflow_Default n, xenqueue_updates n, xflow_Exclusive n, xenqueue_generation n, xenqueue_normalize n] : List Go.AE.Fn) → Contract Tryd.prog g := by
    intro g hg; simp only [List.mem_cons, List.not_mem_nil, or_false] at hg; rcases hg with rfl | rfl | rfl | rfl | rfl; exact cflow_Default n; exact cenqueue_updates n; exact cflow_Exclusive n; exact cenqueue_generation n; exact cenqueue_normalize n
  refine contract_f (Tryd.f7.body.getD .skip) h00 Tryd.func7 rfl (by intro args w; exact Tryd.call7 args w) (by decide) (by intro h; cases h) ?_
  rintro j r H
  try dsimp only at H
  unfold enqueue_Wants at H
  simp only [Tryd.f7, Option.getD]
  refine Sm.seqA h00 mixed hΓ (by kernel_rfl) fun K1 hK1 => ?_
  simp only [rs]
  repeat (refine opsG fun K hK => ?_; simp only [z, seval]; (repeat (first | refine gcI ?_ | refine fun (_ : _ ≤ _) => ?_)); refine hK _ ?_; clear hK K)
  refine hK1 _ ?_
  refine Sm.seqA h00 mixed hΓ (by kernel_rfl) fun K2 hK2 => ?_
  simp only [rs]
  repeat (refine opsG fun K hK => ?_; simp only [z, seval]; (repeat (first | refine gcI ?_ | refine fun (_ : _ ≤ _) => ?_)); refine hK _ ?_; clear hK K)
  refine hK2 _ ?_
  refine Sm.cut (fun (x : (List TWant)) => enqueue_Wants_s1 x) (fun x => enqueue_Wants_k1 n x = some r) ?_ ?_
  · refine Sm.seqA h00 mixed hΓ (by kernel_rfl) fun K4 hK4 => ?_
    simp only [rs]
    repeat (refine opsG fun K hK => ?_; simp only [z, seval]; (repeat (first | refine gcI ?_ | refine fun (_ : _ ≤ _) => ?_)); refine hK _ ?_; clear hK K)
    refine hK4 _ ?_
    refine Sm.block ?_
    obtain ⟨y5, hy5, Ho5⟩ := bind_some H
    refine Sm.loopB (fun (x : (List TWant) × Int) => enqueue_Wants_b2 n j (j.Steps.length : Int) x.1 x.2) (fun x => enqueue_Wants_t2 j (j.Steps.length : Int) x.1 x.2) hy5 ?_ ?_
    · exact weak_b [some 224] rfl rfl rfl (by simp only [wk, z, seval]) (by simp only [wk, z, seval])
    rintro ⟨l_1, v18⟩ z5 H
    try dsimp only at H
    unfold enqueue_Wants_b2 at H
    refine Sm.seqA h00 mixed hΓ (by kernel_rfl) fun K6 hK6 => ?_
    simp only [rs]
    repeat (refine opsG fun K hK => ?_; simp only [z, seval, enqueue_Wants_t2]; (repeat (first | refine gcI ?_ | refine fun (_ : _ ≤ _) => ?_)); refine hK _ ?_; clear hK K)
    refine hK6 _ ?_
    refine Sm.seqK fun K7 hK7 => ?_
    refine Sm.condK (by rfl) fun Ka Kb ha hb => ?_
    simp only [wpCond, z, seval, enqueue_Wants_t2]
    refine ⟨fun h8 => ha ?_, fun h8 => hb ?_⟩
    · first | replace H := bif_t h8 H | replace H := bif_t2 h8 H (by simp only [List.length_append])
      refine Sm.skip ?_
      refine hK7 _ ?_
      refine Sm.cut (fun (x : (List TWant)) => enqueue_Wants_s3 x j (j.Steps.length : Int) v18) (fun x => enqueue_Wants_k3 n x j (j.Steps.length : Int) v18 = some z5) ?_ ?_
      · refine Sm.block ?_
        obtain ⟨hg31, H⟩ := gd_some H
        refine Sm.seqA h00 mixed hΓ (by kernel_rfl) fun K9 hK9 => ?_
        simp only [rs]
        repeat (refine opsG fun K hK => ?_; simp only [z, seval, enqueue_Wants_t2]; (repeat (first | refine gcI ?_ | refine fun (_ : _ ≤ _) => ?_)); refine hK _ ?_; clear hK K)
        refine hK9 _ ?_
        refine Sm.seqA h00 mixed hΓ (by kernel_rfl) fun K10 hK10 => ?_
        simp only [rs]
        repeat (refine opsG fun K hK => ?_; simp only [z, seval, enqueue_Wants_t2]; (repeat (first | refine gcI ?_ | refine fun (_ : _ ≤ _) => ?_)); refine hK _ ?_; clear hK K)
        refine hK10 _ ?_
        refine Sm.block ?_
        obtain ⟨y11, hy11, Ho11⟩ := bind_some H
        refine Sm.loopB (fun (x : (List TWant) × Int) => enqueue_Wants_b4 n j (j.Steps.length : Int) v18 ((gt j.Steps (Int.toNat v18)).DDs) (((gt j.Steps (Int.toNat v18)).DDs).length : Int) x.1 x.2) (fun x => enqueue_Wants_t4 j (j.Steps.length : Int) v18 ((gt j.Steps (Int.toNat v18)).DDs) (((gt j.Steps (Int.toNat v18)).DDs).length : Int) x.1 x.2) hy11 ?_ ?_
        · exact weak_b [some 9002] rfl rfl rfl (by simp only [wk, z, seval, enqueue_Wants_t2]) (by simp only [wk, z, seval, enqueue_Wants_t2])
        rintro ⟨l_3, v25⟩ z11 H
        try dsimp only at H
        unfold enqueue_Wants_b4 at H
        refine Sm.seqA h00 mixed hΓ (by kernel_rfl) fun K12 hK12 => ?_
        simp only [rs]
        repeat (refine opsG fun K hK => ?_; simp only [z, seval, enqueue_Wants_t4]; (repeat (first | refine gcI ?_ | refine fun (_ : _ ≤ _) => ?_)); refine hK _ ?_; clear hK K)
        refine hK12 _ ?_
        refine Sm.seqK fun K13 hK13 => ?_
        refine Sm.condK (by rfl) fun Ka Kb ha hb => ?_
        simp only [wpCond, z, seval, enqueue_Wants_t4]
        refine ⟨fun h14 => ha ?_, fun h14 => hb ?_⟩
        · first | replace H := bif_t h14 H | replace H := bif_t2 h14 H (by simp only [List.length_append])
          refine Sm.skip ?_
          refine hK13 _ ?_
          refine Sm.cut (fun (x : (List TWant)) => enqueue_Wants_s5 x j (j.Steps.length : Int) v18 ((gt j.Steps (Int.toNat v18)).DDs) (((gt j.Steps (Int.toNat v18)).DDs).length : Int) v25) (fun x => enqueue_Wants_k5 n x j (j.Steps.length : Int) v18 ((gt j.Steps (Int.toNat v18)).DDs) (((gt j.Steps (Int.toNat v18)).DDs).length : Int) v25 = some z11) ?_ ?_
          · refine Sm.block ?_
            obtain ⟨hg30, H⟩ := gd_some H
            refine Sm.seqA h00 mixed hΓ (by kernel_rfl) fun K15 hK15 => ?_
            simp only [rs]
            repeat (refine opsG fun K hK => ?_; simp only [z, seval, enqueue_Wants_t4]; (repeat (first | refine gcI ?_ | refine fun (_ : _ ≤ _) => ?_)); refine hK _ ?_; clear hK K)
            refine hK15 _ ?_
            refine Sm.seqK fun K16 hK16 => ?_
            refine Sm.seqA h00 mixed hΓ (by kernel_rfl) fun K17 hK17 => ?_
            simp only [rs]
            repeat (refine opsG fun K hK => ?_; simp only [z, seval, enqueue_Wants_t4]; (repeat (first | refine gcI ?_ | refine fun (_ : _ ≤ _) => ?_)); refine hK _ ?_; clear hK K)
            refine hK17 _ ?_
            refine Sm.condK (by rfl) fun Ka Kb ha hb => ?_
            simp only [wpCond, z, seval, enqueue_Wants_t4]
            refine ⟨fun h18 => ha ?_, fun h18 => hb ?_⟩
            · first | replace H := bif_t h18 H | replace H := bif_t2 h18 H (by simp only [List.length_append])
              refine Sm.exit ?_
              try simp only [seval, Exit.exit.injEq]
              refine ⟨_, H, ?_⟩
              exact weak_b [some 9005] rfl rfl rfl (by simp only [wk, z, seval, enqueue_Wants_t4]) (by simp only [wk, z, seval, enqueue_Wants_t4])
            first | replace H := bif_f h18 H | replace H := bif_f2 h18 H (by simp only [List.length_append])
            refine Sm.skip ?_
            refine hK16 _ ?_
            obtain ⟨r2, hr2, H⟩ := bind_some H
            refine Sm.seqA h00 mixed hΓ (by kernel_rfl) fun K19 hK19 => ?_
            simp only [rs]
            repeat (refine opsG fun K hK => ?_; simp only [z, seval, enqueue_Wants_t4, xflow_Default, hr2]; (repeat (first | refine gcI ?_ | refine fun (_ : _ ≤ _) => ?_)); refine hK _ ?_; clear hK K)
            refine hK19 _ ?_
            obtain ⟨r3, hr3, H⟩ := bind_some H
            obtain ⟨hg29, H⟩ := gd_some H
            refine Sm.seqA h00 mixed hΓ (by kernel_rfl) fun K20 hK20 => ?_
            simp only [rs]
            repeat (refine opsG fun K hK => ?_; simp only [z, seval, enqueue_Wants_t4, xflow_Default, xenqueue_updates, hr3]; (repeat (first | refine gcI ?_ | refine fun (_ : _ ≤ _) => ?_)); refine hK _ ?_; clear hK K)
            refine hK20 _ ?_
            obtain ⟨hg22, H⟩ := gd_some H
            refine Sm.seqQ h00 mixed hΓ [0, 1, 2, 3, 4, 5, 6, 7, 8, 9] [(none, [112], []), (none, [112], []), (none, [], []), (none, [], []), (none, [112], []), (none, [], [1119, 1118, 1117, 1116, 1115, 1114, 1113, 1112, 1111, 1110, 1109, 1108, 1107, 1106, 1105, 1104]), (none, [], []), (none, [], []), (none, [], [160]), (none, [160], [160])] (by kernel_rfl) rfl fun K21 hK21 => ?_
            simp only [rs]
            iterate 10 (refine opsQ fun K hK => ?_; simp only [z, seval, enqueue_Wants_t4, xflow_Default, xenqueue_updates, xflow_Exclusive]; (repeat (first | refine gcI ?_ | refine fun (_ : _ ≤ _) => ?_)); refine hK _ ?_; clear hK K)
            refine opsQ0 ?_
            refine hK21 _ ?_
            obtain ⟨hg28, H⟩ := gd_some H
            refine Sm.seqA h00 mixed hΓ (by kernel_rfl) fun K23 hK23 => ?_
            simp only [rs]
            repeat (refine opsG fun K hK => ?_; simp only [z, seval, enqueue_Wants_t4]; (repeat (first | refine gcI ?_ | refine fun (_ : _ ≤ _) => ?_)); refine hK _ ?_; clear hK K)
            refine hK23 _ ?_
            obtain ⟨r4, hr4, H⟩ := bind_some H
            refine Sm.seqA h00 mixed hΓ (by kernel_rfl) fun K24 hK24 => ?_
            simp only [rs]
            repeat (refine opsG fun K hK => ?_; simp only [z, seval, enqueue_Wants_t4, xflow_Default, xenqueue_updates, xflow_Exclusive, xenqueue_generation, hr4]; (repeat (first | refine gcI ?_ | refine fun (_ : _ ≤ _) => ?_)); refine hK _ ?_; clear hK K)
            refine hK24 _ ?_
            refine Sm.seqA h00 mixed hΓ (by kernel_rfl) fun K25 hK25 => ?_
            simp only [rs]
            repeat (refine opsG fun K hK => ?_; simp only [z, seval, enqueue_Wants_t4]; (repeat (first | refine gcI ?_ | refine fun (_ : _ ≤ _) => ?_)); refine hK _ ?_; clear hK K)
            refine hK25 _ ?_
            refine Sm.condK (by rfl) fun Ka Kb ha hb => ?_
            simp only [wpCond, z, seval, enqueue_Wants_t4]
            refine ⟨fun h26 => ha ?_, fun h26 => hb ?_⟩
            · first | replace H := bif_t h26 H | replace H := bif_t2 h26 H (by simp only [List.length_append])
              obtain ⟨hg27, H⟩ := gd_some H
              refine Sm.regA h00 mixed hΓ (by kernel_rfl) ?_
              simp only [rs]
              repeat (refine opsG fun K hK => ?_; simp only [z, seval, enqueue_Wants_t4]; (repeat (first | refine gcI ?_ | refine fun (_ : _ ≤ _) => ?_)); refine hK _ ?_; clear hK K)
              refine opsG0 ?_
              try simp only [seval, Exit.exit.injEq]
              refine ⟨_, H, ?_⟩
              exact weak_b [some 1424] rfl rfl rfl (by simp only [wk, z, seval, enqueue_Wants_t4]) (by simp only [wk, z, seval, enqueue_Wants_t4])
            first | replace H := bif_f h26 H | replace H := bif_f2 h26 H (by simp only [List.length_append])
            refine Sm.skip ?_
            try simp only [seval, Exit.exit.injEq]
            refine ⟨_, H, ?_⟩
            exact weak_b [some 1200] rfl rfl rfl (by simp only [wk, z, seval, enqueue_Wants_t4]) (by simp only [wk, z, seval, enqueue_Wants_t4])
          rintro l_4 H
          try dsimp only at H
          unfold enqueue_Wants_k5 at H
          refine Sm.regA h00 mixed hΓ (by kernel_rfl) ?_
          simp only [rs]
          repeat (refine opsG fun K hK => ?_; simp only [z, seval, enqueue_Wants_s5]; (repeat (first | refine gcI ?_ | refine fun (_ : _ ≤ _) => ?_)); refine hK _ ?_; clear hK K)
          refine opsG0 ?_
          try simp only [seval, Exit.exit.injEq]
          refine ⟨(_, _), (Option.some.inj H).symm, ?_⟩
          exact weak_b [some 9006] rfl rfl rfl (by simp only [wk, z, seval, enqueue_Wants_s5]) (by simp only [wk, z, seval, enqueue_Wants_s5])
        first | replace H := bif_f h14 H | replace H := bif_f2 h14 H (by simp only [List.length_append])
        refine Sm.exit ?_
        try simp only [seval, Exit.exit.injEq]
        refine ⟨⟨_, (Option.some.inj H).symm⟩, fun hz => ?_⟩
        have hyy := Sum.inr.inj ((Option.some.inj H).trans hz)
        subst hyy
        have H := Ho11
        try dsimp only at H
        try simp only [seval, Exit.exit.injEq]
        refine ⟨_, H, ?_⟩
        exact weak_b [some 9005] rfl rfl rfl (by simp only [wk, z, seval, enqueue_Wants_t4]) (by simp only [wk, z, seval, enqueue_Wants_t4])
      rintro l_2 H
      try dsimp only at H
      unfold enqueue_Wants_k3 at H
      refine Sm.regA h00 mixed hΓ (by kernel_rfl) ?_
      simp only [rs]
      repeat (refine opsG fun K hK => ?_; simp only [z, seval, enqueue_Wants_s3]; (repeat (first | refine gcI ?_ | refine fun (_ : _ ≤ _) => ?_)); refine hK _ ?_; clear hK K)
      refine opsG0 ?_
      try simp only [seval, Exit.exit.injEq]
      refine ⟨(_, _), (Option.some.inj H).symm, ?_⟩
      exact weak_b [some 9003] rfl rfl rfl (by simp only [wk, z, seval, enqueue_Wants_s3]) (by simp only [wk, z, seval, enqueue_Wants_s3])
    first | replace H := bif_f h8 H | replace H := bif_f2 h8 H (by simp only [List.length_append])
    refine Sm.exit ?_
    try simp only [seval, Exit.exit.injEq]
    refine ⟨⟨_, (Option.some.inj H).symm⟩, fun hz => ?_⟩
    have hyy := Sum.inr.inj ((Option.some.inj H).trans hz)
    subst hyy
    have H := Ho5
    try dsimp only at H
    try simp only [seval, Exit.exit.injEq]
    refine ⟨_, H, ?_⟩
    exact weak_b [some 9002] rfl rfl rfl (by simp only [wk, z, seval, enqueue_Wants_t2]) (by simp only [wk, z, seval, enqueue_Wants_t2])
  rintro l H
  try dsimp only at H
  unfold enqueue_Wants_k1 at H
  obtain ⟨r1, hr1, H⟩ := bind_some H
  refine Sm.seqA h00 mixed hΓ (by kernel_rfl) fun K3 hK3 => ?_
  simp only [rs]
  repeat (refine opsG fun K hK => ?_; simp only [z, seval, enqueue_Wants_s1, xflow_Default, xenqueue_updates, xflow_Exclusive, xenqueue_generation, xenqueue_normalize, hr1]; (repeat (first | refine gcI ?_ | refine fun (_ : _ ≤ _) => ?_)); refine hK _ ?_; clear hK K)
  refine hK3 _ ?_
  refine Sm.ret ?_
  try simp only [seval, Exit.exit.injEq]
  obtain rfl := Option.some.inj H
  refine Ret.ofR [] (.inr rfl) ?_
  simp only [z, seval, enqueue_Wants_s1]

def ref36_Named (n : Nat) (d : TDD) : Option Bool :=
  some (if (if (if (d.Dsn != []) = true then (!d.Dummy) else false) = true then (d.Sysout == []) else false) = true then (!d.HasData) else false)

def xref36_Named (n : Nat) : Go.AE.Fn := mkFn (A := TDD) (R := Bool) 19 [(true, [.str, .str, .str, .int .i64, .bool, .int .i64, .int .i64, .int .i64, .int .i64, .str, .int .i64, .int .i64, .int .i64, .int .i64, .int .i64, .bool, .bool, .int .i64, .int .i64, .int .i64, .int .i64, .str, .slice 9, .bool, .bool])] false (fun xs => (⟨(cg (xs.getD 0 []) 0).toStr, (cg (xs.getD 0 []) 1).toStr, (cg (xs.getD 0 []) 2).toStr, (cg (xs.getD 0 []) 3).toInt, (cg (xs.getD 0 []) 4).toBool, (cg (xs.getD 0 []) 5).toInt, (cg (xs.getD 0 []) 6).toInt, (cg (xs.getD 0 []) 7).toInt, (cg (xs.getD 0 []) 8).toInt, (cg (xs.getD 0 []) 9).toStr, (cg (xs.getD 0 []) 10).toInt, (cg (xs.getD 0 []) 11).toInt, (cg (xs.getD 0 []) 12).toInt, (⟨(cg (xs.getD 0 []) 13).toInt, (cg (xs.getD 0 []) 14).toInt, (cg (xs.getD 0 []) 15).toBool, (cg (xs.getD 0 []) 16).toBool, (cg (xs.getD 0 []) 17).toInt, (cg (xs.getD 0 []) 18).toInt, (cg (xs.getD 0 []) 19).toInt, (cg (xs.getD 0 []) 20).toInt⟩ : TDcb), (cg (xs.getD 0 []) 21).toStr, ((cg (xs.getD 0 []) 22).toSl.map d_Str), (cg (xs.getD 0 []) 23).toBool, (cg (xs.getD 0 []) 24).toBool⟩ : TDD)) (fun a => [[.str a.Name, .str a.Dsn, .str a.Member, .int a.Gen, .bool a.HasGen, .int a.Disp, .int a.Normal, .int a.Abend, .int a.Unit, .str a.Vol, .int a.Tracks, .int a.More, .int a.File, .int a.Dcb.Org, .int a.Dcb.Format, .bool a.Dcb.Blocked, .bool a.Dcb.Asa, .int a.Dcb.Lrecl, .int a.Dcb.Blksize, .int a.Dcb.KeyLen, .int a.Dcb.KeyPos, .str a.Sysout, .slice (List.map e_Str a.Instream), .bool a.HasData, .bool a.Dummy]]) (fun a => ref36_Named n a) (fun r => [.c .bool (.bool r)]) (fun r => [])

theorem cref36_Named (n : Nat) : Contract Tryd.prog (xref36_Named n) := by
  have hΓ : ∀ g, g ∈ ([] : List Go.AE.Fn) → Contract Tryd.prog g := by simp
  refine contract_f (Tryd.f19.body.getD .skip) h00 Tryd.func19 rfl (by intro args w; exact Tryd.call19 args w) (by decide) (by intro _ r; exact ⟨rfl, by simp⟩) ?_
  rintro d r H
  try dsimp only at H
  unfold ref36_Named at H
  simp only [Tryd.f19, Option.getD]
  refine Sm.seqA h00 mixed hΓ (by kernel_rfl) fun K1 hK1 => ?_
  simp only [rs]
  repeat (refine opsG fun K hK => ?_; simp only [z, seval]; (repeat (first | refine gcI ?_ | refine fun (_ : _ ≤ _) => ?_)); refine hK _ ?_; clear hK K)
  refine hK1 _ ?_
  refine Sm.seqA h00 mixed hΓ (by kernel_rfl) fun K2 hK2 => ?_
  simp only [rs]
  repeat (refine opsG fun K hK => ?_; simp only [z, seval]; (repeat (first | refine gcI ?_ | refine fun (_ : _ ≤ _) => ?_)); refine hK _ ?_; clear hK K)
  refine hK2 _ ?_
  refine Sm.ret ?_
  try simp only [seval, Exit.exit.injEq]
  obtain rfl := Option.some.inj H
  refine Ret.ofR [] (.inr rfl) ?_
  simp only [z, seval]

abbrev ref36_Dispositions_s5 (disp_1 : Int) (normal_1 : Int) (abend_2 : Int) : S := stB [(0, .c (.int .i64) (.int disp_1)), (1, .c (.int .i64) (.int normal_1)), (2, .c (.int .i64) (.int abend_2))] []

def ref36_Dispositions_k5 (n : Nat) (disp_1 : Int) (normal_1 : Int) (abend_2 : Int) : Option (Int × Int × Int) :=
  some (disp_1, normal_1, abend_2)

abbrev ref36_Dispositions_s4 (disp_1 : Int) (normal_1 : Int) (abend_1 : Int) (other : Int) : S := stB [(0, .c (.int .i64) (.int disp_1)), (1, .c (.int .i64) (.int normal_1)), (2, .c (.int .i64) (.int abend_1)), (9, .c (.int .i64) (.int other))] []

def ref36_Dispositions_k4 (n : Nat) (disp_1 : Int) (normal_1 : Int) (abend_1 : Int) (other : Int) : Option (Int × Int × Int) :=
  bif (abend_1 == 0) then
    ref36_Dispositions_k5 n disp_1 normal_1 other
  else
    ref36_Dispositions_k5 n disp_1 normal_1 abend_1

abbrev ref36_Dispositions_s3 (disp_1 : Int) (normal_1 : Int) (abend : Int) (other : Int) : S := stB [(0, .c (.int .i64) (.int disp_1)), (1, .c (.int .i64) (.int normal_1)), (2, .c (.int .i64) (.int abend)), (9, .c (.int .i64) (.int other))] []

def ref36_Dispositions_k3 (n : Nat) (disp_1 : Int) (normal_1 : Int) (abend : Int) (other : Int) : Option (Int × Int × Int) :=
  bif (if (abend == 0) = true then (normal_1 != 5) else false) then
    ref36_Dispositions_k4 n disp_1 normal_1 normal_1 other
  else
    ref36_Dispositions_k4 n disp_1 normal_1 abend other

abbrev ref36_Dispositions_s2 (disp_1 : Int) (normal : Int) (abend : Int) (other : Int) : S := stB [(0, .c (.int .i64) (.int disp_1)), (1, .c (.int .i64) (.int normal)), (2, .c (.int .i64) (.int abend)), (9, .c (.int .i64) (.int other))] []

def ref36_Dispositions_k2 (n : Nat) (disp_1 : Int) (normal : Int) (abend : Int) (other : Int) : Option (Int × Int × Int) :=
  bif (normal == 0) then
    ref36_Dispositions_k3 n disp_1 other abend other
  else
    ref36_Dispositions_k3 n disp_1 normal abend other

abbrev ref36_Dispositions_s1 (disp_1 : Int) (normal : Int) (abend : Int) : S := stB [(0, .c (.int .i64) (.int disp_1)), (1, .c (.int .i64) (.int normal)), (2, .c (.int .i64) (.int abend))] []

def ref36_Dispositions_k1 (n : Nat) (disp_1 : Int) (normal : Int) (abend : Int) : Option (Int × Int × Int) :=
  bif (disp_1 == 1) then
    ref36_Dispositions_k2 n disp_1 normal abend 2
  else
    ref36_Dispositions_k2 n disp_1 normal abend 1

def ref36_Dispositions (n : Nat) (disp : Int) (normal : Int) (abend : Int) : Option (Int × Int × Int) :=
  bif (disp == 0) then
    ref36_Dispositions_k1 n 1 normal abend
  else
    ref36_Dispositions_k1 n disp normal abend

def xref36_Dispositions (n : Nat) : Go.AE.Fn := mkFn (A := Int × Int × Int) (R := Int × Int × Int) 20 [(false, [.int .i64]), (false, [.int .i64]), (false, [.int .i64])] false (fun xs => ((cg (xs.getD 0 []) 0).toInt, (cg (xs.getD 1 []) 0).toInt, (cg (xs.getD 2 []) 0).toInt)) (fun a => [[.int a.1], [.int a.2.1], [.int a.2.2]]) (fun a => ref36_Dispositions n a.1 a.2.1 a.2.2) (fun r => [.c (.int .i64) (.int r.1), .c (.int .i64) (.int r.2.1), .c (.int .i64) (.int r.2.2)]) (fun r => [])

theorem cref36_Dispositions (n : Nat) : Contract Tryd.prog (xref36_Dispositions n) := by
  have hΓ : ∀ g, g ∈ ([] : List Go.AE.Fn) → Contract Tryd.prog g := by simp
  refine contract_f (Tryd.f20.body.getD .skip) h00 Tryd.func20 rfl (by intro args w; exact Tryd.call20 args w) (by decide) (by intro _ r; exact ⟨rfl, by simp⟩) ?_
  rintro ⟨disp, normal, abend⟩ r H
  try dsimp only at H
  unfold ref36_Dispositions at H
  simp only [Tryd.f20, Option.getD]
  refine Sm.seqA h00 mixed hΓ (by kernel_rfl) fun K1 hK1 => ?_
  simp only [rs]
  repeat (refine opsG fun K hK => ?_; simp only [z, seval]; (repeat (first | refine gcI ?_ | refine fun (_ : _ ≤ _) => ?_)); refine hK _ ?_; clear hK K)
  refine hK1 _ ?_
  refine Sm.cut (fun (x : Int) => ref36_Dispositions_s1 x normal abend) (fun x => ref36_Dispositions_k1 n x normal abend = some r) ?_ ?_
  · refine Sm.seqA h00 mixed hΓ (by kernel_rfl) fun K12 hK12 => ?_
    simp only [rs]
    repeat (refine opsG fun K hK => ?_; simp only [z, seval]; (repeat (first | refine gcI ?_ | refine fun (_ : _ ≤ _) => ?_)); refine hK _ ?_; clear hK K)
    refine hK12 _ ?_
    refine Sm.condK (by rfl) fun Ka Kb ha hb => ?_
    simp only [wpCond, z, seval]
    refine ⟨fun h13 => ha ?_, fun h13 => hb ?_⟩
    · first | replace H := bif_t h13 H | replace H := bif_t2 h13 H (by simp only [List.length_append])
      refine Sm.regA h00 mixed hΓ (by kernel_rfl) ?_
      simp only [rs]
      repeat (refine opsG fun K hK => ?_; simp only [z, seval]; (repeat (first | refine gcI ?_ | refine fun (_ : _ ≤ _) => ?_)); refine hK _ ?_; clear hK K)
      refine opsG0 ?_
      try simp only [seval, Exit.exit.injEq]
      refine ⟨_, H, ?_⟩
      exact weak_b [] rfl rfl rfl (by simp only [wk, z, seval]) (by simp only [wk, z, seval])
    first | replace H := bif_f h13 H | replace H := bif_f2 h13 H (by simp only [List.length_append])
    refine Sm.skip ?_
    try simp only [seval, Exit.exit.injEq]
    refine ⟨_, H, ?_⟩
    exact weak_b [] rfl rfl rfl (by simp only [wk, z, seval]) (by simp only [wk, z, seval])
  rintro disp_1 H
  try dsimp only at H
  unfold ref36_Dispositions_k1 at H
  refine Sm.seqA h00 mixed hΓ (by kernel_rfl) fun K2 hK2 => ?_
  simp only [rs]
  repeat (refine opsG fun K hK => ?_; simp only [z, seval, ref36_Dispositions_s1]; (repeat (first | refine gcI ?_ | refine fun (_ : _ ≤ _) => ?_)); refine hK _ ?_; clear hK K)
  refine hK2 _ ?_
  refine Sm.cut (fun (x : Int) => ref36_Dispositions_s2 disp_1 normal abend x) (fun x => ref36_Dispositions_k2 n disp_1 normal abend x = some r) ?_ ?_
  · refine Sm.seqA h00 mixed hΓ (by kernel_rfl) fun K10 hK10 => ?_
    simp only [rs]
    repeat (refine opsG fun K hK => ?_; simp only [z, seval, ref36_Dispositions_s1]; (repeat (first | refine gcI ?_ | refine fun (_ : _ ≤ _) => ?_)); refine hK _ ?_; clear hK K)
    refine hK10 _ ?_
    refine Sm.condK (by rfl) fun Ka Kb ha hb => ?_
    simp only [wpCond, z, seval, ref36_Dispositions_s1]
    refine ⟨fun h11 => ha ?_, fun h11 => hb ?_⟩
    · first | replace H := bif_t h11 H | replace H := bif_t2 h11 H (by simp only [List.length_append])
      refine Sm.regA h00 mixed hΓ (by kernel_rfl) ?_
      simp only [rs]
      repeat (refine opsG fun K hK => ?_; simp only [z, seval, ref36_Dispositions_s1]; (repeat (first | refine gcI ?_ | refine fun (_ : _ ≤ _) => ?_)); refine hK _ ?_; clear hK K)
      refine opsG0 ?_
      try simp only [seval, Exit.exit.injEq]
      refine ⟨_, H, ?_⟩
      exact weak_b [] rfl rfl rfl (by simp only [wk, z, seval, ref36_Dispositions_s1]) (by simp only [wk, z, seval, ref36_Dispositions_s1])
    first | replace H := bif_f h11 H | replace H := bif_f2 h11 H (by simp only [List.length_append])
    refine Sm.skip ?_
    try simp only [seval, Exit.exit.injEq]
    refine ⟨_, H, ?_⟩
    exact weak_b [] rfl rfl rfl (by simp only [wk, z, seval, ref36_Dispositions_s1]) (by simp only [wk, z, seval, ref36_Dispositions_s1])
  rintro other H
  try dsimp only at H
  unfold ref36_Dispositions_k2 at H
  refine Sm.cut (fun (x : Int) => ref36_Dispositions_s3 disp_1 x abend other) (fun x => ref36_Dispositions_k3 n disp_1 x abend other = some r) ?_ ?_
  · refine Sm.seqA h00 mixed hΓ (by kernel_rfl) fun K8 hK8 => ?_
    simp only [rs]
    repeat (refine opsG fun K hK => ?_; simp only [z, seval, ref36_Dispositions_s2]; (repeat (first | refine gcI ?_ | refine fun (_ : _ ≤ _) => ?_)); refine hK _ ?_; clear hK K)
    refine hK8 _ ?_
    refine Sm.condK (by rfl) fun Ka Kb ha hb => ?_
    simp only [wpCond, z, seval, ref36_Dispositions_s2]
    refine ⟨fun h9 => ha ?_, fun h9 => hb ?_⟩
    · first | replace H := bif_t h9 H | replace H := bif_t2 h9 H (by simp only [List.length_append])
      refine Sm.regA h00 mixed hΓ (by kernel_rfl) ?_
      simp only [rs]
      repeat (refine opsG fun K hK => ?_; simp only [z, seval, ref36_Dispositions_s2]; (repeat (first | refine gcI ?_ | refine fun (_ : _ ≤ _) => ?_)); refine hK _ ?_; clear hK K)
      refine opsG0 ?_
      try simp only [seval, Exit.exit.injEq]
      refine ⟨_, H, ?_⟩
      exact weak_b [] rfl rfl rfl (by simp only [wk, z, seval, ref36_Dispositions_s2]) (by simp only [wk, z, seval, ref36_Dispositions_s2])
    first | replace H := bif_f h9 H | replace H := bif_f2 h9 H (by simp only [List.length_append])
    refine Sm.skip ?_
    try simp only [seval, Exit.exit.injEq]
    refine ⟨_, H, ?_⟩
    exact weak_b [] rfl rfl rfl (by simp only [wk, z, seval, ref36_Dispositions_s2]) (by simp only [wk, z, seval, ref36_Dispositions_s2])
  rintro normal_1 H
  try dsimp only at H
  unfold ref36_Dispositions_k3 at H
  refine Sm.cut (fun (x : Int) => ref36_Dispositions_s4 disp_1 normal_1 x other) (fun x => ref36_Dispositions_k4 n disp_1 normal_1 x other = some r) ?_ ?_
  · refine Sm.seqA h00 mixed hΓ (by kernel_rfl) fun K6 hK6 => ?_
    simp only [rs]
    repeat (refine opsG fun K hK => ?_; simp only [z, seval, ref36_Dispositions_s3]; (repeat (first | refine gcI ?_ | refine fun (_ : _ ≤ _) => ?_)); refine hK _ ?_; clear hK K)
    refine hK6 _ ?_
    refine Sm.condK (by rfl) fun Ka Kb ha hb => ?_
    simp only [wpCond, z, seval, ref36_Dispositions_s3]
    refine ⟨fun h7 => ha ?_, fun h7 => hb ?_⟩
    · first | replace H := bif_t h7 H | replace H := bif_t2 h7 H (by simp only [List.length_append])
      refine Sm.regA h00 mixed hΓ (by kernel_rfl) ?_
      simp only [rs]
      repeat (refine opsG fun K hK => ?_; simp only [z, seval, ref36_Dispositions_s3]; (repeat (first | refine gcI ?_ | refine fun (_ : _ ≤ _) => ?_)); refine hK _ ?_; clear hK K)
      refine opsG0 ?_
      try simp only [seval, Exit.exit.injEq]
      refine ⟨_, H, ?_⟩
      exact weak_b [] rfl rfl rfl (by simp only [wk, z, seval, ref36_Dispositions_s3]) (by simp only [wk, z, seval, ref36_Dispositions_s3])
    first | replace H := bif_f h7 H | replace H := bif_f2 h7 H (by simp only [List.length_append])
    refine Sm.skip ?_
    try simp only [seval, Exit.exit.injEq]
    refine ⟨_, H, ?_⟩
    exact weak_b [] rfl rfl rfl (by simp only [wk, z, seval, ref36_Dispositions_s3]) (by simp only [wk, z, seval, ref36_Dispositions_s3])
  rintro abend_1 H
  try dsimp only at H
  unfold ref36_Dispositions_k4 at H
  refine Sm.cut (fun (x : Int) => ref36_Dispositions_s5 disp_1 normal_1 x) (fun x => ref36_Dispositions_k5 n disp_1 normal_1 x = some r) ?_ ?_
  · refine Sm.seqA h00 mixed hΓ (by kernel_rfl) fun K4 hK4 => ?_
    simp only [rs]
    repeat (refine opsG fun K hK => ?_; simp only [z, seval, ref36_Dispositions_s4]; (repeat (first | refine gcI ?_ | refine fun (_ : _ ≤ _) => ?_)); refine hK _ ?_; clear hK K)
    refine hK4 _ ?_
    refine Sm.condK (by rfl) fun Ka Kb ha hb => ?_
    simp only [wpCond, z, seval, ref36_Dispositions_s4]
    refine ⟨fun h5 => ha ?_, fun h5 => hb ?_⟩
    · first | replace H := bif_t h5 H | replace H := bif_t2 h5 H (by simp only [List.length_append])
      refine Sm.regA h00 mixed hΓ (by kernel_rfl) ?_
      simp only [rs]
      repeat (refine opsG fun K hK => ?_; simp only [z, seval, ref36_Dispositions_s4]; (repeat (first | refine gcI ?_ | refine fun (_ : _ ≤ _) => ?_)); refine hK _ ?_; clear hK K)
      refine opsG0 ?_
      try simp only [seval, Exit.exit.injEq]
      refine ⟨_, H, ?_⟩
      exact weak_b [] rfl rfl rfl (by simp only [wk, z, seval, ref36_Dispositions_s4]) (by simp only [wk, z, seval, ref36_Dispositions_s4])
    first | replace H := bif_f h5 H | replace H := bif_f2 h5 H (by simp only [List.length_append])
    refine Sm.skip ?_
    try simp only [seval, Exit.exit.injEq]
    refine ⟨_, H, ?_⟩
    exact weak_b [] rfl rfl rfl (by simp only [wk, z, seval, ref36_Dispositions_s4]) (by simp only [wk, z, seval, ref36_Dispositions_s4])
  rintro abend_2 H
  try dsimp only at H
  unfold ref36_Dispositions_k5 at H
  refine Sm.seqA h00 mixed hΓ (by kernel_rfl) fun K3 hK3 => ?_
  simp only [rs]
  repeat (refine opsG fun K hK => ?_; simp only [z, seval, ref36_Dispositions_s5]; (repeat (first | refine gcI ?_ | refine fun (_ : _ ≤ _) => ?_)); refine hK _ ?_; clear hK K)
  refine hK3 _ ?_
  refine Sm.ret ?_
  try simp only [seval, Exit.exit.injEq]
  obtain rfl := Option.some.inj H
  refine Ret.ofR [] (.inr rfl) ?_
  simp only [z, seval, ref36_Dispositions_s5]

def ref36_Exclusive (n : Nat) (d : TDD) : Option Bool :=
  (ref36_Dispositions n d.Disp d.Normal d.Abend).bind fun r1 =>
  (ref36_Named n d).bind fun r2 =>
  some (if r2 = true then (r1.1 != 3) else false)

def xref36_Exclusive (n : Nat) : Go.AE.Fn := mkFn (A := TDD) (R := Bool) 21 [(true, [.str, .str, .str, .int .i64, .bool, .int .i64, .int .i64, .int .i64, .int .i64, .str, .int .i64, .int .i64, .int .i64, .int .i64, .int .i64, .bool, .bool, .int .i64, .int .i64, .int .i64, .int .i64, .str, .slice 9, .bool, .bool])] false (fun xs => (⟨(cg (xs.getD 0 []) 0).toStr, (cg (xs.getD 0 []) 1).toStr, (cg (xs.getD 0 []) 2).toStr, (cg (xs.getD 0 []) 3).toInt, (cg (xs.getD 0 []) 4).toBool, (cg (xs.getD 0 []) 5).toInt, (cg (xs.getD 0 []) 6).toInt, (cg (xs.getD 0 []) 7).toInt, (cg (xs.getD 0 []) 8).toInt, (cg (xs.getD 0 []) 9).toStr, (cg (xs.getD 0 []) 10).toInt, (cg (xs.getD 0 []) 11).toInt, (cg (xs.getD 0 []) 12).toInt, (⟨(cg (xs.getD 0 []) 13).toInt, (cg (xs.getD 0 []) 14).toInt, (cg (xs.getD 0 []) 15).toBool, (cg (xs.getD 0 []) 16).toBool, (cg (xs.getD 0 []) 17).toInt, (cg (xs.getD 0 []) 18).toInt, (cg (xs.getD 0 []) 19).toInt, (cg (xs.getD 0 []) 20).toInt⟩ : TDcb), (cg (xs.getD 0 []) 21).toStr, ((cg (xs.getD 0 []) 22).toSl.map d_Str), (cg (xs.getD 0 []) 23).toBool, (cg (xs.getD 0 []) 24).toBool⟩ : TDD)) (fun a => [[.str a.Name, .str a.Dsn, .str a.Member, .int a.Gen, .bool a.HasGen, .int a.Disp, .int a.Normal, .int a.Abend, .int a.Unit, .str a.Vol, .int a.Tracks, .int a.More, .int a.File, .int a.Dcb.Org, .int a.Dcb.Format, .bool a.Dcb.Blocked, .bool a.Dcb.Asa, .int a.Dcb.Lrecl, .int a.Dcb.Blksize, .int a.Dcb.KeyLen, .int a.Dcb.KeyPos, .str a.Sysout, .slice (List.map e_Str a.Instream), .bool a.HasData, .bool a.Dummy]]) (fun a => ref36_Exclusive n a) (fun r => [.c .bool (.bool r)]) (fun r => [])

theorem cref36_Exclusive (n : Nat) : Contract Tryd.prog (xref36_Exclusive n) := by
  have hΓ : ∀ g, g ∈ ([xref36_Dispositions n, xref36_Named n] : List Go.AE.Fn) → Contract Tryd.prog g := by
    intro g hg; simp only [List.mem_cons, List.not_mem_nil, or_false] at hg; rcases hg with rfl | rfl; exact cref36_Dispositions n; exact cref36_Named n
  refine contract_f (Tryd.f21.body.getD .skip) h00 Tryd.func21 rfl (by intro args w; exact Tryd.call21 args w) (by decide) (by intro _ r; exact ⟨rfl, by simp⟩) ?_
  rintro d r H
  try dsimp only at H
  unfold ref36_Exclusive at H
  simp only [Tryd.f21, Option.getD]
  refine Sm.seqA h00 mixed hΓ (by kernel_rfl) fun K1 hK1 => ?_
  simp only [rs]
  repeat (refine opsG fun K hK => ?_; simp only [z, seval]; (repeat (first | refine gcI ?_ | refine fun (_ : _ ≤ _) => ?_)); refine hK _ ?_; clear hK K)
  refine hK1 _ ?_
  obtain ⟨r1, hr1, H⟩ := bind_some H
  refine Sm.seqA h00 mixed hΓ (by kernel_rfl) fun K2 hK2 => ?_
  simp only [rs]
  repeat (refine opsG fun K hK => ?_; simp only [z, seval, xref36_Dispositions, hr1]; (repeat (first | refine gcI ?_ | refine fun (_ : _ ≤ _) => ?_)); refine hK _ ?_; clear hK K)
  refine hK2 _ ?_
  obtain ⟨r2, hr2, H⟩ := bind_some H
  refine Sm.seqA h00 mixed hΓ (by kernel_rfl) fun K3 hK3 => ?_
  simp only [rs]
  repeat (refine opsG fun K hK => ?_; simp only [z, seval, xref36_Dispositions, xref36_Named, hr2]; (repeat (first | refine gcI ?_ | refine fun (_ : _ ≤ _) => ?_)); refine hK _ ?_; clear hK K)
  refine hK3 _ ?_
  refine Sm.ret ?_
  try simp only [seval, Exit.exit.injEq]
  obtain rfl := Option.some.inj H
  refine Ret.ofR [] (.inr rfl) ?_
  simp only [z, seval]

def ref37_changes (n : Nat) (end_ : Int) : Option Bool :=
  some (if (if (end_ == 2) = true then true else (end_ == 3)) = true then true else (end_ == 4))

def xref37_changes (n : Nat) : Go.AE.Fn := mkFn (A := Int) (R := Bool) 22 [(false, [.int .i64])] false (fun xs => (cg (xs.getD 0 []) 0).toInt) (fun a => [[.int a]]) (fun a => ref37_changes n a) (fun r => [.c .bool (.bool r)]) (fun r => [])

theorem cref37_changes (n : Nat) : Contract Tryd.prog (xref37_changes n) := by
  have hΓ : ∀ g, g ∈ ([] : List Go.AE.Fn) → Contract Tryd.prog g := by simp
  refine contract_f (Tryd.f22.body.getD .skip) h00 Tryd.func22 rfl (by intro args w; exact Tryd.call22 args w) (by decide) (by intro _ r; exact ⟨rfl, by simp⟩) ?_
  rintro end_ r H
  try dsimp only at H
  unfold ref37_changes at H
  simp only [Tryd.f22, Option.getD]
  refine Sm.seqA h00 mixed hΓ (by kernel_rfl) fun K1 hK1 => ?_
  simp only [rs]
  repeat (refine opsG fun K hK => ?_; simp only [z, seval]; (repeat (first | refine gcI ?_ | refine fun (_ : _ ≤ _) => ?_)); refine hK _ ?_; clear hK K)
  refine hK1 _ ?_
  refine Sm.seqA h00 mixed hΓ (by kernel_rfl) fun K2 hK2 => ?_
  simp only [rs]
  repeat (refine opsG fun K hK => ?_; simp only [z, seval]; (repeat (first | refine gcI ?_ | refine fun (_ : _ ≤ _) => ?_)); refine hK _ ?_; clear hK K)
  refine hK2 _ ?_
  refine Sm.ret ?_
  try simp only [seval, Exit.exit.injEq]
  obtain rfl := Option.some.inj H
  refine Ret.ofR [] (.inr rfl) ?_
  simp only [z, seval]

abbrev ref37_with_s2 (out_1 : List TWant) : S := stB [(5, .own 9002 [.str, .bool] 0 out_1.length)] [(9002, .row 64 (List.map e_TWant out_1))]

def ref37_with_k2 (n : Nat) (out_1 : List TWant) : Option (List TWant) :=
  some out_1

abbrev ref37_with_s1 (w : TWant) (w_1 : Bool) (out : List TWant) (done : Bool) : S := stB [(3, .box 9000 0), (5, .own 9001 [.str, .bool] 0 out.length), (6, .c .bool (.bool done))] [(9000, .box [.c .str (.str w.Name), .c .bool (.bool w_1)]), (9001, .row 64 (List.map e_TWant out))]

def ref37_with_k1 (n : Nat) (w : TWant) (w_1 : Bool) (out : List TWant) (done : Bool) : Option (List TWant) :=
  bif (!done) then
    gd ((out.length + 1) ≤ 2147483648) <|
    ref37_with_k2 n (out ++ [(⟨w.Name, w_1⟩ : TWant)])
  else
    ref37_with_k2 n out

abbrev ref37_with_s4 (l : List TWant) (w : TWant) (w_3 : Bool) (out_3 : List TWant) (done_2 : Bool) (k : Int) : S := stB [(0, .c (.slice 64) (.slice (List.map e_TWant l))), (3, .box 9008 0), (5, .own 9009 [.str, .bool] 0 out_3.length), (6, .c .bool (.bool done_2)), (7, .c (.int .i64) (.int k))] [(9008, .box [.c .str (.str w.Name), .c .bool (.bool w_3)]), (9009, .row 64 (List.map e_TWant out_3))]

def ref37_with_k4 (n : Nat) (l : List TWant) (w : TWant) (w_3 : Bool) (out_3 : List TWant) (done_2 : Bool) (k : Int) : Option ((Bool × (List TWant) × Bool × Int) ⊕ ((Bool × (List TWant) × Bool))) :=
  some (.inl (w_3, out_3, done_2, (IntKind.wrap .i64 (k + 1))))

abbrev ref37_with_s5 (l : List TWant) (w : TWant) (w_4 : Bool) (out_4 : List TWant) (done_3 : Bool) (k : Int) : S := stB [(0, .c (.slice 64) (.slice (List.map e_TWant l))), (3, .box 9010 0), (5, .own 9011 [.str, .bool] 0 out_4.length), (6, .c .bool (.bool done_3)), (7, .c (.int .i64) (.int k))] [(9010, .box [.c .str (.str w.Name), .c .bool (.bool w_4)]), (9011, .row 64 (List.map e_TWant out_4))]

def ref37_with_k5 (n : Nat) (l : List TWant) (w : TWant) (w_4 : Bool) (out_4 : List TWant) (done_3 : Bool) (k : Int) : Option ((Bool × (List TWant) × Bool × Int) ⊕ ((Bool × (List TWant) × Bool))) :=
  gd ((0 ≤ k ∧ k < (l.length : Int))) <|
  bif (((gt l (Int.toNat k)).Name) != w.Name) then
    gd ((0 ≤ k ∧ k < (l.length : Int)) ∧ (out_4.length + 1) ≤ 2147483648) <|
    ref37_with_k4 n l w w_4 (out_4 ++ [(gt l (Int.toNat k))]) done_3 k
  else
    ref37_with_k4 n l w w_4 out_4 done_3 k

abbrev ref37_with_s6 (l : List TWant) (w : TWant) (w_5 : Bool) (out_2 : List TWant) (k : Int) : S := stB [(0, .c (.slice 64) (.slice (List.map e_TWant l))), (3, .box 9012 0), (5, .own 9013 [.str, .bool] 0 out_2.length), (7, .c (.int .i64) (.int k))] [(9012, .box [.c .str (.str w.Name), .c .bool (.bool w_5)]), (9013, .row 64 (List.map e_TWant out_2))]

def ref37_with_k6 (n : Nat) (l : List TWant) (w : TWant) (w_5 : Bool) (out_2 : List TWant) (k : Int) : Option ((Bool × (List TWant) × Bool × Int) ⊕ ((Bool × (List TWant) × Bool))) :=
  gd ((out_2.length + 1) ≤ 2147483648) <|
  ref37_with_k5 n l w w_5 (out_2 ++ [(⟨w.Name, w_5⟩ : TWant)]) true k

abbrev ref37_with_t3 (l : List TWant) (w : TWant) (w_2 : Bool) (out_2 : List TWant) (done_1 : Bool) (k : Int) : S := stB [(0, .c (.slice 64) (.slice (List.map e_TWant l))), (3, .box 9006 0), (5, .own 9007 [.str, .bool] 0 out_2.length), (6, .c .bool (.bool done_1)), (7, .c (.int .i64) (.int k))] [(9006, .box [.c .str (.str w.Name), .c .bool (.bool w_2)]), (9007, .row 64 (List.map e_TWant out_2))]

def ref37_with_b3 (n : Nat) (l : List TWant) (w : TWant) (w_2 : Bool) (out_2 : List TWant) (done_1 : Bool) (k : Int) : Option ((Bool × (List TWant) × Bool × Int) ⊕ ((Bool × (List TWant) × Bool))) :=
  bif (decide (k < (l.length : Int))) then
    gd (((!done_1) = true → (0 ≤ k ∧ k < (l.length : Int)))) <|
    bif (if (!done_1) = true then (!Op.bytesLess ((gt l (Int.toNat k)).Name) w.Name) else false) then
      gd ((0 ≤ k ∧ k < (l.length : Int))) <|
      bif (((gt l (Int.toNat k)).Name) == w.Name) then
        gd (((!w_2) = true → (0 ≤ k ∧ k < (l.length : Int)))) <|
        ref37_with_k6 n l w (if w_2 = true then true else (gt l (Int.toNat k)).Exclusive) out_2 k
      else
        ref37_with_k6 n l w w_2 out_2 k
    else
      ref37_with_k5 n l w w_2 out_2 done_1 k
  else
    some (.inr (w_2, out_2, done_1))

def ref37_with (n : Nat) (l : List TWant) (w : TWant) : Option (List TWant) :=
  (loopF (fun (x : Bool × (List TWant) × Bool × Int) => ref37_with_b3 n l w x.1 x.2.1 x.2.2.1 x.2.2.2) n (w.Exclusive, [], false, 0)).bind fun y9 =>
  ref37_with_k1 n w y9.1 y9.2.1 y9.2.2

def xref37_with (n : Nat) : Go.AE.Fn := mkFn (A := (List TWant) × TWant) (R := (List TWant)) 23 [(false, [.slice 64]), (true, [.str, .bool])] false (fun xs => (((cg (xs.getD 0 []) 0).toSl.map d_TWant), (⟨(cg (xs.getD 1 []) 0).toStr, (cg (xs.getD 1 []) 1).toBool⟩ : TWant))) (fun a => [[.slice (List.map e_TWant a.1)], [.str a.2.Name, .bool a.2.Exclusive]]) (fun a => ref37_with n a.1 a.2) (fun r => [.own 0 [.str, .bool] 0 r.length]) (fun r => [.row 64 (List.map e_TWant r)])

theorem cref37_with (n : Nat) : Contract Tryd.prog (xref37_with n) := by
  have hΓ : ∀ g, g ∈ ([] : List Go.AE.Fn) → Contract Tryd.prog g := by simp
  refine contract_f (Tryd.f23.body.getD .skip) h00 Tryd.func23 rfl (by intro args w; exact Tryd.call23 args w) (by decide) (by
    intro _ r; refine ⟨rfl, ?_⟩; simp only [List.mem_cons, List.not_mem_nil, or_false]; rintro _ rfl
    · exact ⟨64, _, _, rfl, ty64, rfl⟩) ?_
  rintro ⟨l, w⟩ r H
  try dsimp only at H
  unfold ref37_with at H
  simp only [Tryd.f23, Option.getD]
  refine Sm.seqA h00 mixed hΓ (by kernel_rfl) fun K1 hK1 => ?_
  simp only [rs]
  repeat (refine opsG fun K hK => ?_; simp only [z, seval]; (repeat (first | refine gcI ?_ | refine fun (_ : _ ≤ _) => ?_)); refine hK _ ?_; clear hK K)
  refine hK1 _ ?_
  refine Sm.seqA h00 mixed hΓ (by kernel_rfl) fun K2 hK2 => ?_
  simp only [rs]
  repeat (refine opsG fun K hK => ?_; simp only [z, seval]; (repeat (first | refine gcI ?_ | refine fun (_ : _ ≤ _) => ?_)); refine hK _ ?_; clear hK K)
  refine hK2 _ ?_
  refine Sm.seqA h00 mixed hΓ (by kernel_rfl) fun K3 hK3 => ?_
  simp only [rs]
  repeat (refine opsG fun K hK => ?_; simp only [z, seval]; (repeat (first | refine gcI ?_ | refine fun (_ : _ ≤ _) => ?_)); refine hK _ ?_; clear hK K)
  refine hK3 _ ?_
  refine Sm.cut (fun (x : Bool × (List TWant) × Bool) => ref37_with_s1 w x.1 x.2.1 x.2.2) (fun x => ref37_with_k1 n w x.1 x.2.1 x.2.2 = some r) ?_ ?_
  · refine Sm.seqA h00 mixed hΓ (by kernel_rfl) fun K8 hK8 => ?_
    simp only [rs]
    repeat (refine opsG fun K hK => ?_; simp only [z, seval]; (repeat (first | refine gcI ?_ | refine fun (_ : _ ≤ _) => ?_)); refine hK _ ?_; clear hK K)
    refine hK8 _ ?_
    refine Sm.block ?_
    obtain ⟨y9, hy9, Ho9⟩ := bind_some H
    refine Sm.loopB (fun (x : Bool × (List TWant) × Bool × Int) => ref37_with_b3 n l w x.1 x.2.1 x.2.2.1 x.2.2.2) (fun x => ref37_with_t3 l w x.1 x.2.1 x.2.2.1 x.2.2.2) hy9 ?_ ?_
    · exact weak_b [some 48, none] rfl rfl rfl (by simp only [wk, z, seval]) (by simp only [wk, z, seval])
    rintro ⟨w_2, out_2, done_1, k⟩ z9 H
    try dsimp only at H
    unfold ref37_with_b3 at H
    refine Sm.seqK fun K10 hK10 => ?_
    refine Sm.seqA h00 mixed hΓ (by kernel_rfl) fun K11 hK11 => ?_
    simp only [rs]
    repeat (refine opsG fun K hK => ?_; simp only [z, seval, ref37_with_t3]; (repeat (first | refine gcI ?_ | refine fun (_ : _ ≤ _) => ?_)); refine hK _ ?_; clear hK K)
    refine hK11 _ ?_
    refine Sm.condK (by rfl) fun Ka Kb ha hb => ?_
    simp only [wpCond, z, seval, ref37_with_t3]
    refine ⟨fun h12 => ha ?_, fun h12 => hb ?_⟩
    · first | replace H := bif_t h12 H | replace H := bif_t2 h12 H (by simp only [List.length_append])
      refine Sm.skip ?_
      refine hK10 _ ?_
      refine Sm.cut (fun (x : Bool × (List TWant) × Bool) => ref37_with_s4 l w x.1 x.2.1 x.2.2 k) (fun x => ref37_with_k4 n l w x.1 x.2.1 x.2.2 k = some z9) ?_ ?_
      · refine Sm.block ?_
        refine Sm.cut (fun (x : Bool × (List TWant) × Bool) => ref37_with_s5 l w x.1 x.2.1 x.2.2 k) (fun x => ref37_with_k5 n l w x.1 x.2.1 x.2.2 k = some z9) ?_ ?_
        · obtain ⟨hg26, H⟩ := gd_some H
          refine Sm.seqD h00 mixed hΓ (by kernel_rfl) fun K18 hK18 => ?_
          simp only [rs]
          repeat (refine opsH fun K hK => ?_; simp only [z, seval, ref37_with_t3]; (repeat (first | refine gcI ?_ | refine fun (_ : _ ≤ _) => ?_)); refine hK _ ?_; clear hK K)
          refine hK18 _ ?_
          refine Sm.condK (by rfl) fun Ka Kb ha hb => ?_
          simp only [wpCond, z, seval, ref37_with_t3]
          refine ⟨fun h19 => ha ?_, fun h19 => hb ?_⟩
          · first | replace H := bif_t h19 H | replace H := bif_t2 h19 H (by simp only [List.length_append])
            refine Sm.cut (fun (x : Bool) => ref37_with_s6 l w x out_2 k) (fun x => ref37_with_k6 n l w x out_2 k = some z9) ?_ ?_
            · obtain ⟨hg25, H⟩ := gd_some H
              refine Sm.seqD h00 mixed hΓ (by kernel_rfl) fun K22 hK22 => ?_
              simp only [rs]
              repeat (refine opsH fun K hK => ?_; simp only [z, seval, ref37_with_t3]; (repeat (first | refine gcI ?_ | refine fun (_ : _ ≤ _) => ?_)); refine hK _ ?_; clear hK K)
              refine hK22 _ ?_
              refine Sm.condK (by rfl) fun Ka Kb ha hb => ?_
              simp only [wpCond, z, seval, ref37_with_t3]
              refine ⟨fun h23 => ha ?_, fun h23 => hb ?_⟩
              · first | replace H := bif_t h23 H | replace H := bif_t2 h23 H (by simp only [List.length_append])
                obtain ⟨hg24, H⟩ := gd_some H
                refine Sm.regA h00 mixed hΓ (by kernel_rfl) ?_
                simp only [rs]
                repeat (refine opsG fun K hK => ?_; simp only [z, seval, ref37_with_t3]; (repeat (first | refine gcI ?_ | refine fun (_ : _ ≤ _) => ?_)); refine hK _ ?_; clear hK K)
                refine opsG0 ?_
                try simp only [seval, Exit.exit.injEq]
                refine ⟨_, H, ?_⟩
                exact weak_b [some 9006, some 9007] rfl rfl rfl (by simp only [wk, z, seval, ref37_with_t3]) (by simp only [wk, z, seval, ref37_with_t3])
              first | replace H := bif_f h23 H | replace H := bif_f2 h23 H (by simp only [List.length_append])
              refine Sm.skip ?_
              try simp only [seval, Exit.exit.injEq]
              refine ⟨_, H, ?_⟩
              exact weak_b [some 9006, some 9007] rfl rfl rfl (by simp only [wk, z, seval, ref37_with_t3]) (by simp only [wk, z, seval, ref37_with_t3])
            rintro w_5 H
            try dsimp only at H
            unfold ref37_with_k6 at H
            obtain ⟨hg21, H⟩ := gd_some H
            refine Sm.seqA h00 mixed hΓ (by kernel_rfl) fun K20 hK20 => ?_
            simp only [rs]
            repeat (refine opsG fun K hK => ?_; simp only [z, seval, ref37_with_s6]; (repeat (first | refine gcI ?_ | refine fun (_ : _ ≤ _) => ?_)); refine hK _ ?_; clear hK K)
            refine hK20 _ ?_
            refine Sm.regA h00 mixed hΓ (by kernel_rfl) ?_
            simp only [rs]
            repeat (refine opsG fun K hK => ?_; simp only [z, seval, ref37_with_s6]; (repeat (first | refine gcI ?_ | refine fun (_ : _ ≤ _) => ?_)); refine hK _ ?_; clear hK K)
            refine opsG0 ?_
            try simp only [seval, Exit.exit.injEq]
            refine ⟨(w_5, (out_2 ++ [(⟨w.Name, w_5⟩ : TWant)]), true), H, ?_⟩
            exact weak_b [some 9012, some 752] rfl rfl rfl (by simp only [wk, z, seval, ref37_with_s6]) (by simp only [wk, z, seval, ref37_with_s6])
          first | replace H := bif_f h19 H | replace H := bif_f2 h19 H (by simp only [List.length_append])
          refine Sm.skip ?_
          try simp only [seval, Exit.exit.injEq]
          refine ⟨(w_2, out_2, done_1), H, ?_⟩
          exact weak_b [some 9006, some 9007] rfl rfl rfl (by simp only [wk, z, seval, ref37_with_t3]) (by simp only [wk, z, seval, ref37_with_t3])
        rintro ⟨w_4, out_4, done_3⟩ H
        try dsimp only at H
        unfold ref37_with_k5 at H
        obtain ⟨hg17, H⟩ := gd_some H
        refine Sm.seqD h00 mixed hΓ (by kernel_rfl) fun K13 hK13 => ?_
        simp only [rs]
        repeat (refine opsH fun K hK => ?_; simp only [z, seval, ref37_with_s5]; (repeat (first | refine gcI ?_ | refine fun (_ : _ ≤ _) => ?_)); refine hK _ ?_; clear hK K)
        refine hK13 _ ?_
        refine Sm.condK (by rfl) fun Ka Kb ha hb => ?_
        simp only [wpCond, z, seval, ref37_with_s5]
        refine ⟨fun h14 => ha ?_, fun h14 => hb ?_⟩
        · first | replace H := bif_t h14 H | replace H := bif_t2 h14 H (by simp only [List.length_append])
          obtain ⟨⟨hg15, hg16⟩, H⟩ := gd_some H
          refine Sm.regA h00 mixed hΓ (by kernel_rfl) ?_
          simp only [rs]
          repeat (refine opsG fun K hK => ?_; simp only [z, seval, ref37_with_s5]; (repeat (first | refine gcI ?_ | refine fun (_ : _ ≤ _) => ?_)); refine hK _ ?_; clear hK K)
          refine opsG0 ?_
          try simp only [seval, Exit.exit.injEq]
          refine ⟨(w_4, (out_4 ++ [(gt l (Int.toNat k))]), done_3), H, ?_⟩
          exact weak_b [some 9010, some 992] rfl rfl rfl (by simp only [wk, z, seval, ref37_with_s5]) (by simp only [wk, z, seval, ref37_with_s5])
        first | replace H := bif_f h14 H | replace H := bif_f2 h14 H (by simp only [List.length_append])
        refine Sm.skip ?_
        try simp only [seval, Exit.exit.injEq]
        refine ⟨(w_4, out_4, done_3), H, ?_⟩
        exact weak_b [some 9010, some 9011] rfl rfl rfl (by simp only [wk, z, seval, ref37_with_s5]) (by simp only [wk, z, seval, ref37_with_s5])
      rintro ⟨w_3, out_3, done_2⟩ H
      try dsimp only at H
      unfold ref37_with_k4 at H
      refine Sm.regA h00 mixed hΓ (by kernel_rfl) ?_
      simp only [rs]
      repeat (refine opsG fun K hK => ?_; simp only [z, seval, ref37_with_s4]; (repeat (first | refine gcI ?_ | refine fun (_ : _ ≤ _) => ?_)); refine hK _ ?_; clear hK K)
      refine opsG0 ?_
      try simp only [seval, Exit.exit.injEq]
      refine ⟨(_, _, _, _), (Option.some.inj H).symm, ?_⟩
      exact weak_b [some 9008, some 9009] rfl rfl rfl (by simp only [wk, z, seval, ref37_with_s4]) (by simp only [wk, z, seval, ref37_with_s4])
    first | replace H := bif_f h12 H | replace H := bif_f2 h12 H (by simp only [List.length_append])
    refine Sm.exit ?_
    try simp only [seval, Exit.exit.injEq]
    refine ⟨⟨_, (Option.some.inj H).symm⟩, fun hz => ?_⟩
    have hyy := Sum.inr.inj ((Option.some.inj H).trans hz)
    subst hyy
    have H := Ho9
    try dsimp only at H
    try simp only [seval, Exit.exit.injEq]
    refine ⟨(w_2, out_2, done_1), H, ?_⟩
    exact weak_b [some 9006, some 9007] rfl rfl rfl (by simp only [wk, z, seval, ref37_with_t3]) (by simp only [wk, z, seval, ref37_with_t3])
  rintro ⟨w_1, out, done⟩ H
  try dsimp only at H
  unfold ref37_with_k1 at H
  refine Sm.cut (fun (x : (List TWant)) => ref37_with_s2 x) (fun x => ref37_with_k2 n x = some r) ?_ ?_
  · refine Sm.seqA h00 mixed hΓ (by kernel_rfl) fun K5 hK5 => ?_
    simp only [rs]
    repeat (refine opsG fun K hK => ?_; simp only [z, seval, ref37_with_s1]; (repeat (first | refine gcI ?_ | refine fun (_ : _ ≤ _) => ?_)); refine hK _ ?_; clear hK K)
    refine hK5 _ ?_
    refine Sm.condK (by rfl) fun Ka Kb ha hb => ?_
    simp only [wpCond, z, seval, ref37_with_s1]
    refine ⟨fun h6 => ha ?_, fun h6 => hb ?_⟩
    · first | replace H := bif_t h6 H | replace H := bif_t2 h6 H (by simp only [List.length_append])
      obtain ⟨hg7, H⟩ := gd_some H
      refine Sm.regA h00 mixed hΓ (by kernel_rfl) ?_
      simp only [rs]
      repeat (refine opsG fun K hK => ?_; simp only [z, seval, ref37_with_s1]; (repeat (first | refine gcI ?_ | refine fun (_ : _ ≤ _) => ?_)); refine hK _ ?_; clear hK K)
      refine opsG0 ?_
      try simp only [seval, Exit.exit.injEq]
      refine ⟨_, H, ?_⟩
      exact weak_b [some 1088] rfl rfl rfl (by simp only [wk, z, seval, ref37_with_s1]) (by simp only [wk, z, seval, ref37_with_s1])
    first | replace H := bif_f h6 H | replace H := bif_f2 h6 H (by simp only [List.length_append])
    refine Sm.skip ?_
    try simp only [seval, Exit.exit.injEq]
    refine ⟨_, H, ?_⟩
    exact weak_b [some 9001] rfl rfl rfl (by simp only [wk, z, seval, ref37_with_s1]) (by simp only [wk, z, seval, ref37_with_s1])
  rintro out_1 H
  try dsimp only at H
  unfold ref37_with_k2 at H
  refine Sm.seqA h00 mixed hΓ (by kernel_rfl) fun K4 hK4 => ?_
  simp only [rs]
  repeat (refine opsG fun K hK => ?_; simp only [z, seval, ref37_with_s2]; (repeat (first | refine gcI ?_ | refine fun (_ : _ ≤ _) => ?_)); refine hK _ ?_; clear hK K)
  refine hK4 _ ?_
  refine Sm.ret ?_
  try simp only [seval, Exit.exit.injEq]
  obtain rfl := Option.some.inj H
  refine Ret.ofR [some 9002] (.inr rfl) ?_
  simp only [z, seval, ref37_with_s2]
  try omega

abbrev ref37_generation_s1 : S := stB [] []

def ref37_generation_k1 (n : Nat) : Option Bool :=
  some true

abbrev ref37_generation_t2 (s : List UInt8) (n_ : Int) (k : Int) : S := stB [(0, .c .str (.str s)), (3, .c (.int .i64) (.int n_)), (4, .c (.int .i64) (.int k))] []

def ref37_generation_b2 (n : Nat) (s : List UInt8) (n_ : Int) (k : Int) : Option ((Int) ⊕ (((Bool) ⊕ (Unit)))) :=
  bif (decide (k < (IntKind.wrap .i64 (n_ + 6)))) then
    gd ((0 ≤ k ∧ k < (s.length : Int)) ∧ ((!(decide ((((s.getD (Int.toNat k) 0).toNat : Nat) : Int) < 48))) = true → (0 ≤ k ∧ k < (s.length : Int)))) <|
    bif (if (decide ((((s.getD (Int.toNat k) 0).toNat : Nat) : Int) < 48)) = true then true else (decide ((((s.getD (Int.toNat k) 0).toNat : Nat) : Int) > 57))) then
      some (.inr (.inl false))
    else
      some (.inl (IntKind.wrap .i64 (k + 1)))
  else
    some (.inr (.inr ()))

def ref37_generation (n : Nat) (s : List UInt8) : Option Bool :=
  gd (((!(decide ((IntKind.wrap .i64 ((s.length : Int) - 9)) < 1))) = true → (0 ≤ (IntKind.wrap .i64 ((s.length : Int) - 9)) ∧ (IntKind.wrap .i64 ((s.length : Int) - 9)) ≤ (IntKind.wrap .i64 ((IntKind.wrap .i64 ((s.length : Int) - 9)) + 2)) ∧ (IntKind.wrap .i64 ((IntKind.wrap .i64 ((s.length : Int) - 9)) + 2)) ≤ (s.length : Int))) ∧ ((!(if (decide ((IntKind.wrap .i64 ((s.length : Int) - 9)) < 1)) = true then true else ((List.drop (Int.toNat (IntKind.wrap .i64 ((s.length : Int) - 9))) (List.take (Int.toNat (IntKind.wrap .i64 ((IntKind.wrap .i64 ((s.length : Int) - 9)) + 2))) s)) != [46, 71]))) = true → (0 ≤ (IntKind.wrap .i64 ((IntKind.wrap .i64 ((s.length : Int) - 9)) + 6)) ∧ (IntKind.wrap .i64 ((IntKind.wrap .i64 ((s.length : Int) - 9)) + 6)) ≤ (s.length : Int) ∧ (s.length : Int) ≤ (s.length : Int)))) <|
  bif (if (if (decide ((IntKind.wrap .i64 ((s.length : Int) - 9)) < 1)) = true then true else ((List.drop (Int.toNat (IntKind.wrap .i64 ((s.length : Int) - 9))) (List.take (Int.toNat (IntKind.wrap .i64 ((IntKind.wrap .i64 ((s.length : Int) - 9)) + 2))) s)) != [46, 71])) = true then true else ((List.drop (Int.toNat (IntKind.wrap .i64 ((IntKind.wrap .i64 ((s.length : Int) - 9)) + 6))) s) != [86, 48, 48])) then
    some false
  else
    (loopF (fun (x : Int) => ref37_generation_b2 n s (IntKind.wrap .i64 ((s.length : Int) - 9)) x) n (IntKind.wrap .i64 ((IntKind.wrap .i64 ((s.length : Int) - 9)) + 2))).bind fun y9 =>
    match y9 with
    | .inl v =>
      some v
    | .inr v =>
      ref37_generation_k1 n

def xref37_generation (n : Nat) : Go.AE.Fn := mkFn (A := (List UInt8)) (R := Bool) 24 [(false, [.str])] false (fun xs => (cg (xs.getD 0 []) 0).toStr) (fun a => [[.str a]]) (fun a => ref37_generation n a) (fun r => [.c .bool (.bool r)]) (fun r => [])

theorem cref37_generation (n : Nat) : Contract Tryd.prog (xref37_generation n) := by
  have hΓ : ∀ g, g ∈ ([] : List Go.AE.Fn) → Contract Tryd.prog g := by simp
  refine contract_f (Tryd.f24.body.getD .skip) h00 Tryd.func24 rfl (by intro args w; exact Tryd.call24 args w) (by decide) (by intro _ r; exact ⟨rfl, by simp⟩) ?_
  rintro s r H
  try dsimp only at H
  unfold ref37_generation at H
  simp only [Tryd.f24, Option.getD]
  refine Sm.seqA h00 mixed hΓ (by kernel_rfl) fun K1 hK1 => ?_
  simp only [rs]
  repeat (refine opsG fun K hK => ?_; simp only [z, seval]; (repeat (first | refine gcI ?_ | refine fun (_ : _ ≤ _) => ?_)); refine hK _ ?_; clear hK K)
  refine hK1 _ ?_
  refine Sm.seqA h00 mixed hΓ (by kernel_rfl) fun K2 hK2 => ?_
  simp only [rs]
  repeat (refine opsG fun K hK => ?_; simp only [z, seval]; (repeat (first | refine gcI ?_ | refine fun (_ : _ ≤ _) => ?_)); refine hK _ ?_; clear hK K)
  refine hK2 _ ?_
  refine Sm.seqK fun K3 hK3 => ?_
  obtain ⟨⟨hg19, hg20⟩, H⟩ := gd_some H
  refine Sm.seqA h00 mixed hΓ (by kernel_rfl) fun K4 hK4 => ?_
  simp only [rs]
  repeat (refine opsG fun K hK => ?_; simp only [z, seval]; (repeat (first | refine gcI ?_ | refine fun (_ : _ ≤ _) => ?_)); refine hK _ ?_; clear hK K)
  refine hK4 _ ?_
  refine Sm.condK (by rfl) fun Ka Kb ha hb => ?_
  simp only [wpCond, z, seval]
  refine ⟨fun h5 => ha ?_, fun h5 => hb ?_⟩
  · first | replace H := bif_t h5 H | replace H := bif_t2 h5 H (by simp only [List.length_append])
    refine Sm.seqA h00 mixed hΓ (by kernel_rfl) fun K6 hK6 => ?_
    simp only [rs]
    repeat (refine opsG fun K hK => ?_; simp only [z, seval]; (repeat (first | refine gcI ?_ | refine fun (_ : _ ≤ _) => ?_)); refine hK _ ?_; clear hK K)
    refine hK6 _ ?_
    refine Sm.ret ?_
    try simp only [seval, Exit.exit.injEq]
    obtain rfl := Option.some.inj H
    refine Ret.ofR [] (.inr rfl) ?_
    simp only [z, seval]
  first | replace H := bif_f h5 H | replace H := bif_f2 h5 H (by simp only [List.length_append])
  refine Sm.skip ?_
  refine hK3 _ ?_
  refine Sm.cut (fun (x : Unit) => ref37_generation_s1) (fun x => ref37_generation_k1 n = some r) ?_ ?_
  · refine Sm.seqA h00 mixed hΓ (by kernel_rfl) fun K8 hK8 => ?_
    simp only [rs]
    repeat (refine opsG fun K hK => ?_; simp only [z, seval]; (repeat (first | refine gcI ?_ | refine fun (_ : _ ≤ _) => ?_)); refine hK _ ?_; clear hK K)
    refine hK8 _ ?_
    refine Sm.block ?_
    obtain ⟨y9, hy9, Ho9⟩ := bind_some H
    refine Sm.loopB (fun (x : Int) => ref37_generation_b2 n s (IntKind.wrap .i64 ((s.length : Int) - 9)) x) (fun x => ref37_generation_t2 s (IntKind.wrap .i64 ((s.length : Int) - 9)) x) hy9 ?_ ?_
    · exact weak_b [] rfl rfl rfl (by simp only [wk, z, seval]) (by simp only [wk, z, seval])
    rintro k z9 H
    try dsimp only at H
    unfold ref37_generation_b2 at H
    refine Sm.seqK fun K10 hK10 => ?_
    refine Sm.seqA h00 mixed hΓ (by kernel_rfl) fun K11 hK11 => ?_
    simp only [rs]
    repeat (refine opsG fun K hK => ?_; simp only [z, seval, ref37_generation_t2]; (repeat (first | refine gcI ?_ | refine fun (_ : _ ≤ _) => ?_)); refine hK _ ?_; clear hK K)
    refine hK11 _ ?_
    refine Sm.condK (by rfl) fun Ka Kb ha hb => ?_
    simp only [wpCond, z, seval, ref37_generation_t2]
    refine ⟨fun h12 => ha ?_, fun h12 => hb ?_⟩
    · first | replace H := bif_t h12 H | replace H := bif_t2 h12 H (by simp only [List.length_append])
      refine Sm.skip ?_
      refine hK10 _ ?_
      refine Sm.seqK fun K13 hK13 => ?_
      refine Sm.block ?_
      obtain ⟨⟨hg17, hg18⟩, H⟩ := gd_some H
      refine Sm.seqA h00 mixed hΓ (by kernel_rfl) fun K14 hK14 => ?_
      simp only [rs]
      repeat (refine opsG fun K hK => ?_; simp only [z, seval, ref37_generation_t2]; (repeat (first | refine gcI ?_ | refine fun (_ : _ ≤ _) => ?_)); refine hK _ ?_; clear hK K)
      refine hK14 _ ?_
      refine Sm.condK (by rfl) fun Ka Kb ha hb => ?_
      simp only [wpCond, z, seval, ref37_generation_t2]
      refine ⟨fun h15 => ha ?_, fun h15 => hb ?_⟩
      · first | replace H := bif_t h15 H | replace H := bif_t2 h15 H (by simp only [List.length_append])
        refine Sm.seqA h00 mixed hΓ (by kernel_rfl) fun K16 hK16 => ?_
        simp only [rs]
        repeat (refine opsG fun K hK => ?_; simp only [z, seval, ref37_generation_t2]; (repeat (first | refine gcI ?_ | refine fun (_ : _ ≤ _) => ?_)); refine hK _ ?_; clear hK K)
        refine hK16 _ ?_
        refine Sm.ret ?_
        try simp only [seval, Exit.exit.injEq]
        refine ⟨⟨_, (Option.some.inj H).symm⟩, fun hz => ?_⟩
        have hyy := Sum.inr.inj ((Option.some.inj H).trans hz)
        subst hyy
        have H := Ho9
        try dsimp only at H
        try simp only [seval, Exit.exit.injEq]
        obtain rfl := Option.some.inj H
        refine Ret.ofR [] (.inr rfl) ?_
        simp only [z, seval, ref37_generation_t2]
      first | replace H := bif_f h15 H | replace H := bif_f2 h15 H (by simp only [List.length_append])
      refine Sm.skip ?_
      refine hK13 _ ?_
      refine Sm.regA h00 mixed hΓ (by kernel_rfl) ?_
      simp only [rs]
      repeat (refine opsG fun K hK => ?_; simp only [z, seval, ref37_generation_t2]; (repeat (first | refine gcI ?_ | refine fun (_ : _ ≤ _) => ?_)); refine hK _ ?_; clear hK K)
      refine opsG0 ?_
      try simp only [seval, Exit.exit.injEq]
      refine ⟨_, (Option.some.inj H).symm, ?_⟩
      exact weak_b [] rfl rfl rfl (by simp only [wk, z, seval, ref37_generation_t2]) (by simp only [wk, z, seval, ref37_generation_t2])
    first | replace H := bif_f h12 H | replace H := bif_f2 h12 H (by simp only [List.length_append])
    refine Sm.exit ?_
    try simp only [seval, Exit.exit.injEq]
    refine ⟨⟨_, (Option.some.inj H).symm⟩, fun hz => ?_⟩
    have hyy := Sum.inr.inj ((Option.some.inj H).trans hz)
    subst hyy
    have H := Ho9
    try dsimp only at H
    try simp only [seval, Exit.exit.injEq]
    refine ⟨(), H, ?_⟩
    exact weak_b [] rfl rfl rfl (by simp only [wk, z, seval, ref37_generation_t2]) (by simp only [wk, z, seval, ref37_generation_t2])
  rintro ⟨⟩ H
  try dsimp only at H
  unfold ref37_generation_k1 at H
  refine Sm.seqA h00 mixed hΓ (by kernel_rfl) fun K7 hK7 => ?_
  simp only [rs]
  repeat (refine opsG fun K hK => ?_; simp only [z, seval, ref37_generation_s1]; (repeat (first | refine gcI ?_ | refine fun (_ : _ ≤ _) => ?_)); refine hK _ ?_; clear hK K)
  refine hK7 _ ?_
  refine Sm.ret ?_
  try simp only [seval, Exit.exit.injEq]
  obtain rfl := Option.some.inj H
  refine Ret.ofR [] (.inr rfl) ?_
  simp only [z, seval, ref37_generation_s1]
end Go.Proofs.YtcdofkflbnpjjaaDoor
