/-
  The functions of the seat, as functions; their contracts.
-/
import Derived.Test.YtcdofkflbnpjjaaT
import Derived.Test.YtcdofkflbnpjjaaL67
import Derived.Test.YtcdofkflbnpjjaaN
set_option maxHeartbeats 8000000
set_option linter.unusedVariables false
set_option linter.unusedSimpArgs false
set_option maxRecDepth 100000
namespace Go.Proofs.Ytcdofkflbnpjjaa
open Go.AE
def law37_one (n : Nat) (name : List UInt8) (exclusive : Bool) : Option (List TWant) :=
  some [(⟨name, exclusive⟩ : TWant)]

def xlaw37_one (n : Nat) : Go.AE.Fn := mkFn (A := (List UInt8) × Bool) (R := (List TWant)) 32 [(false, [.str]), (false, [.bool])] false (fun xs => ((cg (xs.getD 0 []) 0).toStr, (cg (xs.getD 1 []) 0).toBool)) (fun a => [[.str a.1], [.bool a.2]]) (fun a => law37_one n a.1 a.2) (fun r => [.own 0 [.str, .bool] 0 r.length]) (fun r => [.row 92 (List.map e_TWant r)])

theorem claw37_one (n : Nat) : Contract Try.prog (xlaw37_one n) := by
  have hΓ : ∀ g, g ∈ ([] : List Go.AE.Fn) → Contract Try.prog g := by simp
  refine contract_f (Try.f32.body.getD .skip) h00 Try.func32 rfl (by intro args w; exact Try.call32 args w) (by decide) (by
    intro _ r; refine ⟨rfl, ?_⟩; simp only [List.mem_cons, List.not_mem_nil, or_false]; rintro _ rfl
    · exact ⟨92, _, _, rfl, ty92, rfl⟩) ?_
  rintro ⟨name, exclusive⟩ r H
  try dsimp only at H
  unfold law37_one at H
  simp only [Try.f32, Option.getD]
  refine Sm.seqA h00 mixed hΓ (by kernel_rfl) fun K1 hK1 => ?_
  simp only [rs]
  repeat (refine opsG fun K hK => ?_; simp only [z, seval]; (repeat (first | refine gcI ?_ | refine fun (_ : _ ≤ _) => ?_)); refine hK _ ?_; clear hK K)
  refine hK1 _ ?_
  refine Sm.seqA h00 mixed hΓ (by kernel_rfl) fun K2 hK2 => ?_
  simp only [rs]
  repeat (refine opsG fun K hK => ?_; simp only [z, seval]; (repeat (first | refine gcI ?_ | refine fun (_ : _ ≤ _) => ?_)); refine hK _ ?_; clear hK K)
  refine hK2 _ ?_
  refine Sm.ret ?_
  try simp only [seval, Exit.exit.injEq]
  obtain rfl := Option.some.inj H
  refine Ret.ofR [some 128] (.inr rfl) ?_
  simp only [z, seval]

abbrev enqueue_Request__normal_s1 (r_ : TRequest) : S := stB [(1, .box 9000 0)] [(9000, .box [.c (.int .i64) (.int r_.Job), .c (.slice 92) (.slice (List.map e_TWant r_.Wants))])]

def enqueue_Request__normal_k1 (n : Nat) (r_ : TRequest) : Option Bool :=
  some (decide ((r_.Wants.length : Int) ≤ 512))

abbrev enqueue_Request__normal_t2 (r_ : TRequest) (k : Int) : S := stB [(1, .box 9002 0), (3, .c (.int .i64) (.int k))] [(9002, .box [.c (.int .i64) (.int r_.Job), .c (.slice 92) (.slice (List.map e_TWant r_.Wants))])]

def enqueue_Request__normal_b2 (n : Nat) (r_ : TRequest) (k : Int) : Option ((Int) ⊕ (((Bool) ⊕ (Unit)))) :=
  bif (decide (k < (r_.Wants.length : Int))) then
    gd ((0 ≤ (IntKind.wrap .i64 (k - 1)) ∧ (IntKind.wrap .i64 (k - 1)) < (r_.Wants.length : Int)) ∧ (0 ≤ k ∧ k < (r_.Wants.length : Int))) <|
    bif (!Op.bytesLess ((gt r_.Wants (Int.toNat (IntKind.wrap .i64 (k - 1)))).Name) ((gt r_.Wants (Int.toNat k)).Name)) then
      some (.inr (.inl false))
    else
      some (.inl (IntKind.wrap .i64 (k + 1)))
  else
    some (.inr (.inr ()))

def enqueue_Request__normal (n : Nat) (r_ : TRequest) : Option Bool :=
  (loopF (fun (x : Int) => enqueue_Request__normal_b2 n r_ x) n 1).bind fun y4 =>
  match y4 with
  | .inl v =>
    some v
  | .inr v =>
    enqueue_Request__normal_k1 n r_

def xenqueue_Request__normal (n : Nat) : Go.AE.Fn := mkFn (A := TRequest) (R := Bool) 45 [(true, [.int .i64, .slice 92])] false (fun xs => (⟨(cg (xs.getD 0 []) 0).toInt, ((cg (xs.getD 0 []) 1).toSl.map d_TWant)⟩ : TRequest)) (fun a => [[.int a.Job, .slice (List.map e_TWant a.Wants)]]) (fun a => enqueue_Request__normal n a) (fun r => [.c .bool (.bool r)]) (fun r => [])

theorem cenqueue_Request__normal (n : Nat) : Contract Try.prog (xenqueue_Request__normal n) := by
  have hΓ : ∀ g, g ∈ ([] : List Go.AE.Fn) → Contract Try.prog g := by simp
  refine contract_f (Try.f45.body.getD .skip) h00 Try.func45 rfl (by intro args w; exact Try.call45 args w) (by decide) (by intro _ r; exact ⟨rfl, by simp⟩) ?_
  rintro r_ r H
  try dsimp only at H
  unfold enqueue_Request__normal at H
  simp only [Try.f45, Option.getD]
  refine Sm.seqA h00 mixed hΓ (by kernel_rfl) fun K1 hK1 => ?_
  simp only [rs]
  repeat (refine opsG fun K hK => ?_; simp only [z, seval]; (repeat (first | refine gcI ?_ | refine fun (_ : _ ≤ _) => ?_)); refine hK _ ?_; clear hK K)
  refine hK1 _ ?_
  refine Sm.cut (fun (x : Unit) => enqueue_Request__normal_s1 r_) (fun x => enqueue_Request__normal_k1 n r_ = some r) ?_ ?_
  · refine Sm.seqA h00 mixed hΓ (by kernel_rfl) fun K3 hK3 => ?_
    simp only [rs]
    repeat (refine opsG fun K hK => ?_; simp only [z, seval]; (repeat (first | refine gcI ?_ | refine fun (_ : _ ≤ _) => ?_)); refine hK _ ?_; clear hK K)
    refine hK3 _ ?_
    refine Sm.block ?_
    obtain ⟨y4, hy4, Ho4⟩ := bind_some H
    refine Sm.loopB (fun (x : Int) => enqueue_Request__normal_b2 n r_ x) (fun x => enqueue_Request__normal_t2 r_ x) hy4 ?_ ?_
    · exact weak_b [some 16] rfl rfl rfl (by simp only [wk, z, seval]) (by simp only [wk, z, seval])
    rintro k z4 H
    try dsimp only at H
    unfold enqueue_Request__normal_b2 at H
    refine Sm.seqK fun K5 hK5 => ?_
    refine Sm.seqA h00 mixed hΓ (by kernel_rfl) fun K6 hK6 => ?_
    simp only [rs]
    repeat (refine opsG fun K hK => ?_; simp only [z, seval, enqueue_Request__normal_t2]; (repeat (first | refine gcI ?_ | refine fun (_ : _ ≤ _) => ?_)); refine hK _ ?_; clear hK K)
    refine hK6 _ ?_
    refine Sm.condK (by rfl) fun Ka Kb ha hb => ?_
    simp only [wpCond, z, seval, enqueue_Request__normal_t2]
    refine ⟨fun h7 => ha ?_, fun h7 => hb ?_⟩
    · first | replace H := bif_t h7 H | replace H := bif_t2 h7 H (by simp only [List.length_append])
      refine Sm.skip ?_
      refine hK5 _ ?_
      refine Sm.seqK fun K8 hK8 => ?_
      refine Sm.block ?_
      obtain ⟨⟨hg12, hg13⟩, H⟩ := gd_some H
      refine Sm.seqD h00 mixed hΓ (by kernel_rfl) fun K9 hK9 => ?_
      simp only [rs]
      repeat (refine opsH fun K hK => ?_; simp only [z, seval, enqueue_Request__normal_t2]; (repeat (first | refine gcI ?_ | refine fun (_ : _ ≤ _) => ?_)); refine hK _ ?_; clear hK K)
      refine hK9 _ ?_
      refine Sm.condK (by rfl) fun Ka Kb ha hb => ?_
      simp only [wpCond, z, seval, enqueue_Request__normal_t2]
      refine ⟨fun h10 => ha ?_, fun h10 => hb ?_⟩
      · first | replace H := bif_t h10 H | replace H := bif_t2 h10 H (by simp only [List.length_append])
        refine Sm.seqA h00 mixed hΓ (by kernel_rfl) fun K11 hK11 => ?_
        simp only [rs]
        repeat (refine opsG fun K hK => ?_; simp only [z, seval, enqueue_Request__normal_t2]; (repeat (first | refine gcI ?_ | refine fun (_ : _ ≤ _) => ?_)); refine hK _ ?_; clear hK K)
        refine hK11 _ ?_
        refine Sm.ret ?_
        try simp only [seval, Exit.exit.injEq]
        refine ⟨⟨_, (Option.some.inj H).symm⟩, fun hz => ?_⟩
        have hyy := Sum.inr.inj ((Option.some.inj H).trans hz)
        subst hyy
        have H := Ho4
        try dsimp only at H
        try simp only [seval, Exit.exit.injEq]
        obtain rfl := Option.some.inj H
        refine Ret.ofR [] (.inr rfl) ?_
        simp only [z, seval, enqueue_Request__normal_t2]
      first | replace H := bif_f h10 H | replace H := bif_f2 h10 H (by simp only [List.length_append])
      refine Sm.skip ?_
      refine hK8 _ ?_
      refine Sm.regA h00 mixed hΓ (by kernel_rfl) ?_
      simp only [rs]
      repeat (refine opsG fun K hK => ?_; simp only [z, seval, enqueue_Request__normal_t2]; (repeat (first | refine gcI ?_ | refine fun (_ : _ ≤ _) => ?_)); refine hK _ ?_; clear hK K)
      refine opsG0 ?_
      try simp only [seval, Exit.exit.injEq]
      refine ⟨_, (Option.some.inj H).symm, ?_⟩
      exact weak_b [some 9002] rfl rfl rfl (by simp only [wk, z, seval, enqueue_Request__normal_t2]) (by simp only [wk, z, seval, enqueue_Request__normal_t2])
    first | replace H := bif_f h7 H | replace H := bif_f2 h7 H (by simp only [List.length_append])
    refine Sm.exit ?_
    try simp only [seval, Exit.exit.injEq]
    refine ⟨⟨_, (Option.some.inj H).symm⟩, fun hz => ?_⟩
    have hyy := Sum.inr.inj ((Option.some.inj H).trans hz)
    subst hyy
    have H := Ho4
    try dsimp only at H
    try simp only [seval, Exit.exit.injEq]
    refine ⟨(), H, ?_⟩
    exact weak_b [some 9002] rfl rfl rfl (by simp only [wk, z, seval, enqueue_Request__normal_t2]) (by simp only [wk, z, seval, enqueue_Request__normal_t2])
  rintro ⟨⟩ H
  try dsimp only at H
  unfold enqueue_Request__normal_k1 at H
  refine Sm.seqA h00 mixed hΓ (by kernel_rfl) fun K2 hK2 => ?_
  simp only [rs]
  repeat (refine opsG fun K hK => ?_; simp only [z, seval, enqueue_Request__normal_s1]; (repeat (first | refine gcI ?_ | refine fun (_ : _ ≤ _) => ?_)); refine hK _ ?_; clear hK K)
  refine hK2 _ ?_
  refine Sm.ret ?_
  try simp only [seval, Exit.exit.injEq]
  obtain rfl := Option.some.inj H
  refine Ret.ofR [] (.inr rfl) ?_
  simp only [z, seval, enqueue_Request__normal_s1]

def enqueue_Request__blocked_1_1_1_M1 (n : Nat) (b : TWant) (p1 : List UInt8) (p1_ : Bool) : Option Bool :=
  gd ((((p1 == b.Name) && !p1_) = true → ((p1 == b.Name) && (!p1_)) = true)) <|
  some (if (p1 == b.Name) = true then (if p1_ = true then true else b.Exclusive) else false)

theorem cenqueue_Request__blocked_1_1_1_M1 (n : Nat) (b : TWant) (p1 : List UInt8) (p1_ : Bool) (r : Bool) (H : enqueue_Request__blocked_1_1_1_M1 n b p1 p1_ = some r) : CallsM Try.prog 63 [.dat (true, [.str, .bool]) [.str b.Name, .bool b.Exclusive], .ref (.box 0 0)] [.box [.c .str (.str p1), .c .bool (.bool p1_)]] [.c .bool (.bool r)] [.box [.c .str (.str p1), .c .bool (.bool p1_)]] := by
  have hΓ : ∀ g, g ∈ ([] : List Go.AE.Fn) → Contract Try.prog g := by simp
  refine callsM_of (Try.f63.body.getD .skip) h00 Try.func63 rfl (by intro args w; exact Try.call63 args w) (Nat.le_of_ble_eq_true rfl) (Nat.le_of_ble_eq_true rfl) ?_
  unfold enqueue_Request__blocked_1_1_1_M1 at H
  simp only [Try.f63, Option.getD]
  refine Sm.seqA h00 mixed hΓ (by kernel_rfl) fun K1 hK1 => ?_
  simp only [rs]
  repeat (refine opsG fun K hK => ?_; simp only [z, seval]; (repeat (first | refine gcI ?_ | refine fun (_ : _ ≤ _) => ?_)); refine hK _ ?_; clear hK K)
  refine hK1 _ ?_
  obtain ⟨hg3, H⟩ := gd_some H
  refine Sm.seqA h00 mixed hΓ (by kernel_rfl) fun K2 hK2 => ?_
  simp only [rs]
  repeat (refine opsG fun K hK => ?_; simp only [z, seval]; (repeat (first | refine gcI ?_ | refine fun (_ : _ ≤ _) => ?_)); refine hK _ ?_; clear hK K)
  refine hK2 _ ?_
  refine Sm.ret ?_
  try simp only [seval, Exit.exit.injEq]
  obtain rfl := Option.some.inj H
  refine RetM.mk (.inr rfl) [some 0] rfl ?_
  simp only [z, seval]

abbrev slices_IndexFunc_f80_M2_s1 (f : List UInt8) (f_ : Bool) : S := stB [] [(0, .box [.c .str (.str f), .c .bool (.bool f_)])]

def slices_IndexFunc_f80_M2_k1 (n : Nat) (f : List UInt8) (f_ : Bool) : Option Int :=
  some (-1)

abbrev slices_IndexFunc_f80_M2_t2 (f : List UInt8) (f_ : Bool) (s : List TWant) (v7 : Int) (v8 : Int) : S := stB [(0, .c (.slice 92) (.slice (List.map e_TWant s))), (1, .fnv 63 [.box 0 0]), (7, .c (.int .i64) (.int v7)), (8, .c (.int .i64) (.int v8))] [(0, .box [.c .str (.str f), .c .bool (.bool f_)])]

def slices_IndexFunc_f80_M2_b2 (n : Nat) (f : List UInt8) (f_ : Bool) (s : List TWant) (v7 : Int) (v8 : Int) : Option ((Int) ⊕ (((Int) ⊕ (Unit)))) :=
  bif (decide (v8 < v7)) then
    gd ((0 ≤ v8 ∧ v8 < (s.length : Int))) <|
    (enqueue_Request__blocked_1_1_1_M1 n (gt s (Int.toNat v8)) f f_).bind fun r1 =>
    bif r1 then
      some (.inr (.inl v8))
    else
      some (.inl (IntKind.wrap .i64 (v8 + 1)))
  else
    some (.inr (.inr ()))

def slices_IndexFunc_f80_M2 (n : Nat) (s : List TWant) (f : List UInt8) (f_ : Bool) : Option Int :=
  (loopF (fun (x : Int) => slices_IndexFunc_f80_M2_b2 n f f_ s (s.length : Int) x) n 0).bind fun y4 =>
  match y4 with
  | .inl v =>
    some v
  | .inr v =>
    slices_IndexFunc_f80_M2_k1 n f f_

theorem cslices_IndexFunc_f80_M2 (n : Nat) (s : List TWant) (f : List UInt8) (f_ : Bool) (r : Int) (H : slices_IndexFunc_f80_M2 n s f f_ = some r) : CallsM Try.prog 80 [.dat (false, [.slice 92]) [.slice (List.map e_TWant s)], .ref (.fnv 63 [.box 0 0])] [.box [.c .str (.str f), .c .bool (.bool f_)]] [.c (.int .i64) (.int r)] [.box [.c .str (.str f), .c .bool (.bool f_)]] := by
  have hΓ : ∀ g, g ∈ ([] : List Go.AE.Fn) → Contract Try.prog g := by simp
  refine callsM_of (Try.f80.body.getD .skip) h00 Try.func80 rfl (by intro args w; exact Try.call80 args w) (Nat.le_of_ble_eq_true rfl) (Nat.le_of_ble_eq_true rfl) ?_
  unfold slices_IndexFunc_f80_M2 at H
  simp only [Try.f80, Option.getD]
  refine Sm.seqA h00 mixed hΓ (by kernel_rfl) fun K1 hK1 => ?_
  simp only [rs]
  repeat (refine opsG fun K hK => ?_; simp only [z, seval]; (repeat (first | refine gcI ?_ | refine fun (_ : _ ≤ _) => ?_)); refine hK _ ?_; clear hK K)
  refine hK1 _ ?_
  refine Sm.cut (fun (x : Unit) => slices_IndexFunc_f80_M2_s1 f f_) (fun x => slices_IndexFunc_f80_M2_k1 n f f_ = some r) ?_ ?_
  · refine Sm.seqA h00 mixed hΓ (by kernel_rfl) fun K3 hK3 => ?_
    simp only [rs]
    repeat (refine opsG fun K hK => ?_; simp only [z, seval]; (repeat (first | refine gcI ?_ | refine fun (_ : _ ≤ _) => ?_)); refine hK _ ?_; clear hK K)
    refine hK3 _ ?_
    refine Sm.block ?_
    obtain ⟨y4, hy4, Ho4⟩ := bind_some H
    refine Sm.loopB (fun (x : Int) => slices_IndexFunc_f80_M2_b2 n f f_ s (s.length : Int) x) (fun x => slices_IndexFunc_f80_M2_t2 f f_ s (s.length : Int) x) hy4 ?_ ?_
    · exact weak_b [some 0] rfl rfl rfl (by simp only [wk, z, seval]) (by simp only [wk, z, seval])
    rintro v8 z4 H
    try dsimp only at H
    unfold slices_IndexFunc_f80_M2_b2 at H
    refine Sm.seqA h00 mixed hΓ (by kernel_rfl) fun K5 hK5 => ?_
    simp only [rs]
    repeat (refine opsG fun K hK => ?_; simp only [z, seval, slices_IndexFunc_f80_M2_t2]; (repeat (first | refine gcI ?_ | refine fun (_ : _ ≤ _) => ?_)); refine hK _ ?_; clear hK K)
    refine hK5 _ ?_
    refine Sm.seqK fun K6 hK6 => ?_
    refine Sm.condK (by rfl) fun Ka Kb ha hb => ?_
    simp only [wpCond, z, seval, slices_IndexFunc_f80_M2_t2]
    refine ⟨fun h7 => ha ?_, fun h7 => hb ?_⟩
    · first | replace H := bif_t h7 H | replace H := bif_t2 h7 H (by simp only [List.length_append])
      refine Sm.skip ?_
      refine hK6 _ ?_
      refine Sm.seqK fun K8 hK8 => ?_
      refine Sm.block ?_
      refine Sm.seqA h00 mixed hΓ (by kernel_rfl) fun K9 hK9 => ?_
      simp only [rs]
      repeat (refine opsG fun K hK => ?_; simp only [z, seval, slices_IndexFunc_f80_M2_t2]; (repeat (first | refine gcI ?_ | refine fun (_ : _ ≤ _) => ?_)); refine hK _ ?_; clear hK K)
      refine hK9 _ ?_
      refine Sm.seqX h00 mixed hΓ (by kernel_rfl) fun K10 hK10 => ?_
      simp only [rs]
      obtain ⟨hg11, H⟩ := gd_some H
      obtain ⟨r1, hr1, H⟩ := bind_some H
      iterate 5 (refine opsX fun K hK => ?_; simp only [z, seval, slices_IndexFunc_f80_M2_t2]; (repeat (first | refine gcI ?_ | refine fun (_ : _ ≤ _) => ?_)); refine hK _ ?_; clear hK K)
      refine opsM (cenqueue_Request__blocked_1_1_1_M1 n _ _ _ r1 hr1) [0] [] (by simp only [z, seval, slices_IndexFunc_f80_M2_t2, hr1]; try rfl) (by simp only [z, seval, slices_IndexFunc_f80_M2_t2, hr1]) (by simp only [z, seval, slices_IndexFunc_f80_M2_t2, hr1]) (by simp only [z, seval, slices_IndexFunc_f80_M2_t2, hr1]) (by simp only [z, seval, slices_IndexFunc_f80_M2_t2, hr1]) rfl (by simp only [z, seval, slices_IndexFunc_f80_M2_t2, hr1]) rfl ?_
      refine hK10 _ ?_
      refine Sm.condK (by rfl) fun Ka Kb ha hb => ?_
      simp only [wpCond, z, seval, slices_IndexFunc_f80_M2_t2]
      refine ⟨fun h12 => ha ?_, fun h12 => hb ?_⟩
      · first | replace H := bif_t h12 H | replace H := bif_t2 h12 H (by simp only [List.length_append])
        refine Sm.seqA h00 mixed hΓ (by kernel_rfl) fun K13 hK13 => ?_
        simp only [rs]
        repeat (refine opsG fun K hK => ?_; simp only [z, seval, slices_IndexFunc_f80_M2_t2]; (repeat (first | refine gcI ?_ | refine fun (_ : _ ≤ _) => ?_)); refine hK _ ?_; clear hK K)
        refine hK13 _ ?_
        refine Sm.ret ?_
        try simp only [seval, Exit.exit.injEq]
        refine ⟨⟨_, (Option.some.inj H).symm⟩, fun hz => ?_⟩
        have hyy := Sum.inr.inj ((Option.some.inj H).trans hz)
        subst hyy
        have H := Ho4
        try dsimp only at H
        try simp only [seval, Exit.exit.injEq]
        obtain rfl := Option.some.inj H
        refine RetM.mk (.inr rfl) [some 0] rfl ?_
        simp only [z, seval, slices_IndexFunc_f80_M2_t2]
      first | replace H := bif_f h12 H | replace H := bif_f2 h12 H (by simp only [List.length_append])
      refine Sm.skip ?_
      refine hK8 _ ?_
      refine Sm.regA h00 mixed hΓ (by kernel_rfl) ?_
      simp only [rs]
      repeat (refine opsG fun K hK => ?_; simp only [z, seval, slices_IndexFunc_f80_M2_t2]; (repeat (first | refine gcI ?_ | refine fun (_ : _ ≤ _) => ?_)); refine hK _ ?_; clear hK K)
      refine opsG0 ?_
      try simp only [seval, Exit.exit.injEq]
      refine ⟨_, (Option.some.inj H).symm, ?_⟩
      exact weak_b [some 0] rfl rfl rfl (by simp only [wk, z, seval, slices_IndexFunc_f80_M2_t2]) (by simp only [wk, z, seval, slices_IndexFunc_f80_M2_t2])
    first | replace H := bif_f h7 H | replace H := bif_f2 h7 H (by simp only [List.length_append])
    refine Sm.exit ?_
    try simp only [seval, Exit.exit.injEq]
    refine ⟨⟨_, (Option.some.inj H).symm⟩, fun hz => ?_⟩
    have hyy := Sum.inr.inj ((Option.some.inj H).trans hz)
    subst hyy
    have H := Ho4
    try dsimp only at H
    try simp only [seval, Exit.exit.injEq]
    refine ⟨(), H, ?_⟩
    exact weak_b [some 0] rfl rfl rfl (by simp only [wk, z, seval, slices_IndexFunc_f80_M2_t2]) (by simp only [wk, z, seval, slices_IndexFunc_f80_M2_t2])
  rintro ⟨⟩ H
  try dsimp only at H
  unfold slices_IndexFunc_f80_M2_k1 at H
  refine Sm.seqA h00 mixed hΓ (by kernel_rfl) fun K2 hK2 => ?_
  simp only [rs]
  repeat (refine opsG fun K hK => ?_; simp only [z, seval, slices_IndexFunc_f80_M2_s1]; (repeat (first | refine gcI ?_ | refine fun (_ : _ ≤ _) => ?_)); refine hK _ ?_; clear hK K)
  refine hK2 _ ?_
  refine Sm.ret ?_
  try simp only [seval, Exit.exit.injEq]
  obtain rfl := Option.some.inj H
  refine RetM.mk (.inr rfl) [some 0] rfl ?_
  simp only [z, seval, slices_IndexFunc_f80_M2_s1]

def enqueue_some_f61_M2 (n : Nat) (l : List TWant) (has : List UInt8) (has_ : Bool) : Option Bool :=
  (slices_IndexFunc_f80_M2 n l has has_).bind fun r1 =>
  some (decide (r1 ≥ 0))

theorem cenqueue_some_f61_M2 (n : Nat) (l : List TWant) (has : List UInt8) (has_ : Bool) (r : Bool) (H : enqueue_some_f61_M2 n l has has_ = some r) : CallsM Try.prog 61 [.dat (false, [.slice 92]) [.slice (List.map e_TWant l)], .ref (.fnv 63 [.box 0 0])] [.box [.c .str (.str has), .c .bool (.bool has_)]] [.c .bool (.bool r)] [.box [.c .str (.str has), .c .bool (.bool has_)]] := by
  have hΓ : ∀ g, g ∈ ([] : List Go.AE.Fn) → Contract Try.prog g := by simp
  refine callsM_of (Try.f61.body.getD .skip) h00 Try.func61 rfl (by intro args w; exact Try.call61 args w) (Nat.le_of_ble_eq_true rfl) (Nat.le_of_ble_eq_true rfl) ?_
  unfold enqueue_some_f61_M2 at H
  simp only [Try.f61, Option.getD]
  refine Sm.seqA h00 mixed hΓ (by kernel_rfl) fun K1 hK1 => ?_
  simp only [rs]
  repeat (refine opsG fun K hK => ?_; simp only [z, seval]; (repeat (first | refine gcI ?_ | refine fun (_ : _ ≤ _) => ?_)); refine hK _ ?_; clear hK K)
  refine hK1 _ ?_
  refine Sm.seqX h00 mixed hΓ (by kernel_rfl) fun K2 hK2 => ?_
  simp only [rs]
  obtain ⟨r1, hr1, H⟩ := bind_some H
  iterate 2 (refine opsX fun K hK => ?_; simp only [z, seval]; (repeat (first | refine gcI ?_ | refine fun (_ : _ ≤ _) => ?_)); refine hK _ ?_; clear hK K)
  refine opsM (cslices_IndexFunc_f80_M2 n _ _ _ r1 hr1) [0] [] (by simp only [z, seval, hr1]; try rfl) (by simp only [z, seval, hr1]) (by simp only [z, seval, hr1]) (by simp only [z, seval, hr1]) (by simp only [z, seval, hr1]) rfl (by simp only [z, seval, hr1]) rfl ?_
  iterate 2 (refine opsX fun K hK => ?_; simp only [z, seval, hr1]; (repeat (first | refine gcI ?_ | refine fun (_ : _ ≤ _) => ?_)); refine hK _ ?_; clear hK K)
  refine hK2 _ ?_
  refine Sm.ret ?_
  try simp only [seval, Exit.exit.injEq]
  obtain rfl := Option.some.inj H
  refine RetM.mk (.inr rfl) [some 0] rfl ?_
  simp only [z, seval]

def enqueue_Request__blocked_1_1_M1 (n : Nat) (a : TWant) (p1 : Int) (p1_ : List TWant) : Option Bool :=
  (enqueue_some_f61_M2 n p1_ a.Name a.Exclusive).bind fun r1 =>
  some r1

theorem cenqueue_Request__blocked_1_1_M1 (n : Nat) (a : TWant) (p1 : Int) (p1_ : List TWant) (r : Bool) (H : enqueue_Request__blocked_1_1_M1 n a p1 p1_ = some r) : CallsM Try.prog 62 [.dat (true, [.str, .bool]) [.str a.Name, .bool a.Exclusive], .ref (.box 0 0)] [.box [.c (.int .i64) (.int p1), .c (.slice 92) (.slice (List.map e_TWant p1_))]] [.c .bool (.bool r)] [.box [.c (.int .i64) (.int p1), .c (.slice 92) (.slice (List.map e_TWant p1_))]] := by
  have hΓ : ∀ g, g ∈ ([] : List Go.AE.Fn) → Contract Try.prog g := by simp
  refine callsM_of (Try.f62.body.getD .skip) h00 Try.func62 rfl (by intro args w; exact Try.call62 args w) (Nat.le_of_ble_eq_true rfl) (Nat.le_of_ble_eq_true rfl) ?_
  unfold enqueue_Request__blocked_1_1_M1 at H
  simp only [Try.f62, Option.getD]
  refine Sm.seqA h00 mixed hΓ (by kernel_rfl) fun K1 hK1 => ?_
  simp only [rs]
  repeat (refine opsG fun K hK => ?_; simp only [z, seval]; (repeat (first | refine gcI ?_ | refine fun (_ : _ ≤ _) => ?_)); refine hK _ ?_; clear hK K)
  refine hK1 _ ?_
  refine Sm.seqX h00 mixed hΓ (by kernel_rfl) fun K2 hK2 => ?_
  simp only [rs]
  obtain ⟨r1, hr1, H⟩ := bind_some H
  iterate 2 (refine opsX fun K hK => ?_; simp only [z, seval]; (repeat (first | refine gcI ?_ | refine fun (_ : _ ≤ _) => ?_)); refine hK _ ?_; clear hK K)
  refine opsY fun K hK => ?_; simp only [z, seval]; (repeat (first | refine gcI ?_ | refine fun (_ : _ ≤ _) => ?_)); refine hK _ ?_; clear hK K
  refine opsM (cenqueue_some_f61_M2 n _ _ _ r1 hr1) [32] [] (by simp only [z, seval, hr1]; try rfl) (by simp only [z, seval, hr1]) (by simp only [z, seval, hr1]) (by simp only [z, seval, hr1]) (by simp only [z, seval, hr1]) rfl (by simp only [z, seval, hr1]) rfl ?_
  (refine opsX fun K hK => ?_; simp only [z, seval, hr1]; (repeat (first | refine gcI ?_ | refine fun (_ : _ ≤ _) => ?_)); refine hK _ ?_; clear hK K)
  refine hK2 _ ?_
  refine Sm.ret ?_
  try simp only [seval, Exit.exit.injEq]
  obtain rfl := Option.some.inj H
  refine RetM.mk (.inr rfl) [some 0] rfl ?_
  simp only [z, seval]

abbrev slices_IndexFunc_f80_M1_s1 (f : Int) (f_ : List TWant) : S := stB [] [(0, .box [.c (.int .i64) (.int f), .c (.slice 92) (.slice (List.map e_TWant f_))])]

def slices_IndexFunc_f80_M1_k1 (n : Nat) (f : Int) (f_ : List TWant) : Option Int :=
  some (-1)

abbrev slices_IndexFunc_f80_M1_t2 (f : Int) (f_ : List TWant) (s : List TWant) (v7 : Int) (v8 : Int) : S := stB [(0, .c (.slice 92) (.slice (List.map e_TWant s))), (1, .fnv 62 [.box 0 0]), (7, .c (.int .i64) (.int v7)), (8, .c (.int .i64) (.int v8))] [(0, .box [.c (.int .i64) (.int f), .c (.slice 92) (.slice (List.map e_TWant f_))])]

def slices_IndexFunc_f80_M1_b2 (n : Nat) (f : Int) (f_ : List TWant) (s : List TWant) (v7 : Int) (v8 : Int) : Option ((Int) ⊕ (((Int) ⊕ (Unit)))) :=
  bif (decide (v8 < v7)) then
    gd ((0 ≤ v8 ∧ v8 < (s.length : Int))) <|
    (enqueue_Request__blocked_1_1_M1 n (gt s (Int.toNat v8)) f f_).bind fun r1 =>
    bif r1 then
      some (.inr (.inl v8))
    else
      some (.inl (IntKind.wrap .i64 (v8 + 1)))
  else
    some (.inr (.inr ()))

def slices_IndexFunc_f80_M1 (n : Nat) (s : List TWant) (f : Int) (f_ : List TWant) : Option Int :=
  (loopF (fun (x : Int) => slices_IndexFunc_f80_M1_b2 n f f_ s (s.length : Int) x) n 0).bind fun y4 =>
  match y4 with
  | .inl v =>
    some v
  | .inr v =>
    slices_IndexFunc_f80_M1_k1 n f f_

theorem cslices_IndexFunc_f80_M1 (n : Nat) (s : List TWant) (f : Int) (f_ : List TWant) (r : Int) (H : slices_IndexFunc_f80_M1 n s f f_ = some r) : CallsM Try.prog 80 [.dat (false, [.slice 92]) [.slice (List.map e_TWant s)], .ref (.fnv 62 [.box 0 0])] [.box [.c (.int .i64) (.int f), .c (.slice 92) (.slice (List.map e_TWant f_))]] [.c (.int .i64) (.int r)] [.box [.c (.int .i64) (.int f), .c (.slice 92) (.slice (List.map e_TWant f_))]] := by
  have hΓ : ∀ g, g ∈ ([] : List Go.AE.Fn) → Contract Try.prog g := by simp
  refine callsM_of (Try.f80.body.getD .skip) h00 Try.func80 rfl (by intro args w; exact Try.call80 args w) (Nat.le_of_ble_eq_true rfl) (Nat.le_of_ble_eq_true rfl) ?_
  unfold slices_IndexFunc_f80_M1 at H
  simp only [Try.f80, Option.getD]
  refine Sm.seqA h00 mixed hΓ (by kernel_rfl) fun K1 hK1 => ?_
  simp only [rs]
  repeat (refine opsG fun K hK => ?_; simp only [z, seval]; (repeat (first | refine gcI ?_ | refine fun (_ : _ ≤ _) => ?_)); refine hK _ ?_; clear hK K)
  refine hK1 _ ?_
  refine Sm.cut (fun (x : Unit) => slices_IndexFunc_f80_M1_s1 f f_) (fun x => slices_IndexFunc_f80_M1_k1 n f f_ = some r) ?_ ?_
  · refine Sm.seqA h00 mixed hΓ (by kernel_rfl) fun K3 hK3 => ?_
    simp only [rs]
    repeat (refine opsG fun K hK => ?_; simp only [z, seval]; (repeat (first | refine gcI ?_ | refine fun (_ : _ ≤ _) => ?_)); refine hK _ ?_; clear hK K)
    refine hK3 _ ?_
    refine Sm.block ?_
    obtain ⟨y4, hy4, Ho4⟩ := bind_some H
    refine Sm.loopB (fun (x : Int) => slices_IndexFunc_f80_M1_b2 n f f_ s (s.length : Int) x) (fun x => slices_IndexFunc_f80_M1_t2 f f_ s (s.length : Int) x) hy4 ?_ ?_
    · exact weak_b [some 0] rfl rfl rfl (by simp only [wk, z, seval]) (by simp only [wk, z, seval])
    rintro v8 z4 H
    try dsimp only at H
    unfold slices_IndexFunc_f80_M1_b2 at H
    refine Sm.seqA h00 mixed hΓ (by kernel_rfl) fun K5 hK5 => ?_
    simp only [rs]
    repeat (refine opsG fun K hK => ?_; simp only [z, seval, slices_IndexFunc_f80_M1_t2]; (repeat (first | refine gcI ?_ | refine fun (_ : _ ≤ _) => ?_)); refine hK _ ?_; clear hK K)
    refine hK5 _ ?_
    refine Sm.seqK fun K6 hK6 => ?_
    refine Sm.condK (by rfl) fun Ka Kb ha hb => ?_
    simp only [wpCond, z, seval, slices_IndexFunc_f80_M1_t2]
    refine ⟨fun h7 => ha ?_, fun h7 => hb ?_⟩
    · first | replace H := bif_t h7 H | replace H := bif_t2 h7 H (by simp only [List.length_append])
      refine Sm.skip ?_
      refine hK6 _ ?_
      refine Sm.seqK fun K8 hK8 => ?_
      refine Sm.block ?_
      refine Sm.seqA h00 mixed hΓ (by kernel_rfl) fun K9 hK9 => ?_
      simp only [rs]
      repeat (refine opsG fun K hK => ?_; simp only [z, seval, slices_IndexFunc_f80_M1_t2]; (repeat (first | refine gcI ?_ | refine fun (_ : _ ≤ _) => ?_)); refine hK _ ?_; clear hK K)
      refine hK9 _ ?_
      refine Sm.seqX h00 mixed hΓ (by kernel_rfl) fun K10 hK10 => ?_
      simp only [rs]
      obtain ⟨hg11, H⟩ := gd_some H
      obtain ⟨r1, hr1, H⟩ := bind_some H
      iterate 5 (refine opsX fun K hK => ?_; simp only [z, seval, slices_IndexFunc_f80_M1_t2]; (repeat (first | refine gcI ?_ | refine fun (_ : _ ≤ _) => ?_)); refine hK _ ?_; clear hK K)
      refine opsM (cenqueue_Request__blocked_1_1_M1 n _ _ _ r1 hr1) [0] [] (by simp only [z, seval, slices_IndexFunc_f80_M1_t2, hr1]; try rfl) (by simp only [z, seval, slices_IndexFunc_f80_M1_t2, hr1]) (by simp only [z, seval, slices_IndexFunc_f80_M1_t2, hr1]) (by simp only [z, seval, slices_IndexFunc_f80_M1_t2, hr1]) (by simp only [z, seval, slices_IndexFunc_f80_M1_t2, hr1]) rfl (by simp only [z, seval, slices_IndexFunc_f80_M1_t2, hr1]) rfl ?_
      refine hK10 _ ?_
      refine Sm.condK (by rfl) fun Ka Kb ha hb => ?_
      simp only [wpCond, z, seval, slices_IndexFunc_f80_M1_t2]
      refine ⟨fun h12 => ha ?_, fun h12 => hb ?_⟩
      · first | replace H := bif_t h12 H | replace H := bif_t2 h12 H (by simp only [List.length_append])
        refine Sm.seqA h00 mixed hΓ (by kernel_rfl) fun K13 hK13 => ?_
        simp only [rs]
        repeat (refine opsG fun K hK => ?_; simp only [z, seval, slices_IndexFunc_f80_M1_t2]; (repeat (first | refine gcI ?_ | refine fun (_ : _ ≤ _) => ?_)); refine hK _ ?_; clear hK K)
        refine hK13 _ ?_
        refine Sm.ret ?_
        try simp only [seval, Exit.exit.injEq]
        refine ⟨⟨_, (Option.some.inj H).symm⟩, fun hz => ?_⟩
        have hyy := Sum.inr.inj ((Option.some.inj H).trans hz)
        subst hyy
        have H := Ho4
        try dsimp only at H
        try simp only [seval, Exit.exit.injEq]
        obtain rfl := Option.some.inj H
        refine RetM.mk (.inr rfl) [some 0] rfl ?_
        simp only [z, seval, slices_IndexFunc_f80_M1_t2]
      first | replace H := bif_f h12 H | replace H := bif_f2 h12 H (by simp only [List.length_append])
      refine Sm.skip ?_
      refine hK8 _ ?_
      refine Sm.regA h00 mixed hΓ (by kernel_rfl) ?_
      simp only [rs]
      repeat (refine opsG fun K hK => ?_; simp only [z, seval, slices_IndexFunc_f80_M1_t2]; (repeat (first | refine gcI ?_ | refine fun (_ : _ ≤ _) => ?_)); refine hK _ ?_; clear hK K)
      refine opsG0 ?_
      try simp only [seval, Exit.exit.injEq]
      refine ⟨_, (Option.some.inj H).symm, ?_⟩
      exact weak_b [some 0] rfl rfl rfl (by simp only [wk, z, seval, slices_IndexFunc_f80_M1_t2]) (by simp only [wk, z, seval, slices_IndexFunc_f80_M1_t2])
    first | replace H := bif_f h7 H | replace H := bif_f2 h7 H (by simp only [List.length_append])
    refine Sm.exit ?_
    try simp only [seval, Exit.exit.injEq]
    refine ⟨⟨_, (Option.some.inj H).symm⟩, fun hz => ?_⟩
    have hyy := Sum.inr.inj ((Option.some.inj H).trans hz)
    subst hyy
    have H := Ho4
    try dsimp only at H
    try simp only [seval, Exit.exit.injEq]
    refine ⟨(), H, ?_⟩
    exact weak_b [some 0] rfl rfl rfl (by simp only [wk, z, seval, slices_IndexFunc_f80_M1_t2]) (by simp only [wk, z, seval, slices_IndexFunc_f80_M1_t2])
  rintro ⟨⟩ H
  try dsimp only at H
  unfold slices_IndexFunc_f80_M1_k1 at H
  refine Sm.seqA h00 mixed hΓ (by kernel_rfl) fun K2 hK2 => ?_
  simp only [rs]
  repeat (refine opsG fun K hK => ?_; simp only [z, seval, slices_IndexFunc_f80_M1_s1]; (repeat (first | refine gcI ?_ | refine fun (_ : _ ≤ _) => ?_)); refine hK _ ?_; clear hK K)
  refine hK2 _ ?_
  refine Sm.ret ?_
  try simp only [seval, Exit.exit.injEq]
  obtain rfl := Option.some.inj H
  refine RetM.mk (.inr rfl) [some 0] rfl ?_
  simp only [z, seval, slices_IndexFunc_f80_M1_s1]

def enqueue_some_f61_M1 (n : Nat) (l : List TWant) (has : Int) (has_ : List TWant) : Option Bool :=
  (slices_IndexFunc_f80_M1 n l has has_).bind fun r1 =>
  some (decide (r1 ≥ 0))

theorem cenqueue_some_f61_M1 (n : Nat) (l : List TWant) (has : Int) (has_ : List TWant) (r : Bool) (H : enqueue_some_f61_M1 n l has has_ = some r) : CallsM Try.prog 61 [.dat (false, [.slice 92]) [.slice (List.map e_TWant l)], .ref (.fnv 62 [.box 0 0])] [.box [.c (.int .i64) (.int has), .c (.slice 92) (.slice (List.map e_TWant has_))]] [.c .bool (.bool r)] [.box [.c (.int .i64) (.int has), .c (.slice 92) (.slice (List.map e_TWant has_))]] := by
  have hΓ : ∀ g, g ∈ ([] : List Go.AE.Fn) → Contract Try.prog g := by simp
  refine callsM_of (Try.f61.body.getD .skip) h00 Try.func61 rfl (by intro args w; exact Try.call61 args w) (Nat.le_of_ble_eq_true rfl) (Nat.le_of_ble_eq_true rfl) ?_
  unfold enqueue_some_f61_M1 at H
  simp only [Try.f61, Option.getD]
  refine Sm.seqA h00 mixed hΓ (by kernel_rfl) fun K1 hK1 => ?_
  simp only [rs]
  repeat (refine opsG fun K hK => ?_; simp only [z, seval]; (repeat (first | refine gcI ?_ | refine fun (_ : _ ≤ _) => ?_)); refine hK _ ?_; clear hK K)
  refine hK1 _ ?_
  refine Sm.seqX h00 mixed hΓ (by kernel_rfl) fun K2 hK2 => ?_
  simp only [rs]
  obtain ⟨r1, hr1, H⟩ := bind_some H
  iterate 2 (refine opsX fun K hK => ?_; simp only [z, seval]; (repeat (first | refine gcI ?_ | refine fun (_ : _ ≤ _) => ?_)); refine hK _ ?_; clear hK K)
  refine opsM (cslices_IndexFunc_f80_M1 n _ _ _ r1 hr1) [0] [] (by simp only [z, seval, hr1]; try rfl) (by simp only [z, seval, hr1]) (by simp only [z, seval, hr1]) (by simp only [z, seval, hr1]) (by simp only [z, seval, hr1]) rfl (by simp only [z, seval, hr1]) rfl ?_
  iterate 2 (refine opsX fun K hK => ?_; simp only [z, seval, hr1]; (repeat (first | refine gcI ?_ | refine fun (_ : _ ≤ _) => ?_)); refine hK _ ?_; clear hK K)
  refine hK2 _ ?_
  refine Sm.ret ?_
  try simp only [seval, Exit.exit.injEq]
  obtain rfl := Option.some.inj H
  refine RetM.mk (.inr rfl) [some 0] rfl ?_
  simp only [z, seval]

def enqueue_Request__blocked_1_M1 (n : Nat) (q : TRequest) (p1 : Int) (p1_ : List TWant) : Option Bool :=
  (enqueue_some_f61_M1 n p1_ q.Job q.Wants).bind fun r1 =>
  some r1

theorem cenqueue_Request__blocked_1_M1 (n : Nat) (q : TRequest) (p1 : Int) (p1_ : List TWant) (r : Bool) (H : enqueue_Request__blocked_1_M1 n q p1 p1_ = some r) : CallsM Try.prog 60 [.dat (true, [.int .i64, .slice 92]) [.int q.Job, .slice (List.map e_TWant q.Wants)], .ref (.box 0 0)] [.box [.c (.int .i64) (.int p1), .c (.slice 92) (.slice (List.map e_TWant p1_))]] [.c .bool (.bool r)] [.box [.c (.int .i64) (.int p1), .c (.slice 92) (.slice (List.map e_TWant p1_))]] := by
  have hΓ : ∀ g, g ∈ ([] : List Go.AE.Fn) → Contract Try.prog g := by simp
  refine callsM_of (Try.f60.body.getD .skip) h00 Try.func60 rfl (by intro args w; exact Try.call60 args w) (Nat.le_of_ble_eq_true rfl) (Nat.le_of_ble_eq_true rfl) ?_
  unfold enqueue_Request__blocked_1_M1 at H
  simp only [Try.f60, Option.getD]
  refine Sm.seqA h00 mixed hΓ (by kernel_rfl) fun K1 hK1 => ?_
  simp only [rs]
  repeat (refine opsG fun K hK => ?_; simp only [z, seval]; (repeat (first | refine gcI ?_ | refine fun (_ : _ ≤ _) => ?_)); refine hK _ ?_; clear hK K)
  refine hK1 _ ?_
  refine Sm.seqX h00 mixed hΓ (by kernel_rfl) fun K2 hK2 => ?_
  simp only [rs]
  obtain ⟨r1, hr1, H⟩ := bind_some H
  iterate 2 (refine opsX fun K hK => ?_; simp only [z, seval]; (repeat (first | refine gcI ?_ | refine fun (_ : _ ≤ _) => ?_)); refine hK _ ?_; clear hK K)
  refine opsY fun K hK => ?_; simp only [z, seval]; (repeat (first | refine gcI ?_ | refine fun (_ : _ ≤ _) => ?_)); refine hK _ ?_; clear hK K
  refine opsM (cenqueue_some_f61_M1 n _ _ _ r1 hr1) [32] [] (by simp only [z, seval, hr1]; try rfl) (by simp only [z, seval, hr1]) (by simp only [z, seval, hr1]) (by simp only [z, seval, hr1]) (by simp only [z, seval, hr1]) rfl (by simp only [z, seval, hr1]) rfl ?_
  (refine opsX fun K hK => ?_; simp only [z, seval, hr1]; (repeat (first | refine gcI ?_ | refine fun (_ : _ ≤ _) => ?_)); refine hK _ ?_; clear hK K)
  refine hK2 _ ?_
  refine Sm.ret ?_
  try simp only [seval, Exit.exit.injEq]
  obtain rfl := Option.some.inj H
  refine RetM.mk (.inr rfl) [some 0] rfl ?_
  simp only [z, seval]

abbrev slices_IndexFunc_f57_M1_s1 (f : Int) (f_ : List TWant) : S := stB [] [(0, .box [.c (.int .i64) (.int f), .c (.slice 92) (.slice (List.map e_TWant f_))])]

def slices_IndexFunc_f57_M1_k1 (n : Nat) (f : Int) (f_ : List TWant) : Option Int :=
  some (-1)

abbrev slices_IndexFunc_f57_M1_t2 (f : Int) (f_ : List TWant) (s : List TRequest) (v7 : Int) (v8 : Int) : S := stB [(0, .c (.slice 61) (.slice (List.map e_TRequest s))), (1, .fnv 60 [.box 0 0]), (7, .c (.int .i64) (.int v7)), (8, .c (.int .i64) (.int v8))] [(0, .box [.c (.int .i64) (.int f), .c (.slice 92) (.slice (List.map e_TWant f_))])]

def slices_IndexFunc_f57_M1_b2 (n : Nat) (f : Int) (f_ : List TWant) (s : List TRequest) (v7 : Int) (v8 : Int) : Option ((Int) ⊕ (((Int) ⊕ (Unit)))) :=
  bif (decide (v8 < v7)) then
    gd ((0 ≤ v8 ∧ v8 < (s.length : Int))) <|
    (enqueue_Request__blocked_1_M1 n (gt s (Int.toNat v8)) f f_).bind fun r1 =>
    bif r1 then
      some (.inr (.inl v8))
    else
      some (.inl (IntKind.wrap .i64 (v8 + 1)))
  else
    some (.inr (.inr ()))

def slices_IndexFunc_f57_M1 (n : Nat) (s : List TRequest) (f : Int) (f_ : List TWant) : Option Int :=
  (loopF (fun (x : Int) => slices_IndexFunc_f57_M1_b2 n f f_ s (s.length : Int) x) n 0).bind fun y4 =>
  match y4 with
  | .inl v =>
    some v
  | .inr v =>
    slices_IndexFunc_f57_M1_k1 n f f_

theorem cslices_IndexFunc_f57_M1 (n : Nat) (s : List TRequest) (f : Int) (f_ : List TWant) (r : Int) (H : slices_IndexFunc_f57_M1 n s f f_ = some r) : CallsM Try.prog 57 [.dat (false, [.slice 61]) [.slice (List.map e_TRequest s)], .ref (.fnv 60 [.box 0 0])] [.box [.c (.int .i64) (.int f), .c (.slice 92) (.slice (List.map e_TWant f_))]] [.c (.int .i64) (.int r)] [.box [.c (.int .i64) (.int f), .c (.slice 92) (.slice (List.map e_TWant f_))]] := by
  have hΓ : ∀ g, g ∈ ([] : List Go.AE.Fn) → Contract Try.prog g := by simp
  refine callsM_of (Try.f57.body.getD .skip) h00 Try.func57 rfl (by intro args w; exact Try.call57 args w) (Nat.le_of_ble_eq_true rfl) (Nat.le_of_ble_eq_true rfl) ?_
  unfold slices_IndexFunc_f57_M1 at H
  simp only [Try.f57, Option.getD]
  refine Sm.seqA h00 mixed hΓ (by kernel_rfl) fun K1 hK1 => ?_
  simp only [rs]
  repeat (refine opsG fun K hK => ?_; simp only [z, seval]; (repeat (first | refine gcI ?_ | refine fun (_ : _ ≤ _) => ?_)); refine hK _ ?_; clear hK K)
  refine hK1 _ ?_
  refine Sm.cut (fun (x : Unit) => slices_IndexFunc_f57_M1_s1 f f_) (fun x => slices_IndexFunc_f57_M1_k1 n f f_ = some r) ?_ ?_
  · refine Sm.seqA h00 mixed hΓ (by kernel_rfl) fun K3 hK3 => ?_
    simp only [rs]
    repeat (refine opsG fun K hK => ?_; simp only [z, seval]; (repeat (first | refine gcI ?_ | refine fun (_ : _ ≤ _) => ?_)); refine hK _ ?_; clear hK K)
    refine hK3 _ ?_
    refine Sm.block ?_
    obtain ⟨y4, hy4, Ho4⟩ := bind_some H
    refine Sm.loopB (fun (x : Int) => slices_IndexFunc_f57_M1_b2 n f f_ s (s.length : Int) x) (fun x => slices_IndexFunc_f57_M1_t2 f f_ s (s.length : Int) x) hy4 ?_ ?_
    · exact weak_b [some 0] rfl rfl rfl (by simp only [wk, z, seval]) (by simp only [wk, z, seval])
    rintro v8 z4 H
    try dsimp only at H
    unfold slices_IndexFunc_f57_M1_b2 at H
    refine Sm.seqA h00 mixed hΓ (by kernel_rfl) fun K5 hK5 => ?_
    simp only [rs]
    repeat (refine opsG fun K hK => ?_; simp only [z, seval, slices_IndexFunc_f57_M1_t2]; (repeat (first | refine gcI ?_ | refine fun (_ : _ ≤ _) => ?_)); refine hK _ ?_; clear hK K)
    refine hK5 _ ?_
    refine Sm.seqK fun K6 hK6 => ?_
    refine Sm.condK (by rfl) fun Ka Kb ha hb => ?_
    simp only [wpCond, z, seval, slices_IndexFunc_f57_M1_t2]
    refine ⟨fun h7 => ha ?_, fun h7 => hb ?_⟩
    · first | replace H := bif_t h7 H | replace H := bif_t2 h7 H (by simp only [List.length_append])
      refine Sm.skip ?_
      refine hK6 _ ?_
      refine Sm.seqK fun K8 hK8 => ?_
      refine Sm.block ?_
      refine Sm.seqA h00 mixed hΓ (by kernel_rfl) fun K9 hK9 => ?_
      simp only [rs]
      repeat (refine opsG fun K hK => ?_; simp only [z, seval, slices_IndexFunc_f57_M1_t2]; (repeat (first | refine gcI ?_ | refine fun (_ : _ ≤ _) => ?_)); refine hK _ ?_; clear hK K)
      refine hK9 _ ?_
      refine Sm.seqX h00 mixed hΓ (by kernel_rfl) fun K10 hK10 => ?_
      simp only [rs]
      obtain ⟨hg11, H⟩ := gd_some H
      obtain ⟨r1, hr1, H⟩ := bind_some H
      iterate 5 (refine opsX fun K hK => ?_; simp only [z, seval, slices_IndexFunc_f57_M1_t2]; (repeat (first | refine gcI ?_ | refine fun (_ : _ ≤ _) => ?_)); refine hK _ ?_; clear hK K)
      refine opsM (cenqueue_Request__blocked_1_M1 n _ _ _ r1 hr1) [0] [] (by simp only [z, seval, slices_IndexFunc_f57_M1_t2, hr1]; try rfl) (by simp only [z, seval, slices_IndexFunc_f57_M1_t2, hr1]) (by simp only [z, seval, slices_IndexFunc_f57_M1_t2, hr1]) (by simp only [z, seval, slices_IndexFunc_f57_M1_t2, hr1]) (by simp only [z, seval, slices_IndexFunc_f57_M1_t2, hr1]) rfl (by simp only [z, seval, slices_IndexFunc_f57_M1_t2, hr1]) rfl ?_
      refine hK10 _ ?_
      refine Sm.condK (by rfl) fun Ka Kb ha hb => ?_
      simp only [wpCond, z, seval, slices_IndexFunc_f57_M1_t2]
      refine ⟨fun h12 => ha ?_, fun h12 => hb ?_⟩
      · first | replace H := bif_t h12 H | replace H := bif_t2 h12 H (by simp only [List.length_append])
        refine Sm.seqA h00 mixed hΓ (by kernel_rfl) fun K13 hK13 => ?_
        simp only [rs]
        repeat (refine opsG fun K hK => ?_; simp only [z, seval, slices_IndexFunc_f57_M1_t2]; (repeat (first | refine gcI ?_ | refine fun (_ : _ ≤ _) => ?_)); refine hK _ ?_; clear hK K)
        refine hK13 _ ?_
        refine Sm.ret ?_
        try simp only [seval, Exit.exit.injEq]
        refine ⟨⟨_, (Option.some.inj H).symm⟩, fun hz => ?_⟩
        have hyy := Sum.inr.inj ((Option.some.inj H).trans hz)
        subst hyy
        have H := Ho4
        try dsimp only at H
        try simp only [seval, Exit.exit.injEq]
        obtain rfl := Option.some.inj H
        refine RetM.mk (.inr rfl) [some 0] rfl ?_
        simp only [z, seval, slices_IndexFunc_f57_M1_t2]
      first | replace H := bif_f h12 H | replace H := bif_f2 h12 H (by simp only [List.length_append])
      refine Sm.skip ?_
      refine hK8 _ ?_
      refine Sm.regA h00 mixed hΓ (by kernel_rfl) ?_
      simp only [rs]
      repeat (refine opsG fun K hK => ?_; simp only [z, seval, slices_IndexFunc_f57_M1_t2]; (repeat (first | refine gcI ?_ | refine fun (_ : _ ≤ _) => ?_)); refine hK _ ?_; clear hK K)
      refine opsG0 ?_
      try simp only [seval, Exit.exit.injEq]
      refine ⟨_, (Option.some.inj H).symm, ?_⟩
      exact weak_b [some 0] rfl rfl rfl (by simp only [wk, z, seval, slices_IndexFunc_f57_M1_t2]) (by simp only [wk, z, seval, slices_IndexFunc_f57_M1_t2])
    first | replace H := bif_f h7 H | replace H := bif_f2 h7 H (by simp only [List.length_append])
    refine Sm.exit ?_
    try simp only [seval, Exit.exit.injEq]
    refine ⟨⟨_, (Option.some.inj H).symm⟩, fun hz => ?_⟩
    have hyy := Sum.inr.inj ((Option.some.inj H).trans hz)
    subst hyy
    have H := Ho4
    try dsimp only at H
    try simp only [seval, Exit.exit.injEq]
    refine ⟨(), H, ?_⟩
    exact weak_b [some 0] rfl rfl rfl (by simp only [wk, z, seval, slices_IndexFunc_f57_M1_t2]) (by simp only [wk, z, seval, slices_IndexFunc_f57_M1_t2])
  rintro ⟨⟩ H
  try dsimp only at H
  unfold slices_IndexFunc_f57_M1_k1 at H
  refine Sm.seqA h00 mixed hΓ (by kernel_rfl) fun K2 hK2 => ?_
  simp only [rs]
  repeat (refine opsG fun K hK => ?_; simp only [z, seval, slices_IndexFunc_f57_M1_s1]; (repeat (first | refine gcI ?_ | refine fun (_ : _ ≤ _) => ?_)); refine hK _ ?_; clear hK K)
  refine hK2 _ ?_
  refine Sm.ret ?_
  try simp only [seval, Exit.exit.injEq]
  obtain rfl := Option.some.inj H
  refine RetM.mk (.inr rfl) [some 0] rfl ?_
  simp only [z, seval, slices_IndexFunc_f57_M1_s1]

def enqueue_some_f59_M1 (n : Nat) (l : List TRequest) (has : Int) (has_ : List TWant) : Option Bool :=
  (slices_IndexFunc_f57_M1 n l has has_).bind fun r1 =>
  some (decide (r1 ≥ 0))

theorem cenqueue_some_f59_M1 (n : Nat) (l : List TRequest) (has : Int) (has_ : List TWant) (r : Bool) (H : enqueue_some_f59_M1 n l has has_ = some r) : CallsM Try.prog 59 [.dat (false, [.slice 61]) [.slice (List.map e_TRequest l)], .ref (.fnv 60 [.box 0 0])] [.box [.c (.int .i64) (.int has), .c (.slice 92) (.slice (List.map e_TWant has_))]] [.c .bool (.bool r)] [.box [.c (.int .i64) (.int has), .c (.slice 92) (.slice (List.map e_TWant has_))]] := by
  have hΓ : ∀ g, g ∈ ([] : List Go.AE.Fn) → Contract Try.prog g := by simp
  refine callsM_of (Try.f59.body.getD .skip) h00 Try.func59 rfl (by intro args w; exact Try.call59 args w) (Nat.le_of_ble_eq_true rfl) (Nat.le_of_ble_eq_true rfl) ?_
  unfold enqueue_some_f59_M1 at H
  simp only [Try.f59, Option.getD]
  refine Sm.seqA h00 mixed hΓ (by kernel_rfl) fun K1 hK1 => ?_
  simp only [rs]
  repeat (refine opsG fun K hK => ?_; simp only [z, seval]; (repeat (first | refine gcI ?_ | refine fun (_ : _ ≤ _) => ?_)); refine hK _ ?_; clear hK K)
  refine hK1 _ ?_
  refine Sm.seqX h00 mixed hΓ (by kernel_rfl) fun K2 hK2 => ?_
  simp only [rs]
  obtain ⟨r1, hr1, H⟩ := bind_some H
  iterate 2 (refine opsX fun K hK => ?_; simp only [z, seval]; (repeat (first | refine gcI ?_ | refine fun (_ : _ ≤ _) => ?_)); refine hK _ ?_; clear hK K)
  refine opsM (cslices_IndexFunc_f57_M1 n _ _ _ r1 hr1) [0] [] (by simp only [z, seval, hr1]; try rfl) (by simp only [z, seval, hr1]) (by simp only [z, seval, hr1]) (by simp only [z, seval, hr1]) (by simp only [z, seval, hr1]) rfl (by simp only [z, seval, hr1]) rfl ?_
  iterate 2 (refine opsX fun K hK => ?_; simp only [z, seval, hr1]; (repeat (first | refine gcI ?_ | refine fun (_ : _ ≤ _) => ?_)); refine hK _ ?_; clear hK K)
  refine hK2 _ ?_
  refine Sm.ret ?_
  try simp only [seval, Exit.exit.injEq]
  obtain rfl := Option.some.inj H
  refine RetM.mk (.inr rfl) [some 0] rfl ?_
  simp only [z, seval]

def enqueue_Request__blocked (n : Nat) (r_ : TRequest) (l : List TRequest) : Option Bool :=
  (enqueue_some_f59_M1 n l r_.Job r_.Wants).bind fun r1 =>
  some r1

def xenqueue_Request__blocked (n : Nat) : Go.AE.Fn := mkFn (A := TRequest × (List TRequest)) (R := Bool) 37 [(true, [.int .i64, .slice 92]), (false, [.slice 61])] false (fun xs => ((⟨(cg (xs.getD 0 []) 0).toInt, ((cg (xs.getD 0 []) 1).toSl.map d_TWant)⟩ : TRequest), ((cg (xs.getD 1 []) 0).toSl.map d_TRequest))) (fun a => [[.int a.1.Job, .slice (List.map e_TWant a.1.Wants)], [.slice (List.map e_TRequest a.2)]]) (fun a => enqueue_Request__blocked n a.1 a.2) (fun r => [.c .bool (.bool r)]) (fun r => [])

theorem cenqueue_Request__blocked (n : Nat) : Contract Try.prog (xenqueue_Request__blocked n) := by
  have hΓ : ∀ g, g ∈ ([] : List Go.AE.Fn) → Contract Try.prog g := by simp
  refine contract_f (Try.f37.body.getD .skip) h00 Try.func37 rfl (by intro args w; exact Try.call37 args w) (by decide) (by intro _ r; exact ⟨rfl, by simp⟩) ?_
  rintro ⟨r_, l⟩ r H
  try dsimp only at H
  unfold enqueue_Request__blocked at H
  simp only [Try.f37, Option.getD]
  refine Sm.seqA h00 mixed hΓ (by kernel_rfl) fun K1 hK1 => ?_
  simp only [rs]
  repeat (refine opsG fun K hK => ?_; simp only [z, seval]; (repeat (first | refine gcI ?_ | refine fun (_ : _ ≤ _) => ?_)); refine hK _ ?_; clear hK K)
  refine hK1 _ ?_
  refine Sm.seqX h00 mixed hΓ (by kernel_rfl) fun K2 hK2 => ?_
  simp only [rs]
  obtain ⟨r1, hr1, H⟩ := bind_some H
  (refine opsX fun K hK => ?_; simp only [z, seval]; (repeat (first | refine gcI ?_ | refine fun (_ : _ ≤ _) => ?_)); refine hK _ ?_; clear hK K)
  refine opsY fun K hK => ?_; simp only [z, seval]; (repeat (first | refine gcI ?_ | refine fun (_ : _ ≤ _) => ?_)); refine hK _ ?_; clear hK K
  refine opsM (cenqueue_some_f59_M1 n _ _ _ r1 hr1) [32] [] (by simp only [z, seval, hr1]; try rfl) (by simp only [z, seval, hr1]) (by simp only [z, seval, hr1]) (by simp only [z, seval, hr1]) (by simp only [z, seval, hr1]) rfl (by simp only [z, seval, hr1]) rfl ?_
  (refine opsX fun K hK => ?_; simp only [z, seval, hr1]; (repeat (first | refine gcI ?_ | refine fun (_ : _ ≤ _) => ?_)); refine hK _ ?_; clear hK K)
  refine hK2 _ ?_
  refine Sm.ret ?_
  try simp only [seval, Exit.exit.injEq]
  obtain rfl := Option.some.inj H
  refine Ret.ofR [] (.inr rfl) ?_
  simp only [z, seval]

abbrev enqueue_Check_s2 : S := stB [] []

def enqueue_Check_k2 (n : Nat) : Option Int :=
  some 0

abbrev enqueue_Check_t3 (t : TTable) (v40 : Int) (seen : List (Int × Bool)) (v41 : Int) : S := stB [(1, .box 9004 0), (3, .mref 9005), (39, .c (.slice 61) (.slice (List.map e_TRequest t.Waiting))), (40, .c (.int .i64) (.int v40)), (41, .c (.int .i64) (.int v41))] [(9004, .box [.c (.slice 61) (.slice (List.map e_TRequest t.Held)), .c (.slice 61) (.slice (List.map e_TRequest t.Waiting))]), (9005, .mp (.int .i64) (false, [.bool]) (List.map em_Int_Bool seen))]

def enqueue_Check_b3 (n : Nat) (t : TTable) (v40 : Int) (seen : List (Int × Bool)) (v41 : Int) : Option (((List (Int × Bool)) × Int) ⊕ (((Int) ⊕ (Unit)))) :=
  bif (decide (v41 < v40)) then
    gd ((0 ≤ v41 ∧ v41 < (t.Waiting.length : Int))) <|
    gd (((!((tget ((gt t.Waiting (Int.toNat v41)).Job) seen).getD default)) = true → (enqueue_Request__normal n (gt t.Waiting (Int.toNat v41))).isSome = true) ∧ ((!(if ((tget ((gt t.Waiting (Int.toNat v41)).Job) seen).getD default) = true then true else (!((enqueue_Request__normal n (gt t.Waiting (Int.toNat v41))).getD default)))) = true → (enqueue_Request__blocked n (gt t.Waiting (Int.toNat v41)) t.Held).isSome = true) ∧ (((!(if ((tget ((gt t.Waiting (Int.toNat v41)).Job) seen).getD default) = true then true else (!((enqueue_Request__normal n (gt t.Waiting (Int.toNat v41))).getD default)))) && (!((enqueue_Request__blocked n (gt t.Waiting (Int.toNat v41)) t.Held).getD default))) = true → (0 ≤ v41 ∧ v41 ≤ (t.Waiting.length : Int))) ∧ (((!(if ((tget ((gt t.Waiting (Int.toNat v41)).Job) seen).getD default) = true then true else (!((enqueue_Request__normal n (gt t.Waiting (Int.toNat v41))).getD default)))) && (!((enqueue_Request__blocked n (gt t.Waiting (Int.toNat v41)) t.Held).getD default))) = true → (enqueue_Request__blocked n (gt t.Waiting (Int.toNat v41)) (List.take (Int.toNat v41) t.Waiting)).isSome = true)) <|
    bif (if (if ((tget ((gt t.Waiting (Int.toNat v41)).Job) seen).getD default) = true then true else (!((enqueue_Request__normal n (gt t.Waiting (Int.toNat v41))).getD default))) = true then true else (if (!((enqueue_Request__blocked n (gt t.Waiting (Int.toNat v41)) t.Held).getD default)) = true then (!((enqueue_Request__blocked n (gt t.Waiting (Int.toNat v41)) (List.take (Int.toNat v41) t.Waiting)).getD default)) else false)) then
      some (.inr (.inl 5))
    else
      some (.inl ((tset ((gt t.Waiting (Int.toNat v41)).Job) true seen), (IntKind.wrap .i64 (v41 + 1))))
  else
    some (.inr (.inr ()))

abbrev enqueue_Check_s1 (t : TTable) (seen : List (Int × Bool)) : S := stB [(1, .box 9000 0), (3, .mref 9001)] [(9000, .box [.c (.slice 61) (.slice (List.map e_TRequest t.Held)), .c (.slice 61) (.slice (List.map e_TRequest t.Waiting))]), (9001, .mp (.int .i64) (false, [.bool]) (List.map em_Int_Bool seen))]

def enqueue_Check_k1 (n : Nat) (t : TTable) (seen : List (Int × Bool)) : Option Int :=
  (loopF (fun (x : (List (Int × Bool)) × Int) => enqueue_Check_b3 n t (t.Waiting.length : Int) x.1 x.2) n (seen, 0)).bind fun y5 =>
  match y5 with
  | .inl v =>
    some v
  | .inr v =>
    enqueue_Check_k2 n

abbrev enqueue_Check_t4 (t : TTable) (v11 : Int) (seen_1 : List (Int × Bool)) (v12 : Int) : S := stB [(1, .box 9008 0), (3, .mref 9009), (10, .c (.slice 61) (.slice (List.map e_TRequest t.Held))), (11, .c (.int .i64) (.int v11)), (12, .c (.int .i64) (.int v12))] [(9008, .box [.c (.slice 61) (.slice (List.map e_TRequest t.Held)), .c (.slice 61) (.slice (List.map e_TRequest t.Waiting))]), (9009, .mp (.int .i64) (false, [.bool]) (List.map em_Int_Bool seen_1))]

def enqueue_Check_b4 (n : Nat) (t : TTable) (v11 : Int) (seen_1 : List (Int × Bool)) (v12 : Int) : Option (((List (Int × Bool)) × Int) ⊕ (((Int) ⊕ ((List (Int × Bool)))))) :=
  bif (decide (v12 < v11)) then
    gd ((0 ≤ v12 ∧ v12 < (t.Held.length : Int))) <|
    gd (((!((tget ((gt t.Held (Int.toNat v12)).Job) seen_1).getD default)) = true → (enqueue_Request__normal n (gt t.Held (Int.toNat v12))).isSome = true) ∧ ((!(if ((tget ((gt t.Held (Int.toNat v12)).Job) seen_1).getD default) = true then true else (!((enqueue_Request__normal n (gt t.Held (Int.toNat v12))).getD default)))) = true → (0 ≤ v12 ∧ v12 ≤ (t.Held.length : Int))) ∧ ((!(if ((tget ((gt t.Held (Int.toNat v12)).Job) seen_1).getD default) = true then true else (!((enqueue_Request__normal n (gt t.Held (Int.toNat v12))).getD default)))) = true → (enqueue_Request__blocked n (gt t.Held (Int.toNat v12)) (List.take (Int.toNat v12) t.Held)).isSome = true)) <|
    bif (if (if ((tget ((gt t.Held (Int.toNat v12)).Job) seen_1).getD default) = true then true else (!((enqueue_Request__normal n (gt t.Held (Int.toNat v12))).getD default))) = true then true else ((enqueue_Request__blocked n (gt t.Held (Int.toNat v12)) (List.take (Int.toNat v12) t.Held)).getD default)) then
      some (.inr (.inl 5))
    else
      some (.inl ((tset ((gt t.Held (Int.toNat v12)).Job) true seen_1), (IntKind.wrap .i64 (v12 + 1))))
  else
    some (.inr (.inr seen_1))

def enqueue_Check (n : Nat) (t : TTable) : Option Int :=
  (loopF (fun (x : (List (Int × Bool)) × Int) => enqueue_Check_b4 n t (t.Held.length : Int) x.1 x.2) n ([], 0)).bind fun y21 =>
  match y21 with
  | .inl v =>
    some v
  | .inr v =>
    enqueue_Check_k1 n t v

def xenqueue_Check (n : Nat) : Go.AE.Fn := mkFn (A := TTable) (R := Int) 23 [(true, [.slice 61, .slice 61])] false (fun xs => (⟨((cg (xs.getD 0 []) 0).toSl.map d_TRequest), ((cg (xs.getD 0 []) 1).toSl.map d_TRequest)⟩ : TTable)) (fun a => [[.slice (List.map e_TRequest a.Held), .slice (List.map e_TRequest a.Waiting)]]) (fun a => enqueue_Check n a) (fun r => [.c (.int .i64) (.int r)]) (fun r => [])

theorem cenqueue_Check (n : Nat) : Contract Try.prog (xenqueue_Check n) := by
  have hΓ : ∀ g, g ∈ ([xenqueue_Request__normal n, xenqueue_Request__blocked n] : List Go.AE.Fn) → Contract Try.prog g := by
    intro g hg; simp only [List.mem_cons, List.not_mem_nil, or_false] at hg; rcases hg with rfl | rfl; exact cenqueue_Request__normal n; exact cenqueue_Request__blocked n
  refine contract_f (Try.f23.body.getD .skip) h00 Try.func23 rfl (by intro args w; exact Try.call23 args w) (by decide) (by intro _ r; exact ⟨rfl, by simp⟩) ?_
  rintro t r H
  try dsimp only at H
  unfold enqueue_Check at H
  simp only [Try.f23, Option.getD]
  refine Sm.seqA h00 mixed hΓ (by kernel_rfl) fun K1 hK1 => ?_
  simp only [rs]
  repeat (refine opsG fun K hK => ?_; simp only [z, seval]; (repeat (first | refine gcI ?_ | refine fun (_ : _ ≤ _) => ?_)); refine hK _ ?_; clear hK K)
  refine hK1 _ ?_
  refine Sm.seqA h00 mixed hΓ (by kernel_rfl) fun K2 hK2 => ?_
  simp only [rs]
  repeat (refine opsG fun K hK => ?_; simp only [z, seval]; (repeat (first | refine gcI ?_ | refine fun (_ : _ ≤ _) => ?_)); refine hK _ ?_; clear hK K)
  refine hK2 _ ?_
  refine Sm.cut (fun (x : (List (Int × Bool))) => enqueue_Check_s1 t x) (fun x => enqueue_Check_k1 n t x = some r) ?_ ?_
  · refine Sm.seqA h00 mixed hΓ (by kernel_rfl) fun K20 hK20 => ?_
    simp only [rs]
    repeat (refine opsG fun K hK => ?_; simp only [z, seval]; (repeat (first | refine gcI ?_ | refine fun (_ : _ ≤ _) => ?_)); refine hK _ ?_; clear hK K)
    refine hK20 _ ?_
    refine Sm.block ?_
    obtain ⟨y21, hy21, Ho21⟩ := bind_some H
    refine Sm.loopB (fun (x : (List (Int × Bool)) × Int) => enqueue_Check_b4 n t (t.Held.length : Int) x.1 x.2) (fun x => enqueue_Check_t4 t (t.Held.length : Int) x.1 x.2) hy21 ?_ ?_
    · exact weak_b [some 16, some 128] rfl rfl rfl (by simp only [wk, z, seval]) (by simp only [wk, z, seval])
    rintro ⟨seen_1, v12⟩ z21 H
    try dsimp only at H
    unfold enqueue_Check_b4 at H
    refine Sm.seqA h00 mixed hΓ (by kernel_rfl) fun K22 hK22 => ?_
    simp only [rs]
    repeat (refine opsG fun K hK => ?_; simp only [z, seval, enqueue_Check_t4]; (repeat (first | refine gcI ?_ | refine fun (_ : _ ≤ _) => ?_)); refine hK _ ?_; clear hK K)
    refine hK22 _ ?_
    refine Sm.seqK fun K23 hK23 => ?_
    refine Sm.condK (by rfl) fun Ka Kb ha hb => ?_
    simp only [wpCond, z, seval, enqueue_Check_t4]
    refine ⟨fun h24 => ha ?_, fun h24 => hb ?_⟩
    · first | replace H := bif_t h24 H | replace H := bif_t2 h24 H (by simp only [List.length_append])
      refine Sm.skip ?_
      refine hK23 _ ?_
      refine Sm.seqK fun K25 hK25 => ?_
      refine Sm.block ?_
      obtain ⟨hg34, H⟩ := gd_some H
      refine Sm.seqA h00 mixed hΓ (by kernel_rfl) fun K26 hK26 => ?_
      simp only [rs]
      repeat (refine opsG fun K hK => ?_; simp only [z, seval, enqueue_Check_t4]; (repeat (first | refine gcI ?_ | refine fun (_ : _ ≤ _) => ?_)); refine hK _ ?_; clear hK K)
      refine hK26 _ ?_
      refine Sm.seqK fun K27 hK27 => ?_
      obtain ⟨⟨hg31, hg32, hg33⟩, H⟩ := gd_some H
      refine Sm.seqD h00 mixed hΓ (by kernel_rfl) fun K28 hK28 => ?_
      simp only [rs]
      repeat (refine opsH fun K hK => ?_; simp only [z, seval, enqueue_Check_t4, xenqueue_Request__normal, xenqueue_Request__blocked]; (repeat (first | refine gcI ?_ | refine fun (_ : _ ≤ _) => ?_)); refine hK _ ?_; clear hK K)
      refine hK28 _ ?_
      refine Sm.condK (by rfl) fun Ka Kb ha hb => ?_
      simp only [wpCond, z, seval, enqueue_Check_t4]
      refine ⟨fun h29 => ha ?_, fun h29 => hb ?_⟩
      · first | replace H := bif_t h29 H | replace H := bif_t2 h29 H (by simp only [List.length_append])
        refine Sm.seqA h00 mixed hΓ (by kernel_rfl) fun K30 hK30 => ?_
        simp only [rs]
        repeat (refine opsG fun K hK => ?_; simp only [z, seval, enqueue_Check_t4]; (repeat (first | refine gcI ?_ | refine fun (_ : _ ≤ _) => ?_)); refine hK _ ?_; clear hK K)
        refine hK30 _ ?_
        refine Sm.ret ?_
        try simp only [seval, Exit.exit.injEq]
        refine ⟨⟨_, (Option.some.inj H).symm⟩, fun hz => ?_⟩
        have hyy := Sum.inr.inj ((Option.some.inj H).trans hz)
        subst hyy
        have H := Ho21
        try dsimp only at H
        try simp only [seval, Exit.exit.injEq]
        obtain rfl := Option.some.inj H
        refine Ret.ofR [] (.inr rfl) ?_
        simp only [z, seval, enqueue_Check_t4]
      first | replace H := bif_f h29 H | replace H := bif_f2 h29 H (by simp only [List.length_append])
      refine Sm.skip ?_
      refine hK27 _ ?_
      refine Sm.regA h00 mixed hΓ (by kernel_rfl) ?_
      simp only [rs]
      repeat (refine opsG fun K hK => ?_; simp only [z, seval, enqueue_Check_t4]; (repeat (first | refine gcI ?_ | refine fun (_ : _ ≤ _) => ?_)); refine hK _ ?_; clear hK K)
      refine opsG0 ?_
      refine hK25 _ ?_
      refine Sm.regA h00 mixed hΓ (by kernel_rfl) ?_
      simp only [rs]
      repeat (refine opsG fun K hK => ?_; simp only [z, seval, enqueue_Check_t4]; (repeat (first | refine gcI ?_ | refine fun (_ : _ ≤ _) => ?_)); refine hK _ ?_; clear hK K)
      refine opsG0 ?_
      try simp only [seval, Exit.exit.injEq]
      refine ⟨(_, _), (Option.some.inj H).symm, ?_⟩
      exact weak_b [some 9008, some 9009] rfl rfl rfl (by simp only [wk, z, seval, enqueue_Check_t4]) (by simp only [wk, z, seval, enqueue_Check_t4])
    first | replace H := bif_f h24 H | replace H := bif_f2 h24 H (by simp only [List.length_append])
    refine Sm.exit ?_
    try simp only [seval, Exit.exit.injEq]
    refine ⟨⟨_, (Option.some.inj H).symm⟩, fun hz => ?_⟩
    have hyy := Sum.inr.inj ((Option.some.inj H).trans hz)
    subst hyy
    have H := Ho21
    try dsimp only at H
    try simp only [seval, Exit.exit.injEq]
    refine ⟨_, H, ?_⟩
    exact weak_b [some 9008, some 9009] rfl rfl rfl (by simp only [wk, z, seval, enqueue_Check_t4]) (by simp only [wk, z, seval, enqueue_Check_t4])
  rintro seen H
  try dsimp only at H
  unfold enqueue_Check_k1 at H
  refine Sm.cut (fun (x : Unit) => enqueue_Check_s2) (fun x => enqueue_Check_k2 n = some r) ?_ ?_
  · refine Sm.seqA h00 mixed hΓ (by kernel_rfl) fun K4 hK4 => ?_
    simp only [rs]
    repeat (refine opsG fun K hK => ?_; simp only [z, seval, enqueue_Check_s1]; (repeat (first | refine gcI ?_ | refine fun (_ : _ ≤ _) => ?_)); refine hK _ ?_; clear hK K)
    refine hK4 _ ?_
    refine Sm.block ?_
    obtain ⟨y5, hy5, Ho5⟩ := bind_some H
    refine Sm.loopB (fun (x : (List (Int × Bool)) × Int) => enqueue_Check_b3 n t (t.Waiting.length : Int) x.1 x.2) (fun x => enqueue_Check_t3 t (t.Waiting.length : Int) x.1 x.2) hy5 ?_ ?_
    · exact weak_b [some 9000, some 9001] rfl rfl rfl (by simp only [wk, z, seval, enqueue_Check_s1]) (by simp only [wk, z, seval, enqueue_Check_s1])
    rintro ⟨seen, v41⟩ z5 H
    try dsimp only at H
    unfold enqueue_Check_b3 at H
    refine Sm.seqA h00 mixed hΓ (by kernel_rfl) fun K6 hK6 => ?_
    simp only [rs]
    repeat (refine opsG fun K hK => ?_; simp only [z, seval, enqueue_Check_t3]; (repeat (first | refine gcI ?_ | refine fun (_ : _ ≤ _) => ?_)); refine hK _ ?_; clear hK K)
    refine hK6 _ ?_
    refine Sm.seqK fun K7 hK7 => ?_
    refine Sm.condK (by rfl) fun Ka Kb ha hb => ?_
    simp only [wpCond, z, seval, enqueue_Check_t3]
    refine ⟨fun h8 => ha ?_, fun h8 => hb ?_⟩
    · first | replace H := bif_t h8 H | replace H := bif_t2 h8 H (by simp only [List.length_append])
      refine Sm.skip ?_
      refine hK7 _ ?_
      refine Sm.seqK fun K9 hK9 => ?_
      refine Sm.block ?_
      obtain ⟨hg19, H⟩ := gd_some H
      refine Sm.seqA h00 mixed hΓ (by kernel_rfl) fun K10 hK10 => ?_
      simp only [rs]
      repeat (refine opsG fun K hK => ?_; simp only [z, seval, enqueue_Check_t3]; (repeat (first | refine gcI ?_ | refine fun (_ : _ ≤ _) => ?_)); refine hK _ ?_; clear hK K)
      refine hK10 _ ?_
      refine Sm.seqK fun K11 hK11 => ?_
      obtain ⟨⟨hg15, hg16, hg17, hg18⟩, H⟩ := gd_some H
      refine Sm.seqD h00 mixed hΓ (by kernel_rfl) fun K12 hK12 => ?_
      simp only [rs]
      repeat (refine opsH fun K hK => ?_; simp only [z, seval, enqueue_Check_t3, xenqueue_Request__normal, xenqueue_Request__blocked]; (repeat (first | refine gcI ?_ | refine fun (_ : _ ≤ _) => ?_)); refine hK _ ?_; clear hK K)
      refine hK12 _ ?_
      refine Sm.condK (by rfl) fun Ka Kb ha hb => ?_
      simp only [wpCond, z, seval, enqueue_Check_t3]
      refine ⟨fun h13 => ha ?_, fun h13 => hb ?_⟩
      · first | replace H := bif_t h13 H | replace H := bif_t2 h13 H (by simp only [List.length_append])
        refine Sm.seqA h00 mixed hΓ (by kernel_rfl) fun K14 hK14 => ?_
        simp only [rs]
        repeat (refine opsG fun K hK => ?_; simp only [z, seval, enqueue_Check_t3]; (repeat (first | refine gcI ?_ | refine fun (_ : _ ≤ _) => ?_)); refine hK _ ?_; clear hK K)
        refine hK14 _ ?_
        refine Sm.ret ?_
        try simp only [seval, Exit.exit.injEq]
        refine ⟨⟨_, (Option.some.inj H).symm⟩, fun hz => ?_⟩
        have hyy := Sum.inr.inj ((Option.some.inj H).trans hz)
        subst hyy
        have H := Ho5
        try dsimp only at H
        try simp only [seval, Exit.exit.injEq]
        obtain rfl := Option.some.inj H
        refine Ret.ofR [] (.inr rfl) ?_
        simp only [z, seval, enqueue_Check_t3]
      first | replace H := bif_f h13 H | replace H := bif_f2 h13 H (by simp only [List.length_append])
      refine Sm.skip ?_
      refine hK11 _ ?_
      refine Sm.regA h00 mixed hΓ (by kernel_rfl) ?_
      simp only [rs]
      repeat (refine opsG fun K hK => ?_; simp only [z, seval, enqueue_Check_t3]; (repeat (first | refine gcI ?_ | refine fun (_ : _ ≤ _) => ?_)); refine hK _ ?_; clear hK K)
      refine opsG0 ?_
      refine hK9 _ ?_
      refine Sm.regA h00 mixed hΓ (by kernel_rfl) ?_
      simp only [rs]
      repeat (refine opsG fun K hK => ?_; simp only [z, seval, enqueue_Check_t3]; (repeat (first | refine gcI ?_ | refine fun (_ : _ ≤ _) => ?_)); refine hK _ ?_; clear hK K)
      refine opsG0 ?_
      try simp only [seval, Exit.exit.injEq]
      refine ⟨(_, _), (Option.some.inj H).symm, ?_⟩
      exact weak_b [some 9004, some 9005] rfl rfl rfl (by simp only [wk, z, seval, enqueue_Check_t3]) (by simp only [wk, z, seval, enqueue_Check_t3])
    first | replace H := bif_f h8 H | replace H := bif_f2 h8 H (by simp only [List.length_append])
    refine Sm.exit ?_
    try simp only [seval, Exit.exit.injEq]
    refine ⟨⟨_, (Option.some.inj H).symm⟩, fun hz => ?_⟩
    have hyy := Sum.inr.inj ((Option.some.inj H).trans hz)
    subst hyy
    have H := Ho5
    try dsimp only at H
    try simp only [seval, Exit.exit.injEq]
    refine ⟨(), H, ?_⟩
    exact weak_b [] rfl rfl rfl (by simp only [wk, z, seval, enqueue_Check_t3]) (by simp only [wk, z, seval, enqueue_Check_t3])
  rintro ⟨⟩ H
  try dsimp only at H
  unfold enqueue_Check_k2 at H
  refine Sm.seqA h00 mixed hΓ (by kernel_rfl) fun K3 hK3 => ?_
  simp only [rs]
  repeat (refine opsG fun K hK => ?_; simp only [z, seval, enqueue_Check_s2]; (repeat (first | refine gcI ?_ | refine fun (_ : _ ≤ _) => ?_)); refine hK _ ?_; clear hK K)
  refine hK3 _ ?_
  refine Sm.ret ?_
  try simp only [seval, Exit.exit.injEq]
  obtain rfl := Option.some.inj H
  refine Ret.ofR [] (.inr rfl) ?_
  simp only [z, seval, enqueue_Check_s2]

def enqueue_index_1_M1 (n : Nat) (r_ : TRequest) (p1 : Int) : Option Bool :=
  some (r_.Job == p1)

theorem cenqueue_index_1_M1 (n : Nat) (r_ : TRequest) (p1 : Int) (r : Bool) (H : enqueue_index_1_M1 n r_ p1 = some r) : CallsM Try.prog 58 [.dat (true, [.int .i64, .slice 92]) [.int r_.Job, .slice (List.map e_TWant r_.Wants)], .ref (.box 0 0)] [.box [.c (.int .i64) (.int p1)]] [.c .bool (.bool r)] [.box [.c (.int .i64) (.int p1)]] := by
  have hΓ : ∀ g, g ∈ ([] : List Go.AE.Fn) → Contract Try.prog g := by simp
  refine callsM_of (Try.f58.body.getD .skip) h00 Try.func58 rfl (by intro args w; exact Try.call58 args w) (Nat.le_of_ble_eq_true rfl) (Nat.le_of_ble_eq_true rfl) ?_
  unfold enqueue_index_1_M1 at H
  simp only [Try.f58, Option.getD]
  refine Sm.seqA h00 mixed hΓ (by kernel_rfl) fun K1 hK1 => ?_
  simp only [rs]
  repeat (refine opsG fun K hK => ?_; simp only [z, seval]; (repeat (first | refine gcI ?_ | refine fun (_ : _ ≤ _) => ?_)); refine hK _ ?_; clear hK K)
  refine hK1 _ ?_
  refine Sm.seqA h00 mixed hΓ (by kernel_rfl) fun K2 hK2 => ?_
  simp only [rs]
  repeat (refine opsG fun K hK => ?_; simp only [z, seval]; (repeat (first | refine gcI ?_ | refine fun (_ : _ ≤ _) => ?_)); refine hK _ ?_; clear hK K)
  refine hK2 _ ?_
  refine Sm.ret ?_
  try simp only [seval, Exit.exit.injEq]
  obtain rfl := Option.some.inj H
  refine RetM.mk (.inr rfl) [some 0] rfl ?_
  simp only [z, seval]

abbrev slices_IndexFunc_f57_M2_s1 (f : Int) : S := stB [] [(0, .box [.c (.int .i64) (.int f)])]

def slices_IndexFunc_f57_M2_k1 (n : Nat) (f : Int) : Option Int :=
  some (-1)

abbrev slices_IndexFunc_f57_M2_t2 (f : Int) (s : List TRequest) (v7 : Int) (v8 : Int) : S := stB [(0, .c (.slice 61) (.slice (List.map e_TRequest s))), (1, .fnv 58 [.box 0 0]), (7, .c (.int .i64) (.int v7)), (8, .c (.int .i64) (.int v8))] [(0, .box [.c (.int .i64) (.int f)])]

def slices_IndexFunc_f57_M2_b2 (n : Nat) (f : Int) (s : List TRequest) (v7 : Int) (v8 : Int) : Option ((Int) ⊕ (((Int) ⊕ (Unit)))) :=
  bif (decide (v8 < v7)) then
    gd ((0 ≤ v8 ∧ v8 < (s.length : Int))) <|
    (enqueue_index_1_M1 n (gt s (Int.toNat v8)) f).bind fun r1 =>
    bif r1 then
      some (.inr (.inl v8))
    else
      some (.inl (IntKind.wrap .i64 (v8 + 1)))
  else
    some (.inr (.inr ()))

def slices_IndexFunc_f57_M2 (n : Nat) (s : List TRequest) (f : Int) : Option Int :=
  (loopF (fun (x : Int) => slices_IndexFunc_f57_M2_b2 n f s (s.length : Int) x) n 0).bind fun y4 =>
  match y4 with
  | .inl v =>
    some v
  | .inr v =>
    slices_IndexFunc_f57_M2_k1 n f

theorem cslices_IndexFunc_f57_M2 (n : Nat) (s : List TRequest) (f : Int) (r : Int) (H : slices_IndexFunc_f57_M2 n s f = some r) : CallsM Try.prog 57 [.dat (false, [.slice 61]) [.slice (List.map e_TRequest s)], .ref (.fnv 58 [.box 0 0])] [.box [.c (.int .i64) (.int f)]] [.c (.int .i64) (.int r)] [.box [.c (.int .i64) (.int f)]] := by
  have hΓ : ∀ g, g ∈ ([] : List Go.AE.Fn) → Contract Try.prog g := by simp
  refine callsM_of (Try.f57.body.getD .skip) h00 Try.func57 rfl (by intro args w; exact Try.call57 args w) (Nat.le_of_ble_eq_true rfl) (Nat.le_of_ble_eq_true rfl) ?_
  unfold slices_IndexFunc_f57_M2 at H
  simp only [Try.f57, Option.getD]
  refine Sm.seqA h00 mixed hΓ (by kernel_rfl) fun K1 hK1 => ?_
  simp only [rs]
  repeat (refine opsG fun K hK => ?_; simp only [z, seval]; (repeat (first | refine gcI ?_ | refine fun (_ : _ ≤ _) => ?_)); refine hK _ ?_; clear hK K)
  refine hK1 _ ?_
  refine Sm.cut (fun (x : Unit) => slices_IndexFunc_f57_M2_s1 f) (fun x => slices_IndexFunc_f57_M2_k1 n f = some r) ?_ ?_
  · refine Sm.seqA h00 mixed hΓ (by kernel_rfl) fun K3 hK3 => ?_
    simp only [rs]
    repeat (refine opsG fun K hK => ?_; simp only [z, seval]; (repeat (first | refine gcI ?_ | refine fun (_ : _ ≤ _) => ?_)); refine hK _ ?_; clear hK K)
    refine hK3 _ ?_
    refine Sm.block ?_
    obtain ⟨y4, hy4, Ho4⟩ := bind_some H
    refine Sm.loopB (fun (x : Int) => slices_IndexFunc_f57_M2_b2 n f s (s.length : Int) x) (fun x => slices_IndexFunc_f57_M2_t2 f s (s.length : Int) x) hy4 ?_ ?_
    · exact weak_b [some 0] rfl rfl rfl (by simp only [wk, z, seval]) (by simp only [wk, z, seval])
    rintro v8 z4 H
    try dsimp only at H
    unfold slices_IndexFunc_f57_M2_b2 at H
    refine Sm.seqA h00 mixed hΓ (by kernel_rfl) fun K5 hK5 => ?_
    simp only [rs]
    repeat (refine opsG fun K hK => ?_; simp only [z, seval, slices_IndexFunc_f57_M2_t2]; (repeat (first | refine gcI ?_ | refine fun (_ : _ ≤ _) => ?_)); refine hK _ ?_; clear hK K)
    refine hK5 _ ?_
    refine Sm.seqK fun K6 hK6 => ?_
    refine Sm.condK (by rfl) fun Ka Kb ha hb => ?_
    simp only [wpCond, z, seval, slices_IndexFunc_f57_M2_t2]
    refine ⟨fun h7 => ha ?_, fun h7 => hb ?_⟩
    · first | replace H := bif_t h7 H | replace H := bif_t2 h7 H (by simp only [List.length_append])
      refine Sm.skip ?_
      refine hK6 _ ?_
      refine Sm.seqK fun K8 hK8 => ?_
      refine Sm.block ?_
      refine Sm.seqA h00 mixed hΓ (by kernel_rfl) fun K9 hK9 => ?_
      simp only [rs]
      repeat (refine opsG fun K hK => ?_; simp only [z, seval, slices_IndexFunc_f57_M2_t2]; (repeat (first | refine gcI ?_ | refine fun (_ : _ ≤ _) => ?_)); refine hK _ ?_; clear hK K)
      refine hK9 _ ?_
      refine Sm.seqX h00 mixed hΓ (by kernel_rfl) fun K10 hK10 => ?_
      simp only [rs]
      obtain ⟨hg11, H⟩ := gd_some H
      obtain ⟨r1, hr1, H⟩ := bind_some H
      iterate 5 (refine opsX fun K hK => ?_; simp only [z, seval, slices_IndexFunc_f57_M2_t2]; (repeat (first | refine gcI ?_ | refine fun (_ : _ ≤ _) => ?_)); refine hK _ ?_; clear hK K)
      refine opsM (cenqueue_index_1_M1 n _ _ r1 hr1) [0] [] (by simp only [z, seval, slices_IndexFunc_f57_M2_t2, hr1]; try rfl) (by simp only [z, seval, slices_IndexFunc_f57_M2_t2, hr1]) (by simp only [z, seval, slices_IndexFunc_f57_M2_t2, hr1]) (by simp only [z, seval, slices_IndexFunc_f57_M2_t2, hr1]) (by simp only [z, seval, slices_IndexFunc_f57_M2_t2, hr1]) rfl (by simp only [z, seval, slices_IndexFunc_f57_M2_t2, hr1]) rfl ?_
      refine hK10 _ ?_
      refine Sm.condK (by rfl) fun Ka Kb ha hb => ?_
      simp only [wpCond, z, seval, slices_IndexFunc_f57_M2_t2]
      refine ⟨fun h12 => ha ?_, fun h12 => hb ?_⟩
      · first | replace H := bif_t h12 H | replace H := bif_t2 h12 H (by simp only [List.length_append])
        refine Sm.seqA h00 mixed hΓ (by kernel_rfl) fun K13 hK13 => ?_
        simp only [rs]
        repeat (refine opsG fun K hK => ?_; simp only [z, seval, slices_IndexFunc_f57_M2_t2]; (repeat (first | refine gcI ?_ | refine fun (_ : _ ≤ _) => ?_)); refine hK _ ?_; clear hK K)
        refine hK13 _ ?_
        refine Sm.ret ?_
        try simp only [seval, Exit.exit.injEq]
        refine ⟨⟨_, (Option.some.inj H).symm⟩, fun hz => ?_⟩
        have hyy := Sum.inr.inj ((Option.some.inj H).trans hz)
        subst hyy
        have H := Ho4
        try dsimp only at H
        try simp only [seval, Exit.exit.injEq]
        obtain rfl := Option.some.inj H
        refine RetM.mk (.inr rfl) [some 0] rfl ?_
        simp only [z, seval, slices_IndexFunc_f57_M2_t2]
      first | replace H := bif_f h12 H | replace H := bif_f2 h12 H (by simp only [List.length_append])
      refine Sm.skip ?_
      refine hK8 _ ?_
      refine Sm.regA h00 mixed hΓ (by kernel_rfl) ?_
      simp only [rs]
      repeat (refine opsG fun K hK => ?_; simp only [z, seval, slices_IndexFunc_f57_M2_t2]; (repeat (first | refine gcI ?_ | refine fun (_ : _ ≤ _) => ?_)); refine hK _ ?_; clear hK K)
      refine opsG0 ?_
      try simp only [seval, Exit.exit.injEq]
      refine ⟨_, (Option.some.inj H).symm, ?_⟩
      exact weak_b [some 0] rfl rfl rfl (by simp only [wk, z, seval, slices_IndexFunc_f57_M2_t2]) (by simp only [wk, z, seval, slices_IndexFunc_f57_M2_t2])
    first | replace H := bif_f h7 H | replace H := bif_f2 h7 H (by simp only [List.length_append])
    refine Sm.exit ?_
    try simp only [seval, Exit.exit.injEq]
    refine ⟨⟨_, (Option.some.inj H).symm⟩, fun hz => ?_⟩
    have hyy := Sum.inr.inj ((Option.some.inj H).trans hz)
    subst hyy
    have H := Ho4
    try dsimp only at H
    try simp only [seval, Exit.exit.injEq]
    refine ⟨(), H, ?_⟩
    exact weak_b [some 0] rfl rfl rfl (by simp only [wk, z, seval, slices_IndexFunc_f57_M2_t2]) (by simp only [wk, z, seval, slices_IndexFunc_f57_M2_t2])
  rintro ⟨⟩ H
  try dsimp only at H
  unfold slices_IndexFunc_f57_M2_k1 at H
  refine Sm.seqA h00 mixed hΓ (by kernel_rfl) fun K2 hK2 => ?_
  simp only [rs]
  repeat (refine opsG fun K hK => ?_; simp only [z, seval, slices_IndexFunc_f57_M2_s1]; (repeat (first | refine gcI ?_ | refine fun (_ : _ ≤ _) => ?_)); refine hK _ ?_; clear hK K)
  refine hK2 _ ?_
  refine Sm.ret ?_
  try simp only [seval, Exit.exit.injEq]
  obtain rfl := Option.some.inj H
  refine RetM.mk (.inr rfl) [some 0] rfl ?_
  simp only [z, seval, slices_IndexFunc_f57_M2_s1]

def enqueue_index (n : Nat) (l : List TRequest) (job : Int) : Option Int :=
  (slices_IndexFunc_f57_M2 n l job).bind fun r1 =>
  some r1

def xenqueue_index (n : Nat) : Go.AE.Fn := mkFn (A := (List TRequest) × Int) (R := Int) 35 [(false, [.slice 61]), (false, [.int .i64])] false (fun xs => (((cg (xs.getD 0 []) 0).toSl.map d_TRequest), (cg (xs.getD 1 []) 0).toInt)) (fun a => [[.slice (List.map e_TRequest a.1)], [.int a.2]]) (fun a => enqueue_index n a.1 a.2) (fun r => [.c (.int .i64) (.int r)]) (fun r => [])

theorem cenqueue_index (n : Nat) : Contract Try.prog (xenqueue_index n) := by
  have hΓ : ∀ g, g ∈ ([] : List Go.AE.Fn) → Contract Try.prog g := by simp
  refine contract_f (Try.f35.body.getD .skip) h00 Try.func35 rfl (by intro args w; exact Try.call35 args w) (by decide) (by intro _ r; exact ⟨rfl, by simp⟩) ?_
  rintro ⟨l, job⟩ r H
  try dsimp only at H
  unfold enqueue_index at H
  simp only [Try.f35, Option.getD]
  refine Sm.seqA h00 mixed hΓ (by kernel_rfl) fun K1 hK1 => ?_
  simp only [rs]
  repeat (refine opsG fun K hK => ?_; simp only [z, seval]; (repeat (first | refine gcI ?_ | refine fun (_ : _ ≤ _) => ?_)); refine hK _ ?_; clear hK K)
  refine hK1 _ ?_
  refine Sm.seqX h00 mixed hΓ (by kernel_rfl) fun K2 hK2 => ?_
  simp only [rs]
  obtain ⟨r1, hr1, H⟩ := bind_some H
  (refine opsX fun K hK => ?_; simp only [z, seval]; (repeat (first | refine gcI ?_ | refine fun (_ : _ ≤ _) => ?_)); refine hK _ ?_; clear hK K)
  refine opsY fun K hK => ?_; simp only [z, seval]; (repeat (first | refine gcI ?_ | refine fun (_ : _ ≤ _) => ?_)); refine hK _ ?_; clear hK K
  refine opsM (cslices_IndexFunc_f57_M2 n _ _ r1 hr1) [48] [] (by simp only [z, seval, hr1]; try rfl) (by simp only [z, seval, hr1]) (by simp only [z, seval, hr1]) (by simp only [z, seval, hr1]) (by simp only [z, seval, hr1]) rfl (by simp only [z, seval, hr1]) rfl ?_
  (refine opsX fun K hK => ?_; simp only [z, seval, hr1]; (repeat (first | refine gcI ?_ | refine fun (_ : _ ≤ _) => ?_)); refine hK _ ?_; clear hK K)
  refine hK2 _ ?_
  refine Sm.ret ?_
  try simp only [seval, Exit.exit.injEq]
  obtain rfl := Option.some.inj H
  refine Ret.ofR [] (.inr rfl) ?_
  simp only [z, seval]

def slices_SortFunc_f67_c68 (n : Nat) (s : List TWant) : Option (List TWant) := sortG (fun x y => enqueue_normalize_1 n x y) s

theorem cslices_SortFunc_f67_c68 (n : Nat) (s : List TWant) (r : List TWant) (H : slices_SortFunc_f67_c68 n s = some r) : CallsM Try.prog 67 [.ref (.own 0 [.str, .bool] 0 s.length), .ref (.fnv 68 [])] [.row 92 (List.map e_TWant s)] [] [.row 92 (List.map e_TWant r)] :=
  callsM_sortG lay67 ty92 Try.isAgg92 Try.sizeOf92 (by decide) (by decide) (by intro args w; exact Try.call68 args w) e_TWant (fun _ => rfl) (fun x y => enqueue_normalize_1 n x y) (fun x y c h => raw68 x y c h) s r H

abbrev enqueue_normalize_s2 (out : List TWant) : S := stB [(6, .own 9001 [.str, .bool] 0 out.length)] [(9001, .row 92 (List.map e_TWant out))]

def enqueue_normalize_k2 (n : Nat) (out : List TWant) : Option (List TWant) :=
  (slices_SortFunc_f67_c68 n out).bind fun r1 =>
  some (List.take out.length r1)

abbrev enqueue_normalize_t3 (out : List TWant) (rest : List (List UInt8 × Bool)) : S := stB [(6, .own 9005 [.str, .bool] 0 out.length), (29, .mref 9006)] [(9005, .row 92 (List.map e_TWant out)), (9006, .it .str (false, [.bool]) none (List.map em_Str_Bool rest))]

def enqueue_normalize_b3 (n : Nat) (out : List TWant) (oo : Option ((List UInt8) × Bool)) : Option (((List TWant)) ⊕ (((List TWant)))) :=
  match oo with
  | none =>
    some (.inr out)
  | some e9 =>
    gd ((out.length + 1) ≤ 2147483648) <|
    some (.inl (out ++ [(⟨e9.1, e9.2⟩ : TWant)]))

abbrev enqueue_normalize_s1 (exclusive : List (List UInt8 × Bool)) : S := stB [(3, .mref 9000)] [(9000, .mp .str (false, [.bool]) (List.map em_Str_Bool exclusive))]

def enqueue_normalize_k1 (n : Nat) (exclusive : List (List UInt8 × Bool)) : Option (List TWant) :=
  allP exclusive fun q => (loopE (fun (x : (List TWant)) oo => enqueue_normalize_b3 n x oo) n [] q).bind fun y7 =>
  enqueue_normalize_k2 n y7

abbrev enqueue_normalize_t4 (l : List TWant) (v11 : Int) (exclusive : List (List UInt8 × Bool)) (v12 : Int) : S := stB [(3, .mref 9008), (10, .c (.slice 92) (.slice (List.map e_TWant l))), (11, .c (.int .i64) (.int v11)), (12, .c (.int .i64) (.int v12))] [(9008, .mp .str (false, [.bool]) (List.map em_Str_Bool exclusive))]

def enqueue_normalize_b4 (n : Nat) (l : List TWant) (v11 : Int) (exclusive : List (List UInt8 × Bool)) (v12 : Int) : Option (((List (List UInt8 × Bool)) × Int) ⊕ (((List (List UInt8 × Bool))))) :=
  bif (decide (v12 < v11)) then
    gd ((0 ≤ v12 ∧ v12 < (l.length : Int))) <|
    some (.inl ((tset ((gt l (Int.toNat v12)).Name) (if ((tget ((gt l (Int.toNat v12)).Name) exclusive).getD default) = true then true else (gt l (Int.toNat v12)).Exclusive) exclusive), (IntKind.wrap .i64 (v12 + 1))))
  else
    some (.inr exclusive)

def enqueue_normalize (n : Nat) (l : List TWant) : Option (List TWant) :=
  (loopF (fun (x : (List (List UInt8 × Bool)) × Int) => enqueue_normalize_b4 n l (l.length : Int) x.1 x.2) n ([], 0)).bind fun y17 =>
  enqueue_normalize_k1 n y17

def xenqueue_normalize (n : Nat) : Go.AE.Fn := mkFn (A := (List TWant)) (R := (List TWant)) 43 [(false, [.slice 92])] true (fun xs => ((cg (xs.getD 0 []) 0).toSl.map d_TWant)) (fun a => [[.slice (List.map e_TWant a)]]) (fun a => enqueue_normalize n a) (fun r => [.c (.slice 92) (.slice (List.map e_TWant r))]) (fun r => [])

theorem cenqueue_normalize (n : Nat) : Contract Try.prog (xenqueue_normalize n) := by
  have hΓ : ∀ g, g ∈ ([] : List Go.AE.Fn) → Contract Try.prog g := by simp
  refine contract_f (Try.f43.body.getD .skip) h00 Try.func43 rfl (by intro args w; exact Try.call43 args w) (by decide) (by intro h; cases h) ?_
  rintro l r H
  try dsimp only at H
  unfold enqueue_normalize at H
  simp only [Try.f43, Option.getD]
  refine Sm.seqA h00 mixed hΓ (by kernel_rfl) fun K1 hK1 => ?_
  simp only [rs]
  repeat (refine opsG fun K hK => ?_; simp only [z, seval]; (repeat (first | refine gcI ?_ | refine fun (_ : _ ≤ _) => ?_)); refine hK _ ?_; clear hK K)
  refine hK1 _ ?_
  refine Sm.seqA h00 mixed hΓ (by kernel_rfl) fun K2 hK2 => ?_
  simp only [rs]
  repeat (refine opsG fun K hK => ?_; simp only [z, seval]; (repeat (first | refine gcI ?_ | refine fun (_ : _ ≤ _) => ?_)); refine hK _ ?_; clear hK K)
  refine hK2 _ ?_
  refine Sm.cut (fun (x : (List (List UInt8 × Bool))) => enqueue_normalize_s1 x) (fun x => enqueue_normalize_k1 n x = some r) ?_ ?_
  · refine Sm.seqA h00 mixed hΓ (by kernel_rfl) fun K16 hK16 => ?_
    simp only [rs]
    repeat (refine opsG fun K hK => ?_; simp only [z, seval]; (repeat (first | refine gcI ?_ | refine fun (_ : _ ≤ _) => ?_)); refine hK _ ?_; clear hK K)
    refine hK16 _ ?_
    refine Sm.block ?_
    obtain ⟨y17, hy17, Ho17⟩ := bind_some H
    refine Sm.loopB (fun (x : (List (List UInt8 × Bool)) × Int) => enqueue_normalize_b4 n l (l.length : Int) x.1 x.2) (fun x => enqueue_normalize_t4 l (l.length : Int) x.1 x.2) hy17 ?_ ?_
    · exact weak_b [some 144] rfl rfl rfl (by simp only [wk, z, seval]) (by simp only [wk, z, seval])
    rintro ⟨exclusive, v12⟩ z17 H
    try dsimp only at H
    unfold enqueue_normalize_b4 at H
    refine Sm.seqA h00 mixed hΓ (by kernel_rfl) fun K18 hK18 => ?_
    simp only [rs]
    repeat (refine opsG fun K hK => ?_; simp only [z, seval, enqueue_normalize_t4]; (repeat (first | refine gcI ?_ | refine fun (_ : _ ≤ _) => ?_)); refine hK _ ?_; clear hK K)
    refine hK18 _ ?_
    refine Sm.seqK fun K19 hK19 => ?_
    refine Sm.condK (by rfl) fun Ka Kb ha hb => ?_
    simp only [wpCond, z, seval, enqueue_normalize_t4]
    refine ⟨fun h20 => ha ?_, fun h20 => hb ?_⟩
    · first | replace H := bif_t h20 H | replace H := bif_t2 h20 H (by simp only [List.length_append])
      refine Sm.skip ?_
      refine hK19 _ ?_
      refine Sm.seqK fun K21 hK21 => ?_
      refine Sm.block ?_
      obtain ⟨hg23, H⟩ := gd_some H
      refine Sm.seqA h00 mixed hΓ (by kernel_rfl) fun K22 hK22 => ?_
      simp only [rs]
      repeat (refine opsG fun K hK => ?_; simp only [z, seval, enqueue_normalize_t4]; (repeat (first | refine gcI ?_ | refine fun (_ : _ ≤ _) => ?_)); refine hK _ ?_; clear hK K)
      refine hK22 _ ?_
      refine Sm.regA h00 mixed hΓ (by kernel_rfl) ?_
      simp only [rs]
      repeat (refine opsG fun K hK => ?_; simp only [z, seval, enqueue_normalize_t4]; (repeat (first | refine gcI ?_ | refine fun (_ : _ ≤ _) => ?_)); refine hK _ ?_; clear hK K)
      refine opsG0 ?_
      refine hK21 _ ?_
      refine Sm.regA h00 mixed hΓ (by kernel_rfl) ?_
      simp only [rs]
      repeat (refine opsG fun K hK => ?_; simp only [z, seval, enqueue_normalize_t4]; (repeat (first | refine gcI ?_ | refine fun (_ : _ ≤ _) => ?_)); refine hK _ ?_; clear hK K)
      refine opsG0 ?_
      try simp only [seval, Exit.exit.injEq]
      refine ⟨(_, _), (Option.some.inj H).symm, ?_⟩
      exact weak_b [some 9008] rfl rfl rfl (by simp only [wk, z, seval, enqueue_normalize_t4]) (by simp only [wk, z, seval, enqueue_normalize_t4])
    first | replace H := bif_f h20 H | replace H := bif_f2 h20 H (by simp only [List.length_append])
    refine Sm.exit ?_
    try simp only [seval, Exit.exit.injEq]
    refine ⟨⟨_, (Option.some.inj H).symm⟩, fun hz => ?_⟩
    have hyy := Sum.inr.inj ((Option.some.inj H).trans hz)
    subst hyy
    have H := Ho17
    try dsimp only at H
    try simp only [seval, Exit.exit.injEq]
    refine ⟨_, H, ?_⟩
    exact weak_b [some 9008] rfl rfl rfl (by simp only [wk, z, seval, enqueue_normalize_t4]) (by simp only [wk, z, seval, enqueue_normalize_t4])
  rintro exclusive H
  try dsimp only at H
  unfold enqueue_normalize_k1 at H
  refine Sm.seqA h00 mixed hΓ (by kernel_rfl) fun K3 hK3 => ?_
  simp only [rs]
  repeat (refine opsG fun K hK => ?_; simp only [z, seval, enqueue_normalize_s1]; (repeat (first | refine gcI ?_ | refine fun (_ : _ ≤ _) => ?_)); refine hK _ ?_; clear hK K)
  refine hK3 _ ?_
  refine Sm.cut (fun (x : (List TWant)) => enqueue_normalize_s2 x) (fun x => enqueue_normalize_k2 n x = some r) ?_ ?_
  · refine Sm.seqX h00 mixed hΓ (by kernel_rfl) fun K6 hK6 => ?_
    simp only [rs]
    (refine opsX fun K hK => ?_; simp only [z, seval, enqueue_normalize_s1]; (repeat (first | refine gcI ?_ | refine fun (_ : _ ≤ _) => ?_)); refine hK _ ?_; clear hK K)
    refine opsE stepZ_ok fun K hK => ?_; simp only [z, seval, enqueue_normalize_s1]; (repeat (first | refine gcI ?_ | refine fun (_ : _ ≤ _) => ?_)); refine hK _ ?_; clear hK K
    refine hK6 _ ?_
    refine Sm.block ?_
    refine Sm.loopE (fun (x : (List TWant)) oo => enqueue_normalize_b3 n x oo) (fun x l => enqueue_normalize_t3 x l) _ (allP_some H) ?_ ?_
    · exact weak_b [none, some 464] rfl rfl rfl (by simp only [wk, z, seval, enqueue_normalize_s1]) (by simp only [wk, z, seval, enqueue_normalize_s1])
    rintro out rest hdef_b3
    refine Sm.seqX h00 mixed hΓ (by kernel_rfl) fun K8 hK8 => ?_
    simp only [rs]
    refine opsE (stepLT_ok em_Str_Bool rest) fun K hK => ?_; simp only [z, seval, enqueue_normalize_t3]; (repeat (first | refine gcI ?_ | refine fun (_ : _ ≤ _) => ?_)); refine ⟨fun hl9 => hK _ ?_, fun e9 L9 hp9 => hK _ ?_⟩ <;> clear hK K
    · obtain ⟨z7, Hz9⟩ := hdef_b3 none [] ⟨hl9, rfl⟩
      have H := Hz9
      try dsimp only at H
      unfold enqueue_normalize_b3 at H
      try dsimp only at H
      (refine opsX fun K hK => ?_; simp only [z, seval, enqueue_normalize_t3]; (repeat (first | refine gcI ?_ | refine fun (_ : _ ≤ _) => ?_)); refine hK _ ?_; clear hK K)
      refine hK8 _ ?_
      refine Sm.seqK fun K10 hK10 => ?_
      refine Sm.condK (by rfl) fun Ka Kb ha hb => ?_
      simp only [wpCond, z, seval, enqueue_normalize_t3]
      refine hb ?_
      refine Sm.exit ?_
      refine ⟨none, [], _, ⟨hl9, rfl⟩, Hz9, ?_⟩
      try simp only [seval, Exit.exit.injEq]
      refine ⟨⟨_, (Option.some.inj H).symm⟩, fun y7 hz Ho7 => ?_⟩
      have hyy := Sum.inr.inj ((Option.some.inj H).trans hz)
      subst hyy
      have H := Ho7
      try dsimp only at H
      try simp only [seval, Exit.exit.injEq]
      refine ⟨_, H, ?_⟩
      exact weak_b [some 9005] rfl rfl rfl (by simp only [wk, z, seval, enqueue_normalize_t3]) (by simp only [wk, z, seval, enqueue_normalize_t3])
    · obtain ⟨z7, Hz9⟩ := hdef_b3 (some e9) L9 hp9
      have H := Hz9
      try dsimp only at H
      unfold enqueue_normalize_b3 at H
      try dsimp only at H
      (refine opsX fun K hK => ?_; simp only [z, seval, enqueue_normalize_t3]; (repeat (first | refine gcI ?_ | refine fun (_ : _ ≤ _) => ?_)); refine hK _ ?_; clear hK K)
      refine hK8 _ ?_
      refine Sm.seqK fun K12 hK12 => ?_
      refine Sm.condK (by rfl) fun Ka Kb ha hb => ?_
      simp only [wpCond, z, seval, enqueue_normalize_t3]
      refine ha ?_
      refine Sm.skip ?_
      refine hK12 _ ?_
      refine Sm.block ?_
      refine Sm.seqX h00 mixed hΓ (by kernel_rfl) fun K14 hK14 => ?_
      simp only [rs]
      refine opsE stepZ_ok fun K hK => ?_; simp only [z, seval, enqueue_normalize_t3]; (repeat (first | refine gcI ?_ | refine fun (_ : _ ≤ _) => ?_)); refine hK _ ?_; clear hK K
      iterate 4 (refine opsX fun K hK => ?_; simp only [z, seval, enqueue_normalize_t3]; (repeat (first | refine gcI ?_ | refine fun (_ : _ ≤ _) => ?_)); refine hK _ ?_; clear hK K)
      refine hK14 _ ?_
      obtain ⟨hg15, H⟩ := gd_some H
      refine Sm.regA h00 mixed hΓ (by kernel_rfl) ?_
      simp only [rs]
      repeat (refine opsG fun K hK => ?_; simp only [z, seval, enqueue_normalize_t3]; (repeat (first | refine gcI ?_ | refine fun (_ : _ ≤ _) => ?_)); refine hK _ ?_; clear hK K)
      refine opsG0 ?_
      refine ⟨some e9, L9, _, hp9, Hz9, ?_⟩
      try simp only [seval, Exit.exit.injEq]
      refine ⟨_, (Option.some.inj H).symm, ?_⟩
      exact weak_b [some 640, some 9006] rfl rfl rfl (by simp only [wk, z, seval, enqueue_normalize_t3]) (by simp only [wk, z, seval, enqueue_normalize_t3])
  rintro out H
  try dsimp only at H
  unfold enqueue_normalize_k2 at H
  refine Sm.seqX h00 mixed hΓ (by kernel_rfl) fun K4 hK4 => ?_
  simp only [rs]
  obtain ⟨r1, hr1, H⟩ := bind_some H
  (refine opsX fun K hK => ?_; simp only [z, seval, enqueue_normalize_s2]; (repeat (first | refine gcI ?_ | refine fun (_ : _ ≤ _) => ?_)); refine hK _ ?_; clear hK K)
  refine opsM (cslices_SortFunc_f67_c68 n _ r1 hr1) [9001] [] (by simp only [z, seval, enqueue_normalize_s2, hr1]; try rfl) (by simp only [z, seval, enqueue_normalize_s2, hr1]) (by simp only [z, seval, enqueue_normalize_s2, hr1]) (by simp only [z, seval, enqueue_normalize_s2, hr1]) (by simp only [z, seval, enqueue_normalize_s2, hr1]) rfl (by simp only [z, seval, enqueue_normalize_s2, hr1]) rfl ?_
  refine hK4 _ ?_
  refine Sm.seqA h00 mixed hΓ (by kernel_rfl) fun K5 hK5 => ?_
  simp only [rs]
  repeat (refine opsG fun K hK => ?_; simp only [z, seval, enqueue_normalize_s2]; (repeat (first | refine gcI ?_ | refine fun (_ : _ ≤ _) => ?_)); refine hK _ ?_; clear hK K)
  refine hK5 _ ?_
  refine Sm.ret ?_
  try simp only [seval, Exit.exit.injEq]
  obtain rfl := Option.some.inj H
  refine Ret.ofR [] (.inr rfl) ?_
  simp only [z, seval, enqueue_normalize_s2]

def slices_Clone_f79 (n : Nat) (s : List TWant) : Option (List TWant) :=
  uniB s fun nb1 =>
  bif nb1 then
    some []
  else
    gd (s.length ≤ 2147483648) <|
    some s

def xslices_Clone_f79 (n : Nat) : Go.AE.Fn := mkFn (A := (List TWant)) (R := (List TWant)) 79 [(false, [.slice 92])] false (fun xs => ((cg (xs.getD 0 []) 0).toSl.map d_TWant)) (fun a => [[.slice (List.map e_TWant a)]]) (fun a => slices_Clone_f79 n a) (fun r => [.own 0 [.str, .bool] 0 r.length]) (fun r => [.row 92 (List.map e_TWant r)])

theorem cslices_Clone_f79 (n : Nat) : Contract Try.prog (xslices_Clone_f79 n) := by
  have hΓ : ∀ g, g ∈ ([] : List Go.AE.Fn) → Contract Try.prog g := by simp
  refine contract_f (Try.f79.body.getD .skip) h00 Try.func79 rfl (by intro args w; exact Try.call79 args w) (by decide) (by
    intro _ r; refine ⟨rfl, ?_⟩; simp only [List.mem_cons, List.not_mem_nil, or_false]; rintro _ rfl
    · exact ⟨92, _, _, rfl, ty92, rfl⟩) ?_
  rintro s r H
  try dsimp only at H
  unfold slices_Clone_f79 at H
  simp only [Try.f79, Option.getD]
  refine Sm.seqA h00 mixed hΓ (by kernel_rfl) fun K1 hK1 => ?_
  simp only [rs]
  repeat (refine opsG fun K hK => ?_; simp only [z, seval]; (repeat (first | refine gcI ?_ | refine fun (_ : _ ≤ _) => ?_)); refine hK _ ?_; clear hK K)
  refine hK1 _ ?_
  refine Sm.seqK fun K2 hK2 => ?_
  refine Sm.seqX h00 mixed hΓ (by kernel_rfl) fun K3 hK3 => ?_
  simp only [rs]
  (refine opsX fun K hK => ?_; simp only [z, seval]; (repeat (first | refine gcI ?_ | refine fun (_ : _ ≤ _) => ?_)); refine hK _ ?_; clear hK K)
  refine opsN fun K hK => ?_; simp only [z, seval]; (repeat (first | refine gcI ?_ | refine fun (_ : _ ≤ _) => ?_)); intro nb1 hnb1; refine hK _ ?_; clear hK K
  replace H := uniB_some H nb1 (fun hb => by simpa using hnb1 hb)
  refine hK3 _ ?_
  refine Sm.condK (by rfl) fun Ka Kb ha hb => ?_
  simp only [wpCond, z, seval]
  refine ⟨fun h4 => ha ?_, fun h4 => hb ?_⟩
  · first | replace H := bif_t h4 H | replace H := bif_t2 h4 H (by simp only [List.length_append])
    refine Sm.seqA h00 mixed hΓ (by kernel_rfl) fun K5 hK5 => ?_
    simp only [rs]
    repeat (refine opsG fun K hK => ?_; simp only [z, seval]; (repeat (first | refine gcI ?_ | refine fun (_ : _ ≤ _) => ?_)); refine hK _ ?_; clear hK K)
    refine hK5 _ ?_
    refine Sm.ret ?_
    try simp only [seval, Exit.exit.injEq]
    obtain rfl := Option.some.inj H
    refine Ret.ofR [none] (.inr rfl) ?_
    simp only [z, seval]
  first | replace H := bif_f h4 H | replace H := bif_f2 h4 H (by simp only [List.length_append])
  refine Sm.skip ?_
  refine hK2 _ ?_
  obtain ⟨hg7, H⟩ := gd_some H
  refine Sm.seqA h00 mixed hΓ (by kernel_rfl) fun K6 hK6 => ?_
  simp only [rs]
  repeat (refine opsG fun K hK => ?_; simp only [z, seval]; (repeat (first | refine gcI ?_ | refine fun (_ : _ ≤ _) => ?_)); refine hK _ ?_; clear hK K)
  refine hK6 _ ?_
  refine Sm.ret ?_
  try simp only [seval, Exit.exit.injEq]
  obtain rfl := Option.some.inj H
  refine Ret.ofR [some 112] (.inr rfl) ?_
  simp only [z, seval]

abbrev enqueue_copied_s1 (out : List TRequest) : S := stB [(3, .own 9000 [.int .i64, .slice 92] 0 out.length)] [(9000, .row 61 (List.map e_TRequest out))]

def enqueue_copied_k1 (n : Nat) (out : List TRequest) : Option (List TRequest) :=
  some out

abbrev enqueue_copied_t2 (l : List TRequest) (v7 : Int) (out : List TRequest) (v8 : Int) : S := stB [(3, .own 9002 [.int .i64, .slice 92] 0 out.length), (6, .c (.slice 61) (.slice (List.map e_TRequest l))), (7, .c (.int .i64) (.int v7)), (8, .c (.int .i64) (.int v8))] [(9002, .row 61 (List.map e_TRequest out))]

def enqueue_copied_b2 (n : Nat) (l : List TRequest) (v7 : Int) (out : List TRequest) (v8 : Int) : Option (((List TRequest) × Int) ⊕ (((List TRequest)))) :=
  bif (decide (v8 < v7)) then
    gd ((0 ≤ v8 ∧ v8 < (l.length : Int))) <|
    (slices_Clone_f79 n ((gt l (Int.toNat v8)).Wants)).bind fun r1 =>
    gd ((out.length + 1) ≤ 2147483648) <|
    some (.inl ((out ++ [(⟨(gt l (Int.toNat v8)).Job, r1⟩ : TRequest)]), (IntKind.wrap .i64 (v8 + 1))))
  else
    some (.inr out)

def enqueue_copied (n : Nat) (l : List TRequest) : Option (List TRequest) :=
  (loopF (fun (x : (List TRequest) × Int) => enqueue_copied_b2 n l (l.length : Int) x.1 x.2) n ([], 0)).bind fun y5 =>
  enqueue_copied_k1 n y5

def xenqueue_copied (n : Nat) : Go.AE.Fn := mkFn (A := (List TRequest)) (R := (List TRequest)) 56 [(false, [.slice 61])] true (fun xs => ((cg (xs.getD 0 []) 0).toSl.map d_TRequest)) (fun a => [[.slice (List.map e_TRequest a)]]) (fun a => enqueue_copied n a) (fun r => [.own 0 [.int .i64, .slice 92] 0 r.length]) (fun r => [.row 61 (List.map e_TRequest r)])

theorem cenqueue_copied (n : Nat) : Contract Try.prog (xenqueue_copied n) := by
  have hΓ : ∀ g, g ∈ ([xslices_Clone_f79 n] : List Go.AE.Fn) → Contract Try.prog g := by
    intro g hg; simp only [List.mem_cons, List.not_mem_nil, or_false] at hg; subst hg; exact cslices_Clone_f79 n
  refine contract_f (Try.f56.body.getD .skip) h00 Try.func56 rfl (by intro args w; exact Try.call56 args w) (by decide) (by intro h; cases h) ?_
  rintro l r H
  try dsimp only at H
  unfold enqueue_copied at H
  simp only [Try.f56, Option.getD]
  refine Sm.seqA h00 mixed hΓ (by kernel_rfl) fun K1 hK1 => ?_
  simp only [rs]
  repeat (refine opsG fun K hK => ?_; simp only [z, seval]; (repeat (first | refine gcI ?_ | refine fun (_ : _ ≤ _) => ?_)); refine hK _ ?_; clear hK K)
  refine hK1 _ ?_
  refine Sm.seqA h00 mixed hΓ (by kernel_rfl) fun K2 hK2 => ?_
  simp only [rs]
  repeat (refine opsG fun K hK => ?_; simp only [z, seval]; (repeat (first | refine gcI ?_ | refine fun (_ : _ ≤ _) => ?_)); refine hK _ ?_; clear hK K)
  refine hK2 _ ?_
  refine Sm.cut (fun (x : (List TRequest)) => enqueue_copied_s1 x) (fun x => enqueue_copied_k1 n x = some r) ?_ ?_
  · refine Sm.seqA h00 mixed hΓ (by kernel_rfl) fun K4 hK4 => ?_
    simp only [rs]
    repeat (refine opsG fun K hK => ?_; simp only [z, seval]; (repeat (first | refine gcI ?_ | refine fun (_ : _ ≤ _) => ?_)); refine hK _ ?_; clear hK K)
    refine hK4 _ ?_
    refine Sm.block ?_
    obtain ⟨y5, hy5, Ho5⟩ := bind_some H
    refine Sm.loopB (fun (x : (List TRequest) × Int) => enqueue_copied_b2 n l (l.length : Int) x.1 x.2) (fun x => enqueue_copied_t2 l (l.length : Int) x.1 x.2) hy5 ?_ ?_
    · exact weak_b [none] rfl rfl rfl (by simp only [wk, z, seval]) (by simp only [wk, z, seval])
    rintro ⟨out, v8⟩ z5 H
    try dsimp only at H
    unfold enqueue_copied_b2 at H
    refine Sm.seqA h00 mixed hΓ (by kernel_rfl) fun K6 hK6 => ?_
    simp only [rs]
    repeat (refine opsG fun K hK => ?_; simp only [z, seval, enqueue_copied_t2]; (repeat (first | refine gcI ?_ | refine fun (_ : _ ≤ _) => ?_)); refine hK _ ?_; clear hK K)
    refine hK6 _ ?_
    refine Sm.seqK fun K7 hK7 => ?_
    refine Sm.condK (by rfl) fun Ka Kb ha hb => ?_
    simp only [wpCond, z, seval, enqueue_copied_t2]
    refine ⟨fun h8 => ha ?_, fun h8 => hb ?_⟩
    · first | replace H := bif_t h8 H | replace H := bif_t2 h8 H (by simp only [List.length_append])
      refine Sm.skip ?_
      refine hK7 _ ?_
      refine Sm.seqK fun K9 hK9 => ?_
      refine Sm.block ?_
      obtain ⟨hg12, H⟩ := gd_some H
      refine Sm.seqA h00 mixed hΓ (by kernel_rfl) fun K10 hK10 => ?_
      simp only [rs]
      repeat (refine opsG fun K hK => ?_; simp only [z, seval, enqueue_copied_t2]; (repeat (first | refine gcI ?_ | refine fun (_ : _ ≤ _) => ?_)); refine hK _ ?_; clear hK K)
      refine hK10 _ ?_
      obtain ⟨r1, hr1, H⟩ := bind_some H
      obtain ⟨hg11, H⟩ := gd_some H
      refine Sm.regQ h00 mixed hΓ [0, 1, 2, 3, 4, 5, 6, 7, 8, 9] [(none, [], []), (none, [80], []), (none, [80], []), (none, [80], []), (none, [80], []), (none, [], [287, 286, 285, 284, 283, 282, 281, 280, 279, 278, 277, 276, 275, 274, 273, 272]), (none, [272], []), (none, [272], [304, 272]), (none, [304, 9002], [320, 304, 9002]), (none, [], [])] (by kernel_rfl) rfl ?_
      simp only [rs]
      iterate 10 (refine opsQ fun K hK => ?_; simp only [z, seval, enqueue_copied_t2, xslices_Clone_f79, hr1]; (repeat (first | refine gcI ?_ | refine fun (_ : _ ≤ _) => ?_)); refine hK _ ?_; clear hK K)
      refine opsQ0 ?_
      refine hK9 _ ?_
      refine Sm.regA h00 mixed hΓ (by kernel_rfl) ?_
      simp only [rs]
      repeat (refine opsG fun K hK => ?_; simp only [z, seval, enqueue_copied_t2]; (repeat (first | refine gcI ?_ | refine fun (_ : _ ≤ _) => ?_)); refine hK _ ?_; clear hK K)
      refine opsG0 ?_
      try simp only [seval, Exit.exit.injEq]
      refine ⟨(_, _), (Option.some.inj H).symm, ?_⟩
      exact weak_b [some 320] rfl rfl rfl (by simp only [wk, z, seval, enqueue_copied_t2]) (by simp only [wk, z, seval, enqueue_copied_t2])
    first | replace H := bif_f h8 H | replace H := bif_f2 h8 H (by simp only [List.length_append])
    refine Sm.exit ?_
    try simp only [seval, Exit.exit.injEq]
    refine ⟨⟨_, (Option.some.inj H).symm⟩, fun hz => ?_⟩
    have hyy := Sum.inr.inj ((Option.some.inj H).trans hz)
    subst hyy
    have H := Ho5
    try dsimp only at H
    try simp only [seval, Exit.exit.injEq]
    refine ⟨_, H, ?_⟩
    exact weak_b [some 9002] rfl rfl rfl (by simp only [wk, z, seval, enqueue_copied_t2]) (by simp only [wk, z, seval, enqueue_copied_t2])
  rintro out H
  try dsimp only at H
  unfold enqueue_copied_k1 at H
  refine Sm.seqA h00 mixed hΓ (by kernel_rfl) fun K3 hK3 => ?_
  simp only [rs]
  repeat (refine opsG fun K hK => ?_; simp only [z, seval, enqueue_copied_s1]; (repeat (first | refine gcI ?_ | refine fun (_ : _ ≤ _) => ?_)); refine hK _ ?_; clear hK K)
  refine hK3 _ ?_
  refine Sm.ret ?_
  try simp only [seval, Exit.exit.injEq]
  obtain rfl := Option.some.inj H
  refine Ret.ofR [some 9000] (.inr rfl) ?_
  simp only [z, seval, enqueue_copied_s1]

def enqueue_Table__copied (n : Nat) (t : TTable) : Option TTable :=
  (enqueue_copied n t.Held).bind fun r1 =>
  (enqueue_copied n t.Waiting).bind fun r2 =>
  some (⟨r1, r2⟩ : TTable)

def xenqueue_Table__copied (n : Nat) : Go.AE.Fn := mkFn (A := TTable) (R := TTable) 34 [(true, [.slice 61, .slice 61])] true (fun xs => (⟨((cg (xs.getD 0 []) 0).toSl.map d_TRequest), ((cg (xs.getD 0 []) 1).toSl.map d_TRequest)⟩ : TTable)) (fun a => [[.slice (List.map e_TRequest a.Held), .slice (List.map e_TRequest a.Waiting)]]) (fun a => enqueue_Table__copied n a) (fun r => [.agg [.own 0 [.int .i64, .slice 92] 0 r.Held.length, .own 1 [.int .i64, .slice 92] 0 r.Waiting.length]]) (fun r => [.row 61 (List.map e_TRequest r.Held), .row 61 (List.map e_TRequest r.Waiting)])

theorem cenqueue_Table__copied (n : Nat) : Contract Try.prog (xenqueue_Table__copied n) := by
  have hΓ : ∀ g, g ∈ ([xenqueue_copied n] : List Go.AE.Fn) → Contract Try.prog g := by
    intro g hg; simp only [List.mem_cons, List.not_mem_nil, or_false] at hg; subst hg; exact cenqueue_copied n
  refine contract_f (Try.f34.body.getD .skip) h00 Try.func34 rfl (by intro args w; exact Try.call34 args w) (by decide) (by intro h; cases h) ?_
  rintro t r H
  try dsimp only at H
  unfold enqueue_Table__copied at H
  simp only [Try.f34, Option.getD]
  refine Sm.seqA h00 mixed hΓ (by kernel_rfl) fun K1 hK1 => ?_
  simp only [rs]
  repeat (refine opsG fun K hK => ?_; simp only [z, seval]; (repeat (first | refine gcI ?_ | refine fun (_ : _ ≤ _) => ?_)); refine hK _ ?_; clear hK K)
  refine hK1 _ ?_
  obtain ⟨r1, hr1, H⟩ := bind_some H
  obtain ⟨r2, hr2, H⟩ := bind_some H
  refine Sm.seqQ h00 mixed hΓ [0, 1, 2, 3, 4, 5, 6, 7] [(none, [16], []), (none, [16], []), (none, [], [95, 94, 93, 92, 91, 90, 89, 88, 87, 86, 85, 84, 83, 82, 81, 80]), (none, [16], []), (none, [16], []), (none, [], [143, 142, 141, 140, 139, 138, 137, 136, 135, 134, 133, 132, 131, 130, 129, 128]), (none, [80, 128], []), (none, [32, 80, 128], [32])] (by kernel_rfl) rfl fun K2 hK2 => ?_
  simp only [rs]
  iterate 8 (refine opsQ fun K hK => ?_; simp only [z, seval, xenqueue_copied, hr1, hr2]; (repeat (first | refine gcI ?_ | refine fun (_ : _ ≤ _) => ?_)); refine hK _ ?_; clear hK K)
  refine opsQ0 ?_
  refine hK2 _ ?_
  refine Sm.ret ?_
  try simp only [seval, Exit.exit.injEq]
  obtain rfl := Option.some.inj H
  refine Ret.ofR [some 80, some 128] (.inr rfl) ?_
  simp only [z, seval]

def enqueue_Ask (n : Nat) (t : TTable) (job : Int) (wants : List TWant) : Option (TTable × Bool × Int) :=
  (enqueue_Check n t).bind fun r1 =>
  bif (r1 != 0) then
    some ((⟨[], []⟩ : TTable), false, r1)
  else
    (enqueue_index n t.Held job).bind fun r2 =>
    gd (((!(decide (r2 ≥ 0))) = true → (enqueue_index n t.Waiting job).isSome = true)) <|
    bif (if (decide (r2 ≥ 0)) = true then true else (decide (((enqueue_index n t.Waiting job).getD default) ≥ 0))) then
      some ((⟨[], []⟩ : TTable), false, 4)
    else
      (enqueue_normalize n wants).bind fun r3 =>
      bif (decide ((r3.length : Int) > 512)) then
        some ((⟨[], []⟩ : TTable), false, 2)
      else
        (enqueue_Table__copied n t).bind fun r4 =>
        (enqueue_Request__blocked n (⟨job, r3⟩ : TRequest) t.Held).bind fun r5 =>
        gd (((!r5) = true → (enqueue_Request__blocked n (⟨job, r3⟩ : TRequest) t.Waiting).isSome = true)) <|
        bif (if r5 = true then true else ((enqueue_Request__blocked n (⟨job, r3⟩ : TRequest) t.Waiting).getD default)) then
          gd ((r4.Waiting.length + 1) ≤ 2147483648) <|
          some ((⟨r4.Held, (r4.Waiting ++ [(⟨job, r3⟩ : TRequest)])⟩ : TTable), false, 0)
        else
          gd ((r4.Held.length + 1) ≤ 2147483648) <|
          some ((⟨(r4.Held ++ [(⟨job, r3⟩ : TRequest)]), r4.Waiting⟩ : TTable), true, 0)

def xenqueue_Ask (n : Nat) : Go.AE.Fn := mkFn (A := TTable × Int × (List TWant)) (R := TTable × Bool × Int) 20 [(true, [.slice 61, .slice 61]), (false, [.int .i64]), (false, [.slice 92])] true (fun xs => ((⟨((cg (xs.getD 0 []) 0).toSl.map d_TRequest), ((cg (xs.getD 0 []) 1).toSl.map d_TRequest)⟩ : TTable), (cg (xs.getD 1 []) 0).toInt, ((cg (xs.getD 2 []) 0).toSl.map d_TWant))) (fun a => [[.slice (List.map e_TRequest a.1.Held), .slice (List.map e_TRequest a.1.Waiting)], [.int a.2.1], [.slice (List.map e_TWant a.2.2)]]) (fun a => enqueue_Ask n a.1 a.2.1 a.2.2) (fun r => [.agg [.own 0 [.int .i64, .slice 92] 0 r.1.Held.length, .own 1 [.int .i64, .slice 92] 0 r.1.Waiting.length], .c .bool (.bool r.2.1), .c (.int .i64) (.int r.2.2)]) (fun r => [.row 61 (List.map e_TRequest r.1.Held), .row 61 (List.map e_TRequest r.1.Waiting)])

theorem cenqueue_Ask (n : Nat) : Contract Try.prog (xenqueue_Ask n) := by
  have hΓ : ∀ g, g ∈ ([xenqueue_Check n, xenqueue_index n, xenqueue_normalize n, xenqueue_Table__copied n, xenqueue_Request__blocked n] : List Go.AE.Fn) → Contract Try.prog g := by
    intro g hg; simp only [List.mem_cons, List.not_mem_nil, or_false] at hg; rcases hg with rfl | rfl | rfl | rfl | rfl; exact cenqueue_Check n; exact cenqueue_index n; exact cenqueue_normalize n; exact cenqueue_Table__copied n; exact cenqueue_Request__blocked n
  refine contract_f (Try.f20.body.getD .skip) h00 Try.func20 rfl (by intro args w; exact Try.call20 args w) (by decide) (by intro h; cases h) ?_
  rintro ⟨t, job, wants⟩ r H
  try dsimp only at H
  unfold enqueue_Ask at H
  simp only [Try.f20, Option.getD]
  refine Sm.seqA h00 mixed hΓ (by kernel_rfl) fun K1 hK1 => ?_
  simp only [rs]
  repeat (refine opsG fun K hK => ?_; simp only [z, seval]; (repeat (first | refine gcI ?_ | refine fun (_ : _ ≤ _) => ?_)); refine hK _ ?_; clear hK K)
  refine hK1 _ ?_
  refine Sm.seqK fun K2 hK2 => ?_
  obtain ⟨r1, hr1, H⟩ := bind_some H
  refine Sm.seqA h00 mixed hΓ (by kernel_rfl) fun K3 hK3 => ?_
  simp only [rs]
  repeat (refine opsG fun K hK => ?_; simp only [z, seval, xenqueue_Check, hr1]; (repeat (first | refine gcI ?_ | refine fun (_ : _ ≤ _) => ?_)); refine hK _ ?_; clear hK K)
  refine hK3 _ ?_
  refine Sm.seqA h00 mixed hΓ (by kernel_rfl) fun K4 hK4 => ?_
  simp only [rs]
  repeat (refine opsG fun K hK => ?_; simp only [z, seval]; (repeat (first | refine gcI ?_ | refine fun (_ : _ ≤ _) => ?_)); refine hK _ ?_; clear hK K)
  refine hK4 _ ?_
  refine Sm.condK (by rfl) fun Ka Kb ha hb => ?_
  simp only [wpCond, z, seval]
  refine ⟨fun h5 => ha ?_, fun h5 => hb ?_⟩
  · first | replace H := bif_t h5 H | replace H := bif_t2 h5 H (by simp only [List.length_append])
    refine Sm.seqA h00 mixed hΓ (by kernel_rfl) fun K6 hK6 => ?_
    simp only [rs]
    repeat (refine opsG fun K hK => ?_; simp only [z, seval]; (repeat (first | refine gcI ?_ | refine fun (_ : _ ≤ _) => ?_)); refine hK _ ?_; clear hK K)
    refine hK6 _ ?_
    refine Sm.ret ?_
    try simp only [seval, Exit.exit.injEq]
    obtain rfl := Option.some.inj H
    refine Ret.ofR [none, none] (.inr rfl) ?_
    simp only [z, seval]
  first | replace H := bif_f h5 H | replace H := bif_f2 h5 H (by simp only [List.length_append])
  refine Sm.skip ?_
  refine hK2 _ ?_
  refine Sm.seqK fun K7 hK7 => ?_
  obtain ⟨r2, hr2, H⟩ := bind_some H
  obtain ⟨hg27, H⟩ := gd_some H
  refine Sm.seqA h00 mixed hΓ (by kernel_rfl) fun K8 hK8 => ?_
  simp only [rs]
  repeat (refine opsG fun K hK => ?_; simp only [z, seval, xenqueue_Check, xenqueue_index, hr2]; (repeat (first | refine gcI ?_ | refine fun (_ : _ ≤ _) => ?_)); refine hK _ ?_; clear hK K)
  refine hK8 _ ?_
  refine Sm.condK (by rfl) fun Ka Kb ha hb => ?_
  simp only [wpCond, z, seval]
  refine ⟨fun h9 => ha ?_, fun h9 => hb ?_⟩
  · first | replace H := bif_t h9 H | replace H := bif_t2 h9 H (by simp only [List.length_append])
    refine Sm.seqA h00 mixed hΓ (by kernel_rfl) fun K10 hK10 => ?_
    simp only [rs]
    repeat (refine opsG fun K hK => ?_; simp only [z, seval]; (repeat (first | refine gcI ?_ | refine fun (_ : _ ≤ _) => ?_)); refine hK _ ?_; clear hK K)
    refine hK10 _ ?_
    refine Sm.ret ?_
    try simp only [seval, Exit.exit.injEq]
    obtain rfl := Option.some.inj H
    refine Ret.ofR [none, none] (.inr rfl) ?_
    simp only [z, seval]
  first | replace H := bif_f h9 H | replace H := bif_f2 h9 H (by simp only [List.length_append])
  refine Sm.skip ?_
  refine hK7 _ ?_
  obtain ⟨r3, hr3, H⟩ := bind_some H
  refine Sm.seqA h00 mixed hΓ (by kernel_rfl) fun K11 hK11 => ?_
  simp only [rs]
  repeat (refine opsG fun K hK => ?_; simp only [z, seval, xenqueue_Check, xenqueue_index, xenqueue_normalize, hr3]; (repeat (first | refine gcI ?_ | refine fun (_ : _ ≤ _) => ?_)); refine hK _ ?_; clear hK K)
  refine hK11 _ ?_
  refine Sm.seqK fun K12 hK12 => ?_
  refine Sm.seqA h00 mixed hΓ (by kernel_rfl) fun K13 hK13 => ?_
  simp only [rs]
  repeat (refine opsG fun K hK => ?_; simp only [z, seval]; (repeat (first | refine gcI ?_ | refine fun (_ : _ ≤ _) => ?_)); refine hK _ ?_; clear hK K)
  refine hK13 _ ?_
  refine Sm.condK (by rfl) fun Ka Kb ha hb => ?_
  simp only [wpCond, z, seval]
  refine ⟨fun h14 => ha ?_, fun h14 => hb ?_⟩
  · first | replace H := bif_t h14 H | replace H := bif_t2 h14 H (by simp only [List.length_append])
    refine Sm.seqA h00 mixed hΓ (by kernel_rfl) fun K15 hK15 => ?_
    simp only [rs]
    repeat (refine opsG fun K hK => ?_; simp only [z, seval]; (repeat (first | refine gcI ?_ | refine fun (_ : _ ≤ _) => ?_)); refine hK _ ?_; clear hK K)
    refine hK15 _ ?_
    refine Sm.ret ?_
    try simp only [seval, Exit.exit.injEq]
    obtain rfl := Option.some.inj H
    refine Ret.ofR [none, none] (.inr rfl) ?_
    simp only [z, seval]
  first | replace H := bif_f h14 H | replace H := bif_f2 h14 H (by simp only [List.length_append])
  refine Sm.skip ?_
  refine hK12 _ ?_
  obtain ⟨r4, hr4, H⟩ := bind_some H
  refine Sm.seqA h00 mixed hΓ (by kernel_rfl) fun K16 hK16 => ?_
  simp only [rs]
  repeat (refine opsG fun K hK => ?_; simp only [z, seval, xenqueue_Check, xenqueue_index, xenqueue_normalize, xenqueue_Table__copied, hr4]; (repeat (first | refine gcI ?_ | refine fun (_ : _ ≤ _) => ?_)); refine hK _ ?_; clear hK K)
  refine hK16 _ ?_
  refine Sm.seqK fun K17 hK17 => ?_
  obtain ⟨r5, hr5, H⟩ := bind_some H
  obtain ⟨hg26, H⟩ := gd_some H
  refine Sm.seqA h00 mixed hΓ (by kernel_rfl) fun K18 hK18 => ?_
  simp only [rs]
  repeat (refine opsG fun K hK => ?_; simp only [z, seval, xenqueue_Check, xenqueue_index, xenqueue_normalize, xenqueue_Table__copied, xenqueue_Request__blocked, hr5]; (repeat (first | refine gcI ?_ | refine fun (_ : _ ≤ _) => ?_)); refine hK _ ?_; clear hK K)
  refine hK18 _ ?_
  refine Sm.condK (by rfl) fun Ka Kb ha hb => ?_
  simp only [wpCond, z, seval]
  refine ⟨fun h19 => ha ?_, fun h19 => hb ?_⟩
  · first | replace H := bif_t h19 H | replace H := bif_t2 h19 H (by simp only [List.length_append])
    obtain ⟨hg22, H⟩ := gd_some H
    refine Sm.seqA h00 mixed hΓ (by kernel_rfl) fun K20 hK20 => ?_
    simp only [rs]
    repeat (refine opsG fun K hK => ?_; simp only [z, seval]; (repeat (first | refine gcI ?_ | refine fun (_ : _ ≤ _) => ?_)); refine hK _ ?_; clear hK K)
    refine hK20 _ ?_
    refine Sm.seqA h00 mixed hΓ (by kernel_rfl) fun K21 hK21 => ?_
    simp only [rs]
    repeat (refine opsG fun K hK => ?_; simp only [z, seval]; (repeat (first | refine gcI ?_ | refine fun (_ : _ ≤ _) => ?_)); refine hK _ ?_; clear hK K)
    refine hK21 _ ?_
    refine Sm.ret ?_
    try simp only [seval, Exit.exit.injEq]
    obtain rfl := Option.some.inj H
    refine Ret.ofR [some 656, some 896] (.inr rfl) ?_
    simp only [z, seval]
  first | replace H := bif_f h19 H | replace H := bif_f2 h19 H (by simp only [List.length_append])
  refine Sm.skip ?_
  refine hK17 _ ?_
  obtain ⟨hg25, H⟩ := gd_some H
  refine Sm.seqA h00 mixed hΓ (by kernel_rfl) fun K23 hK23 => ?_
  simp only [rs]
  repeat (refine opsG fun K hK => ?_; simp only [z, seval]; (repeat (first | refine gcI ?_ | refine fun (_ : _ ≤ _) => ?_)); refine hK _ ?_; clear hK K)
  refine hK23 _ ?_
  refine Sm.seqA h00 mixed hΓ (by kernel_rfl) fun K24 hK24 => ?_
  simp only [rs]
  repeat (refine opsG fun K hK => ?_; simp only [z, seval]; (repeat (first | refine gcI ?_ | refine fun (_ : _ ≤ _) => ?_)); refine hK _ ?_; clear hK K)
  refine hK24 _ ?_
  refine Sm.ret ?_
  try simp only [seval, Exit.exit.injEq]
  obtain rfl := Option.some.inj H
  refine Ret.ofR [some 1008, some 657] (.inr rfl) ?_
  simp only [z, seval]

def slices_Delete_f36_M1 (n : Nat) (s : List TRequest) (i : Int) (j : Int) : Option (Nat × (List TRequest)) :=
  gd ((0 ≤ i ∧ i ≤ j ∧ j ≤ ((s.length : Nat) : Int) ∧ ((s.length : Nat) : Int) ≤ (s.length : Int))) <|
  bif (i == j) then
    some (s.length, s)
  else
    gd ((0 ≤ i ∧ i ≤ (s.length : Int)) ∧ (0 ≤ j ∧ j ≤ (s.length : Int) ∧ (s.length : Int) ≤ (s.length : Int)) ∧ ((Int.toNat (i - 0)) + (List.take (Int.toNat ((s.length : Int) - j)) (List.drop (Int.toNat j) s)).length) ≤ s.length) <|
    gd ((0 ≤ ((((Int.toNat (i - 0)) + (List.take (Int.toNat ((s.length : Int) - j)) (List.drop (Int.toNat j) s)).length) : Nat) : Int) ∧ ((((Int.toNat (i - 0)) + (List.take (Int.toNat ((s.length : Int) - j)) (List.drop (Int.toNat j) s)).length) : Nat) : Int) ≤ ((s.length : Nat) : Int) ∧ ((s.length : Nat) : Int) ≤ (s.length : Int)) ∧ (((Int.toNat (i - 0)) + (List.take (Int.toNat ((s.length : Int) - j)) (List.drop (Int.toNat j) s)).length) + (Int.toNat (((s.length : Nat) : Int) - ((((Int.toNat (i - 0)) + (List.take (Int.toNat ((s.length : Int) - j)) (List.drop (Int.toNat j) s)).length) : Nat) : Int)))) ≤ s.length) <|
    some (((Int.toNat (i - 0)) + (List.take (Int.toNat ((s.length : Int) - j)) (List.drop (Int.toNat j) s)).length), (overL (overL s (Int.toNat (i - 0)) (List.take (Int.toNat ((s.length : Int) - j)) (List.drop (Int.toNat j) s))) ((Int.toNat (i - 0)) + (List.take (Int.toNat ((s.length : Int) - j)) (List.drop (Int.toNat j) s)).length) (zreps (Int.toNat (((s.length : Nat) : Int) - ((((Int.toNat (i - 0)) + (List.take (Int.toNat ((s.length : Int) - j)) (List.drop (Int.toNat j) s)).length) : Nat) : Int))) (⟨0, []⟩ : TRequest))))

theorem cslices_Delete_f36_M1 (n : Nat) (s : List TRequest) (i : Int) (j : Int) (r : Nat × (List TRequest)) (H : slices_Delete_f36_M1 n s i j = some r) : CallsM Try.prog 36 [.ref (.own 0 [.int .i64, .slice 92] 0 s.length), .dat (false, [.int .i64]) [.int i], .dat (false, [.int .i64]) [.int j]] [.row 61 (List.map e_TRequest s)] [.own 0 [.int .i64, .slice 92] 0 r.1] [.row 61 (List.map e_TRequest r.2)] := by
  have hΓ : ∀ g, g ∈ ([] : List Go.AE.Fn) → Contract Try.prog g := by simp
  refine callsM_of (Try.f36.body.getD .skip) h00 Try.func36 rfl (by intro args w; exact Try.call36 args w) (Nat.le_of_ble_eq_true rfl) (Nat.le_of_ble_eq_true rfl) ?_
  unfold slices_Delete_f36_M1 at H
  simp only [Try.f36, Option.getD]
  refine Sm.seqA h00 mixed hΓ (by kernel_rfl) fun K1 hK1 => ?_
  simp only [rs]
  repeat (refine opsG fun K hK => ?_; simp only [z, seval]; (repeat (first | refine gcI ?_ | refine fun (_ : _ ≤ _) => ?_)); refine hK _ ?_; clear hK K)
  refine hK1 _ ?_
  refine Sm.seqX h00 mixed hΓ (by kernel_rfl) fun K2 hK2 => ?_
  simp only [rs]
  obtain ⟨hg3, H⟩ := gd_some H
  iterate 5 (refine opsX fun K hK => ?_; simp only [z, seval]; (repeat (first | refine gcI ?_ | refine fun (_ : _ ≤ _) => ?_)); refine hK _ ?_; clear hK K)
  refine opsY fun K hK => ?_; simp only [z, seval]; (repeat (first | refine gcI ?_ | refine fun (_ : _ ≤ _) => ?_)); refine hK _ ?_; clear hK K
  refine hK2 _ ?_
  refine Sm.seqK fun K4 hK4 => ?_
  refine Sm.seqA h00 mixed hΓ (by kernel_rfl) fun K5 hK5 => ?_
  simp only [rs]
  repeat (refine opsG fun K hK => ?_; simp only [z, seval]; (repeat (first | refine gcI ?_ | refine fun (_ : _ ≤ _) => ?_)); refine hK _ ?_; clear hK K)
  refine hK5 _ ?_
  refine Sm.condK (by rfl) fun Ka Kb ha hb => ?_
  simp only [wpCond, z, seval]
  refine ⟨fun h6 => ha ?_, fun h6 => hb ?_⟩
  · first | replace H := bif_t h6 H | replace H := bif_t2 h6 H (by simp only [List.length_append])
    refine Sm.seqA h00 mixed hΓ (by kernel_rfl) fun K7 hK7 => ?_
    simp only [rs]
    repeat (refine opsG fun K hK => ?_; simp only [z, seval]; (repeat (first | refine gcI ?_ | refine fun (_ : _ ≤ _) => ?_)); refine hK _ ?_; clear hK K)
    refine hK7 _ ?_
    refine Sm.ret ?_
    try simp only [seval, Exit.exit.injEq]
    obtain rfl := Option.some.inj H
    refine RetM.mk (.inr rfl) [some 0] rfl ?_
    simp only [z, seval]
  first | replace H := bif_f h6 H | replace H := bif_f2 h6 H (by simp only [List.length_append])
  refine Sm.skip ?_
  refine hK4 _ ?_
  refine Sm.seqA h00 mixed hΓ (by kernel_rfl) fun K8 hK8 => ?_
  simp only [rs]
  repeat (refine opsG fun K hK => ?_; simp only [z, seval]; (repeat (first | refine gcI ?_ | refine fun (_ : _ ≤ _) => ?_)); refine hK _ ?_; clear hK K)
  refine hK8 _ ?_
  obtain ⟨⟨hg14, hg15, hg16⟩, H⟩ := gd_some H
  refine Sm.seqD h00 mixed hΓ (by kernel_rfl) fun K9 hK9 => ?_
  simp only [rs]
  repeat (refine opsH fun K hK => ?_; simp only [z, seval]; (repeat (first | refine gcI ?_ | refine fun (_ : _ ≤ _) => ?_)); refine hK _ ?_; clear hK K)
  refine hK9 _ ?_
  refine Sm.seqX h00 mixed hΓ (by kernel_rfl) fun K10 hK10 => ?_
  simp only [rs]
  obtain ⟨⟨hg11, hg12⟩, H⟩ := gd_some H
  iterate 5 (refine opsX fun K hK => ?_; simp only [z, seval]; (repeat (first | refine gcI ?_ | refine fun (_ : _ ≤ _) => ?_)); refine hK _ ?_; clear hK K)
  refine opsY fun K hK => ?_; simp only [z, seval]; (repeat (first | refine gcI ?_ | refine fun (_ : _ ≤ _) => ?_)); refine hK _ ?_; clear hK K
  refine hK10 _ ?_
  refine Sm.seqA h00 mixed hΓ (by kernel_rfl) fun K13 hK13 => ?_
  simp only [rs]
  repeat (refine opsG fun K hK => ?_; simp only [z, seval]; (repeat (first | refine gcI ?_ | refine fun (_ : _ ≤ _) => ?_)); refine hK _ ?_; clear hK K)
  refine hK13 _ ?_
  refine Sm.ret ?_
  try simp only [seval, Exit.exit.injEq]
  obtain rfl := Option.some.inj H
  refine RetM.mk (.inr rfl) [some 0] rfl ?_
  simp only [z, seval]

abbrev enqueue_Release_s2 (out_4 : List TRequest) (out_5 : Nat) (out_6 : List TRequest) (jobs : List Int) : S := stB [(4, .box 9004 0), (8, .box 9005 0), (11, .own 9008 [.int .i64] 0 jobs.length)] [(9004, .box [.nilsl, .nilsl]), (9005, .box [.own 9006 [.int .i64, .slice 92] 0 out_5, .own 9007 [.int .i64, .slice 92] 0 out_6.length]), (9006, .row 61 (List.map e_TRequest out_4)), (9007, .row 61 (List.map e_TRequest out_6)), (9008, .row 3 (List.map e_Int jobs))]

def enqueue_Release_k2 (n : Nat) (out_4 : List TRequest) (out_5 : Nat) (out_6 : List TRequest) (jobs : List Int) : Option (TTable × (List Int) × Int) :=
  some ((⟨(List.take out_5 out_4), out_6⟩ : TTable), jobs, 0)

abbrev enqueue_Release_s4 (out_8 : List TRequest) (out_9 : Nat) (out_10 : List TRequest) (jobs_1 : List Int) (out_2 : List TRequest) (v53_1 : Nat) (v54 : Int) (v55 : Int) : S := stB [(4, .box 9025 0), (8, .box 9026 0), (11, .own 9029 [.int .i64] 0 jobs_1.length), (53, .own 9030 [.int .i64, .slice 92] 0 v53_1), (54, .c (.int .i64) (.int v54)), (55, .c (.int .i64) (.int v55))] [(9025, .box [.nilsl, .nilsl]), (9026, .box [.own 9027 [.int .i64, .slice 92] 0 out_9, .own 9028 [.int .i64, .slice 92] 0 out_10.length]), (9027, .row 61 (List.map e_TRequest out_8)), (9028, .row 61 (List.map e_TRequest out_10)), (9029, .row 3 (List.map e_Int jobs_1)), (9030, .row 61 (List.map e_TRequest out_2))]

def enqueue_Release_k4 (n : Nat) (out_8 : List TRequest) (out_9 : Nat) (out_10 : List TRequest) (jobs_1 : List Int) (out_2 : List TRequest) (v53_1 : Nat) (v54 : Int) (v55 : Int) : Option (((List TRequest) × Nat × (List TRequest) × (List Int) × Nat × Int) ⊕ (((List TRequest) × Nat × (List TRequest) × (List Int)))) :=
  some (.inl (out_8, out_9, out_10, jobs_1, v53_1, (IntKind.wrap .i64 (v55 + 1))))

abbrev enqueue_Release_t3 (out_2 : List TRequest) (v54 : Int) (out_4 : List TRequest) (out_6 : Nat) (out_7 : List TRequest) (jobs : List Int) (v53 : Nat) (v55 : Int) : S := stB [(4, .box 9019 0), (8, .box 9020 0), (11, .own 9023 [.int .i64] 0 jobs.length), (53, .own 9024 [.int .i64, .slice 92] 0 v53), (54, .c (.int .i64) (.int v54)), (55, .c (.int .i64) (.int v55))] [(9019, .box [.nilsl, .nilsl]), (9020, .box [.own 9021 [.int .i64, .slice 92] 0 out_6, .own 9022 [.int .i64, .slice 92] 0 out_7.length]), (9021, .row 61 (List.map e_TRequest out_4)), (9022, .row 61 (List.map e_TRequest out_7)), (9023, .row 3 (List.map e_Int jobs)), (9024, .row 61 (List.map e_TRequest out_2))]

def enqueue_Release_b3 (n : Nat) (out_2 : List TRequest) (v54 : Int) (out_4 : List TRequest) (out_6 : Nat) (out_7 : List TRequest) (jobs : List Int) (v53 : Nat) (v55 : Int) : Option (((List TRequest) × Nat × (List TRequest) × (List Int) × Nat × Int) ⊕ (((List TRequest) × Nat × (List TRequest) × (List Int)))) :=
  bif (decide (v55 < v54)) then
    gd ((0 ≤ v55 ∧ v55 < (v53 : Int)) ∧ (Int.toNat v55) < out_2.length) <|
    (enqueue_Request__blocked n (gt out_2 (Int.toNat v55)) (List.take out_6 out_4)).bind fun r3 =>
    gd (((!r3) = true → (enqueue_Request__blocked n (gt out_2 (Int.toNat v55)) out_7).isSome = true)) <|
    bif (if r3 = true then true else ((enqueue_Request__blocked n (gt out_2 (Int.toNat v55)) out_7).getD default)) then
      gd ((out_7.length + 1) ≤ 2147483648) <|
      enqueue_Release_k4 n out_4 out_6 (out_7 ++ [(gt out_2 (Int.toNat v55))]) jobs out_2 v53 v54 v55
    else
      gd (out_6 ≤ out_4.length ∧ (out_6 + 1) ≤ 2147483648) <|
      gd ((jobs.length + 1) ≤ 2147483648) <|
      enqueue_Release_k4 n ((List.take out_6 out_4) ++ [(gt out_2 (Int.toNat v55))]) (out_6 + 1) out_7 (jobs ++ [(gt out_2 (Int.toNat v55)).Job]) out_2 v53 v54 v55
  else
    some (.inr (out_4, out_6, out_7, jobs))

abbrev enqueue_Release_s1 (out : List TRequest) (out_1 : Nat) (out_2 : List TRequest) (out_3 : Nat) : S := stB [(4, .box 9000 0), (8, .box 9001 0)] [(9000, .box [.nilsl, .nilsl]), (9001, .box [.own 9002 [.int .i64, .slice 92] 0 out_1, .own 9003 [.int .i64, .slice 92] 0 out_3]), (9002, .row 61 (List.map e_TRequest out)), (9003, .row 61 (List.map e_TRequest out_2))]

def enqueue_Release_k1 (n : Nat) (out : List TRequest) (out_1 : Nat) (out_2 : List TRequest) (out_3 : Nat) : Option (TTable × (List Int) × Int) :=
  (loopF (fun (x : (List TRequest) × Nat × (List TRequest) × (List Int) × Nat × Int) => enqueue_Release_b3 n out_2 ((out_3 : Nat) : Int) x.1 x.2.1 x.2.2.1 x.2.2.2.1 x.2.2.2.2.1 x.2.2.2.2.2) n (out, out_1, [], [], out_3, 0)).bind fun y13 =>
  enqueue_Release_k2 n y13.1 y13.2.1 y13.2.2.1 y13.2.2.2

def enqueue_Release (n : Nat) (t : TTable) (job : Int) : Option (TTable × (List Int) × Int) :=
  (enqueue_Check n t).bind fun r1 =>
  bif (r1 != 0) then
    some ((⟨[], []⟩ : TTable), [], r1)
  else
    (enqueue_Table__copied n t).bind fun r2 =>
    (enqueue_index n r2.Held job).bind fun r4 =>
    bif (decide (r4 ≥ 0)) then
      (slices_Delete_f36_M1 n r2.Held r4 (IntKind.wrap .i64 (r4 + 1))).bind fun r5 =>
      enqueue_Release_k1 n r5.2 r5.1 r2.Waiting r2.Waiting.length
    else
      (enqueue_index n r2.Waiting job).bind fun r6 =>
      bif (decide (r6 ≥ 0)) then
        (slices_Delete_f36_M1 n r2.Waiting r6 (IntKind.wrap .i64 (r6 + 1))).bind fun r7 =>
        enqueue_Release_k1 n r2.Held r2.Held.length r7.2 r7.1
      else
        some ((⟨[], []⟩ : TTable), [], 3)

def xenqueue_Release (n : Nat) : Go.AE.Fn := mkFn (A := TTable × Int) (R := TTable × (List Int) × Int) 14 [(true, [.slice 61, .slice 61]), (false, [.int .i64])] true (fun xs => ((⟨((cg (xs.getD 0 []) 0).toSl.map d_TRequest), ((cg (xs.getD 0 []) 1).toSl.map d_TRequest)⟩ : TTable), (cg (xs.getD 1 []) 0).toInt)) (fun a => [[.slice (List.map e_TRequest a.1.Held), .slice (List.map e_TRequest a.1.Waiting)], [.int a.2]]) (fun a => enqueue_Release n a.1 a.2) (fun r => [.agg [.c (.slice 61) (.slice (List.map e_TRequest r.1.Held)), .own 0 [.int .i64, .slice 92] 0 r.1.Waiting.length], .own 1 [.int .i64] 0 r.2.1.length, .c (.int .i64) (.int r.2.2)]) (fun r => [.row 61 (List.map e_TRequest r.1.Waiting), .row 3 (List.map e_Int r.2.1)])

theorem cenqueue_Release (n : Nat) : Contract Try.prog (xenqueue_Release n) := by
  have hΓ : ∀ g, g ∈ ([xenqueue_Check n, xenqueue_Table__copied n, xenqueue_index n, xenqueue_Request__blocked n] : List Go.AE.Fn) → Contract Try.prog g := by
    intro g hg; simp only [List.mem_cons, List.not_mem_nil, or_false] at hg; rcases hg with rfl | rfl | rfl | rfl; exact cenqueue_Check n; exact cenqueue_Table__copied n; exact cenqueue_index n; exact cenqueue_Request__blocked n
  refine contract_f (Try.f14.body.getD .skip) h00 Try.func14 rfl (by intro args w; exact Try.call14 args w) (by decide) (by intro h; cases h) ?_
  rintro ⟨t, job⟩ r H
  try dsimp only at H
  unfold enqueue_Release at H
  simp only [Try.f14, Option.getD]
  refine Sm.seqA h00 mixed hΓ (by kernel_rfl) fun K1 hK1 => ?_
  simp only [rs]
  repeat (refine opsG fun K hK => ?_; simp only [z, seval]; (repeat (first | refine gcI ?_ | refine fun (_ : _ ≤ _) => ?_)); refine hK _ ?_; clear hK K)
  refine hK1 _ ?_
  refine Sm.seqK fun K2 hK2 => ?_
  obtain ⟨r1, hr1, H⟩ := bind_some H
  refine Sm.seqA h00 mixed hΓ (by kernel_rfl) fun K3 hK3 => ?_
  simp only [rs]
  repeat (refine opsG fun K hK => ?_; simp only [z, seval, xenqueue_Check, hr1]; (repeat (first | refine gcI ?_ | refine fun (_ : _ ≤ _) => ?_)); refine hK _ ?_; clear hK K)
  refine hK3 _ ?_
  refine Sm.seqA h00 mixed hΓ (by kernel_rfl) fun K4 hK4 => ?_
  simp only [rs]
  repeat (refine opsG fun K hK => ?_; simp only [z, seval]; (repeat (first | refine gcI ?_ | refine fun (_ : _ ≤ _) => ?_)); refine hK _ ?_; clear hK K)
  refine hK4 _ ?_
  refine Sm.condK (by rfl) fun Ka Kb ha hb => ?_
  simp only [wpCond, z, seval]
  refine ⟨fun h5 => ha ?_, fun h5 => hb ?_⟩
  · first | replace H := bif_t h5 H | replace H := bif_t2 h5 H (by simp only [List.length_append])
    refine Sm.seqA h00 mixed hΓ (by kernel_rfl) fun K6 hK6 => ?_
    simp only [rs]
    repeat (refine opsG fun K hK => ?_; simp only [z, seval]; (repeat (first | refine gcI ?_ | refine fun (_ : _ ≤ _) => ?_)); refine hK _ ?_; clear hK K)
    refine hK6 _ ?_
    refine Sm.ret ?_
    try simp only [seval, Exit.exit.injEq]
    obtain rfl := Option.some.inj H
    refine Ret.ofR [none, none] (.inr rfl) ?_
    simp only [z, seval]
  first | replace H := bif_f h5 H | replace H := bif_f2 h5 H (by simp only [List.length_append])
  refine Sm.skip ?_
  refine hK2 _ ?_
  obtain ⟨r2, hr2, H⟩ := bind_some H
  refine Sm.seqA h00 mixed hΓ (by kernel_rfl) fun K7 hK7 => ?_
  simp only [rs]
  repeat (refine opsG fun K hK => ?_; simp only [z, seval, xenqueue_Check, xenqueue_Table__copied, hr2]; (repeat (first | refine gcI ?_ | refine fun (_ : _ ≤ _) => ?_)); refine hK _ ?_; clear hK K)
  refine hK7 _ ?_
  refine Sm.cut (fun (x : (List TRequest) × Nat × (List TRequest) × Nat) => enqueue_Release_s1 x.1 x.2.1 x.2.2.1 x.2.2.2) (fun x => enqueue_Release_k1 n x.1 x.2.1 x.2.2.1 x.2.2.2 = some r) ?_ ?_
  · obtain ⟨r4, hr4, H⟩ := bind_some H
    refine Sm.seqA h00 mixed hΓ (by kernel_rfl) fun K30 hK30 => ?_
    simp only [rs]
    repeat (refine opsG fun K hK => ?_; simp only [z, seval, xenqueue_Check, xenqueue_Table__copied, xenqueue_index, hr4]; (repeat (first | refine gcI ?_ | refine fun (_ : _ ≤ _) => ?_)); refine hK _ ?_; clear hK K)
    refine hK30 _ ?_
    refine Sm.seqA h00 mixed hΓ (by kernel_rfl) fun K31 hK31 => ?_
    simp only [rs]
    repeat (refine opsG fun K hK => ?_; simp only [z, seval]; (repeat (first | refine gcI ?_ | refine fun (_ : _ ≤ _) => ?_)); refine hK _ ?_; clear hK K)
    refine hK31 _ ?_
    refine Sm.condK (by rfl) fun Ka Kb ha hb => ?_
    simp only [wpCond, z, seval]
    refine ⟨fun h32 => ha ?_, fun h32 => hb ?_⟩
    · first | replace H := bif_t h32 H | replace H := bif_t2 h32 H (by simp only [List.length_append])
      refine Sm.rgX h00 mixed hΓ (by kernel_rfl) ?_
      simp only [rs]
      obtain ⟨r5, hr5, H⟩ := bind_some H
      iterate 5 (refine opsX fun K hK => ?_; simp only [z, seval]; (repeat (first | refine gcI ?_ | refine fun (_ : _ ≤ _) => ?_)); refine hK _ ?_; clear hK K)
      refine opsM (cslices_Delete_f36_M1 n _ _ _ r5 hr5) [352] [] (by simp only [z, seval, hr5]; try rfl) (by simp only [z, seval, hr5]) (by simp only [z, seval, hr5]) (by simp only [z, seval, hr5]) (by simp only [z, seval, hr5]) rfl (by simp only [z, seval, hr5]) rfl ?_
      iterate 2 (refine opsX fun K hK => ?_; simp only [z, seval, hr5]; (repeat (first | refine gcI ?_ | refine fun (_ : _ ≤ _) => ?_)); refine hK _ ?_; clear hK K)
      refine opsX0 ?_
      try simp only [seval, Exit.exit.injEq]
      refine ⟨(r5.2, r5.1, r2.Waiting, r2.Waiting.length), H, ?_⟩
      exact weak_b [some 64, some 128, some 352, some 353] rfl rfl rfl (by simp only [wk, z, seval]) (by simp only [wk, z, seval])
    first | replace H := bif_f h32 H | replace H := bif_f2 h32 H (by simp only [List.length_append])
    obtain ⟨r6, hr6, H⟩ := bind_some H
    refine Sm.seqA h00 mixed hΓ (by kernel_rfl) fun K33 hK33 => ?_
    simp only [rs]
    repeat (refine opsG fun K hK => ?_; simp only [z, seval, xenqueue_Check, xenqueue_Table__copied, xenqueue_index, hr6]; (repeat (first | refine gcI ?_ | refine fun (_ : _ ≤ _) => ?_)); refine hK _ ?_; clear hK K)
    refine hK33 _ ?_
    refine Sm.seqA h00 mixed hΓ (by kernel_rfl) fun K34 hK34 => ?_
    simp only [rs]
    repeat (refine opsG fun K hK => ?_; simp only [z, seval]; (repeat (first | refine gcI ?_ | refine fun (_ : _ ≤ _) => ?_)); refine hK _ ?_; clear hK K)
    refine hK34 _ ?_
    refine Sm.condK (by rfl) fun Ka Kb ha hb => ?_
    simp only [wpCond, z, seval]
    refine ⟨fun h35 => ha ?_, fun h35 => hb ?_⟩
    · first | replace H := bif_t h35 H | replace H := bif_t2 h35 H (by simp only [List.length_append])
      refine Sm.rgX h00 mixed hΓ (by kernel_rfl) ?_
      simp only [rs]
      obtain ⟨r7, hr7, H⟩ := bind_some H
      iterate 5 (refine opsX fun K hK => ?_; simp only [z, seval]; (repeat (first | refine gcI ?_ | refine fun (_ : _ ≤ _) => ?_)); refine hK _ ?_; clear hK K)
      refine opsM (cslices_Delete_f36_M1 n _ _ _ r7 hr7) [353] [] (by simp only [z, seval, hr7]; try rfl) (by simp only [z, seval, hr7]) (by simp only [z, seval, hr7]) (by simp only [z, seval, hr7]) (by simp only [z, seval, hr7]) rfl (by simp only [z, seval, hr7]) rfl ?_
      iterate 2 (refine opsX fun K hK => ?_; simp only [z, seval, hr7]; (repeat (first | refine gcI ?_ | refine fun (_ : _ ≤ _) => ?_)); refine hK _ ?_; clear hK K)
      refine opsX0 ?_
      try simp only [seval, Exit.exit.injEq]
      refine ⟨(r2.Held, r2.Held.length, r7.2, r7.1), H, ?_⟩
      exact weak_b [some 64, some 128, some 352, some 353] rfl rfl rfl (by simp only [wk, z, seval]) (by simp only [wk, z, seval])
    first | replace H := bif_f h35 H | replace H := bif_f2 h35 H (by simp only [List.length_append])
    refine Sm.seqA h00 mixed hΓ (by kernel_rfl) fun K36 hK36 => ?_
    simp only [rs]
    repeat (refine opsG fun K hK => ?_; simp only [z, seval]; (repeat (first | refine gcI ?_ | refine fun (_ : _ ≤ _) => ?_)); refine hK _ ?_; clear hK K)
    refine hK36 _ ?_
    refine Sm.ret ?_
    try simp only [seval, Exit.exit.injEq]
    obtain rfl := Option.some.inj H
    refine Ret.ofR [none, none] (.inr rfl) ?_
    simp only [z, seval]
  rintro ⟨out, out_1, out_2, out_3⟩ H
  try dsimp only at H
  unfold enqueue_Release_k1 at H
  refine Sm.seqA h00 mixed hΓ (by kernel_rfl) fun K8 hK8 => ?_
  simp only [rs]
  repeat (refine opsG fun K hK => ?_; simp only [z, seval, enqueue_Release_s1]; (repeat (first | refine gcI ?_ | refine fun (_ : _ ≤ _) => ?_)); refine hK _ ?_; clear hK K)
  refine hK8 _ ?_
  refine Sm.seqA h00 mixed hΓ (by kernel_rfl) fun K9 hK9 => ?_
  simp only [rs]
  repeat (refine opsG fun K hK => ?_; simp only [z, seval, enqueue_Release_s1]; (repeat (first | refine gcI ?_ | refine fun (_ : _ ≤ _) => ?_)); refine hK _ ?_; clear hK K)
  refine hK9 _ ?_
  refine Sm.seqA h00 mixed hΓ (by kernel_rfl) fun K10 hK10 => ?_
  simp only [rs]
  repeat (refine opsG fun K hK => ?_; simp only [z, seval, enqueue_Release_s1]; (repeat (first | refine gcI ?_ | refine fun (_ : _ ≤ _) => ?_)); refine hK _ ?_; clear hK K)
  refine hK10 _ ?_
  refine Sm.cut (fun (x : (List TRequest) × Nat × (List TRequest) × (List Int)) => enqueue_Release_s2 x.1 x.2.1 x.2.2.1 x.2.2.2) (fun x => enqueue_Release_k2 n x.1 x.2.1 x.2.2.1 x.2.2.2 = some r) ?_ ?_
  · refine Sm.seqA h00 mixed hΓ (by kernel_rfl) fun K12 hK12 => ?_
    simp only [rs]
    repeat (refine opsG fun K hK => ?_; simp only [z, seval, enqueue_Release_s1]; (repeat (first | refine gcI ?_ | refine fun (_ : _ ≤ _) => ?_)); refine hK _ ?_; clear hK K)
    refine hK12 _ ?_
    refine Sm.block ?_
    obtain ⟨y13, hy13, Ho13⟩ := bind_some H
    refine Sm.loopB (fun (x : (List TRequest) × Nat × (List TRequest) × (List Int) × Nat × Int) => enqueue_Release_b3 n out_2 ((out_3 : Nat) : Int) x.1 x.2.1 x.2.2.1 x.2.2.2.1 x.2.2.2.2.1 x.2.2.2.2.2) (fun x => enqueue_Release_t3 out_2 ((out_3 : Nat) : Int) x.1 x.2.1 x.2.2.1 x.2.2.2.1 x.2.2.2.2.1 x.2.2.2.2.2) hy13 ?_ ?_
    · exact weak_b [some 9000, some 9001, some 9002, none, none, some 9003] rfl rfl rfl (by simp only [wk, z, seval, enqueue_Release_s1]) (by simp only [wk, z, seval, enqueue_Release_s1])
    rintro ⟨out_4, out_6, out_7, jobs, v53, v55⟩ z13 H
    try dsimp only at H
    unfold enqueue_Release_b3 at H
    refine Sm.seqA h00 mixed hΓ (by kernel_rfl) fun K14 hK14 => ?_
    simp only [rs]
    repeat (refine opsG fun K hK => ?_; simp only [z, seval, enqueue_Release_t3]; (repeat (first | refine gcI ?_ | refine fun (_ : _ ≤ _) => ?_)); refine hK _ ?_; clear hK K)
    refine hK14 _ ?_
    refine Sm.seqK fun K15 hK15 => ?_
    refine Sm.condK (by rfl) fun Ka Kb ha hb => ?_
    simp only [wpCond, z, seval, enqueue_Release_t3]
    refine ⟨fun h16 => ha ?_, fun h16 => hb ?_⟩
    · first | replace H := bif_t h16 H | replace H := bif_t2 h16 H (by simp only [List.length_append])
      refine Sm.skip ?_
      refine hK15 _ ?_
      refine Sm.cut (fun (x : (List TRequest) × Nat × (List TRequest) × (List Int)) => enqueue_Release_s4 x.1 x.2.1 x.2.2.1 x.2.2.2 out_2 v53 ((out_3 : Nat) : Int) v55) (fun x => enqueue_Release_k4 n x.1 x.2.1 x.2.2.1 x.2.2.2 out_2 v53 ((out_3 : Nat) : Int) v55 = some z13) ?_ ?_
      · refine Sm.block ?_
        obtain ⟨⟨hg28, hg29⟩, H⟩ := gd_some H
        refine Sm.seqA h00 mixed hΓ (by kernel_rfl) fun K17 hK17 => ?_
        simp only [rs]
        repeat (refine opsG fun K hK => ?_; simp only [z, seval, enqueue_Release_t3]; (repeat (first | refine gcI ?_ | refine fun (_ : _ ≤ _) => ?_)); refine hK _ ?_; clear hK K)
        refine hK17 _ ?_
        refine Sm.seqK fun K18 hK18 => ?_
        obtain ⟨r3, hr3, H⟩ := bind_some H
        obtain ⟨hg27, H⟩ := gd_some H
        refine Sm.seqA h00 mixed hΓ (by kernel_rfl) fun K19 hK19 => ?_
        simp only [rs]
        repeat (refine opsG fun K hK => ?_; simp only [z, seval, enqueue_Release_t3, xenqueue_Check, xenqueue_Table__copied, xenqueue_index, xenqueue_Request__blocked, hr3]; (repeat (first | refine gcI ?_ | refine fun (_ : _ ≤ _) => ?_)); refine hK _ ?_; clear hK K)
        refine hK19 _ ?_
        refine Sm.condK (by rfl) fun Ka Kb ha hb => ?_
        simp only [wpCond, z, seval, enqueue_Release_t3]
        refine ⟨fun h20 => ha ?_, fun h20 => hb ?_⟩
        · first | replace H := bif_t h20 H | replace H := bif_t2 h20 H (by simp only [List.length_append])
          obtain ⟨hg22, H⟩ := gd_some H
          refine Sm.seqA h00 mixed hΓ (by kernel_rfl) fun K21 hK21 => ?_
          simp only [rs]
          repeat (refine opsG fun K hK => ?_; simp only [z, seval, enqueue_Release_t3]; (repeat (first | refine gcI ?_ | refine fun (_ : _ ≤ _) => ?_)); refine hK _ ?_; clear hK K)
          refine hK21 _ ?_
          refine Sm.exit ?_
          try simp only [seval, Exit.exit.injEq]
          refine ⟨(out_4, out_6, (out_7 ++ [(gt out_2 (Int.toNat v55))]), jobs), H, ?_⟩
          exact weak_b [some 9019, some 9020, some 9021, some 1168, some 9023, some 9024] rfl rfl rfl (by simp only [wk, z, seval, enqueue_Release_t3]) (by simp only [wk, z, seval, enqueue_Release_t3])
        first | replace H := bif_f h20 H | replace H := bif_f2 h20 H (by simp only [List.length_append])
        refine Sm.skip ?_
        refine hK18 _ ?_
        obtain ⟨⟨hg25, hg26⟩, H⟩ := gd_some H
        refine Sm.seqA h00 mixed hΓ (by kernel_rfl) fun K23 hK23 => ?_
        simp only [rs]
        repeat (refine opsG fun K hK => ?_; simp only [z, seval, enqueue_Release_t3]; (repeat (first | refine gcI ?_ | refine fun (_ : _ ≤ _) => ?_)); refine hK _ ?_; clear hK K)
        refine hK23 _ ?_
        obtain ⟨hg24, H⟩ := gd_some H
        refine Sm.regA h00 mixed hΓ (by kernel_rfl) ?_
        simp only [rs]
        repeat (refine opsG fun K hK => ?_; simp only [z, seval, enqueue_Release_t3]; (repeat (first | refine gcI ?_ | refine fun (_ : _ ≤ _) => ?_)); refine hK _ ?_; clear hK K)
        refine opsG0 ?_
        try simp only [seval, Exit.exit.injEq]
        refine ⟨(((List.take out_6 out_4) ++ [(gt out_2 (Int.toNat v55))]), (out_6 + 1), out_7, (jobs ++ [(gt out_2 (Int.toNat v55)).Job])), H, ?_⟩
        exact weak_b [some 9019, some 9020, some 1264, some 9022, some 1360, some 9024] rfl rfl rfl (by simp only [wk, z, seval, enqueue_Release_t3]) (by simp only [wk, z, seval, enqueue_Release_t3])
      rintro ⟨out_8, out_9, out_10, jobs_1⟩ H
      try dsimp only at H
      unfold enqueue_Release_k4 at H
      refine Sm.regA h00 mixed hΓ (by kernel_rfl) ?_
      simp only [rs]
      repeat (refine opsG fun K hK => ?_; simp only [z, seval, enqueue_Release_s4]; (repeat (first | refine gcI ?_ | refine fun (_ : _ ≤ _) => ?_)); refine hK _ ?_; clear hK K)
      refine opsG0 ?_
      try simp only [seval, Exit.exit.injEq]
      refine ⟨(_, _, _, _, _, _), (Option.some.inj H).symm, ?_⟩
      exact weak_b [some 9025, some 9026, some 9027, some 9028, some 9029, some 9030] rfl rfl rfl (by simp only [wk, z, seval, enqueue_Release_s4]) (by simp only [wk, z, seval, enqueue_Release_s4])
    first | replace H := bif_f h16 H | replace H := bif_f2 h16 H (by simp only [List.length_append])
    refine Sm.exit ?_
    try simp only [seval, Exit.exit.injEq]
    refine ⟨⟨_, (Option.some.inj H).symm⟩, fun hz => ?_⟩
    have hyy := Sum.inr.inj ((Option.some.inj H).trans hz)
    subst hyy
    have H := Ho13
    try dsimp only at H
    try simp only [seval, Exit.exit.injEq]
    refine ⟨(out_4, out_6, out_7, jobs), H, ?_⟩
    exact weak_b [some 9019, some 9020, some 9021, some 9022, some 9023] rfl rfl rfl (by simp only [wk, z, seval, enqueue_Release_t3]) (by simp only [wk, z, seval, enqueue_Release_t3])
  rintro ⟨out_4, out_5, out_6, jobs⟩ H
  try dsimp only at H
  unfold enqueue_Release_k2 at H
  refine Sm.seqA h00 mixed hΓ (by kernel_rfl) fun K11 hK11 => ?_
  simp only [rs]
  repeat (refine opsG fun K hK => ?_; simp only [z, seval, enqueue_Release_s2]; (repeat (first | refine gcI ?_ | refine fun (_ : _ ≤ _) => ?_)); refine hK _ ?_; clear hK K)
  refine hK11 _ ?_
  refine Sm.ret ?_
  try simp only [seval, Exit.exit.injEq]
  obtain rfl := Option.some.inj H
  refine Ret.ofR [some 9007, some 9008] (.inr rfl) ?_
  simp only [z, seval, enqueue_Release_s2]

abbrev law37_ints_s1 : S := stB [] []

def law37_ints_k1 (n : Nat) : Option Bool :=
  some true

abbrev law37_ints_t2 (a : List Int) (b : List Int) (k : Int) : S := stB [(0, .c (.slice 3) (.slice (List.map e_Int a))), (1, .c (.slice 3) (.slice (List.map e_Int b))), (5, .c (.int .i64) (.int k))] []

def law37_ints_b2 (n : Nat) (a : List Int) (b : List Int) (k : Int) : Option ((Int) ⊕ (((Bool) ⊕ (Unit)))) :=
  bif (decide (k < (a.length : Int))) then
    gd ((0 ≤ k ∧ k < (a.length : Int)) ∧ (0 ≤ k ∧ k < (b.length : Int))) <|
    bif ((gt a (Int.toNat k)) != (gt b (Int.toNat k))) then
      some (.inr (.inl false))
    else
      some (.inl (IntKind.wrap .i64 (k + 1)))
  else
    some (.inr (.inr ()))

def law37_ints (n : Nat) (a : List Int) (b : List Int) : Option Bool :=
  bif ((a.length : Int) != (b.length : Int)) then
    some false
  else
    (loopF (fun (x : Int) => law37_ints_b2 n a b x) n 0).bind fun y8 =>
    match y8 with
    | .inl v =>
      some v
    | .inr v =>
      law37_ints_k1 n

def xlaw37_ints (n : Nat) : Go.AE.Fn := mkFn (A := (List Int) × (List Int)) (R := Bool) 16 [(false, [.slice 3]), (false, [.slice 3])] false (fun xs => (((cg (xs.getD 0 []) 0).toSl.map d_Int), ((cg (xs.getD 1 []) 0).toSl.map d_Int))) (fun a => [[.slice (List.map e_Int a.1)], [.slice (List.map e_Int a.2)]]) (fun a => law37_ints n a.1 a.2) (fun r => [.c .bool (.bool r)]) (fun r => [])

theorem claw37_ints (n : Nat) : Contract Try.prog (xlaw37_ints n) := by
  have hΓ : ∀ g, g ∈ ([] : List Go.AE.Fn) → Contract Try.prog g := by simp
  refine contract_f (Try.f16.body.getD .skip) h00 Try.func16 rfl (by intro args w; exact Try.call16 args w) (by decide) (by intro _ r; exact ⟨rfl, by simp⟩) ?_
  rintro ⟨a, b⟩ r H
  try dsimp only at H
  unfold law37_ints at H
  simp only [Try.f16, Option.getD]
  refine Sm.seqA h00 mixed hΓ (by kernel_rfl) fun K1 hK1 => ?_
  simp only [rs]
  repeat (refine opsG fun K hK => ?_; simp only [z, seval]; (repeat (first | refine gcI ?_ | refine fun (_ : _ ≤ _) => ?_)); refine hK _ ?_; clear hK K)
  refine hK1 _ ?_
  refine Sm.seqK fun K2 hK2 => ?_
  refine Sm.seqA h00 mixed hΓ (by kernel_rfl) fun K3 hK3 => ?_
  simp only [rs]
  repeat (refine opsG fun K hK => ?_; simp only [z, seval]; (repeat (first | refine gcI ?_ | refine fun (_ : _ ≤ _) => ?_)); refine hK _ ?_; clear hK K)
  refine hK3 _ ?_
  refine Sm.condK (by rfl) fun Ka Kb ha hb => ?_
  simp only [wpCond, z, seval]
  refine ⟨fun h4 => ha ?_, fun h4 => hb ?_⟩
  · first | replace H := bif_t h4 H | replace H := bif_t2 h4 H (by simp only [List.length_append])
    refine Sm.seqA h00 mixed hΓ (by kernel_rfl) fun K5 hK5 => ?_
    simp only [rs]
    repeat (refine opsG fun K hK => ?_; simp only [z, seval]; (repeat (first | refine gcI ?_ | refine fun (_ : _ ≤ _) => ?_)); refine hK _ ?_; clear hK K)
    refine hK5 _ ?_
    refine Sm.ret ?_
    try simp only [seval, Exit.exit.injEq]
    obtain rfl := Option.some.inj H
    refine Ret.ofR [] (.inr rfl) ?_
    simp only [z, seval]
  first | replace H := bif_f h4 H | replace H := bif_f2 h4 H (by simp only [List.length_append])
  refine Sm.skip ?_
  refine hK2 _ ?_
  refine Sm.cut (fun (x : Unit) => law37_ints_s1) (fun x => law37_ints_k1 n = some r) ?_ ?_
  · refine Sm.seqA h00 mixed hΓ (by kernel_rfl) fun K7 hK7 => ?_
    simp only [rs]
    repeat (refine opsG fun K hK => ?_; simp only [z, seval]; (repeat (first | refine gcI ?_ | refine fun (_ : _ ≤ _) => ?_)); refine hK _ ?_; clear hK K)
    refine hK7 _ ?_
    refine Sm.block ?_
    obtain ⟨y8, hy8, Ho8⟩ := bind_some H
    refine Sm.loopB (fun (x : Int) => law37_ints_b2 n a b x) (fun x => law37_ints_t2 a b x) hy8 ?_ ?_
    · exact weak_b [] rfl rfl rfl (by simp only [wk, z, seval]) (by simp only [wk, z, seval])
    rintro k z8 H
    try dsimp only at H
    unfold law37_ints_b2 at H
    refine Sm.seqK fun K9 hK9 => ?_
    refine Sm.seqA h00 mixed hΓ (by kernel_rfl) fun K10 hK10 => ?_
    simp only [rs]
    repeat (refine opsG fun K hK => ?_; simp only [z, seval, law37_ints_t2]; (repeat (first | refine gcI ?_ | refine fun (_ : _ ≤ _) => ?_)); refine hK _ ?_; clear hK K)
    refine hK10 _ ?_
    refine Sm.condK (by rfl) fun Ka Kb ha hb => ?_
    simp only [wpCond, z, seval, law37_ints_t2]
    refine ⟨fun h11 => ha ?_, fun h11 => hb ?_⟩
    · first | replace H := bif_t h11 H | replace H := bif_t2 h11 H (by simp only [List.length_append])
      refine Sm.skip ?_
      refine hK9 _ ?_
      refine Sm.seqK fun K12 hK12 => ?_
      refine Sm.block ?_
      obtain ⟨⟨hg16, hg17⟩, H⟩ := gd_some H
      refine Sm.seqD h00 mixed hΓ (by kernel_rfl) fun K13 hK13 => ?_
      simp only [rs]
      repeat (refine opsH fun K hK => ?_; simp only [z, seval, law37_ints_t2]; (repeat (first | refine gcI ?_ | refine fun (_ : _ ≤ _) => ?_)); refine hK _ ?_; clear hK K)
      refine hK13 _ ?_
      refine Sm.condK (by rfl) fun Ka Kb ha hb => ?_
      simp only [wpCond, z, seval, law37_ints_t2]
      refine ⟨fun h14 => ha ?_, fun h14 => hb ?_⟩
      · first | replace H := bif_t h14 H | replace H := bif_t2 h14 H (by simp only [List.length_append])
        refine Sm.seqA h00 mixed hΓ (by kernel_rfl) fun K15 hK15 => ?_
        simp only [rs]
        repeat (refine opsG fun K hK => ?_; simp only [z, seval, law37_ints_t2]; (repeat (first | refine gcI ?_ | refine fun (_ : _ ≤ _) => ?_)); refine hK _ ?_; clear hK K)
        refine hK15 _ ?_
        refine Sm.ret ?_
        try simp only [seval, Exit.exit.injEq]
        refine ⟨⟨_, (Option.some.inj H).symm⟩, fun hz => ?_⟩
        have hyy := Sum.inr.inj ((Option.some.inj H).trans hz)
        subst hyy
        have H := Ho8
        try dsimp only at H
        try simp only [seval, Exit.exit.injEq]
        obtain rfl := Option.some.inj H
        refine Ret.ofR [] (.inr rfl) ?_
        simp only [z, seval, law37_ints_t2]
      first | replace H := bif_f h14 H | replace H := bif_f2 h14 H (by simp only [List.length_append])
      refine Sm.skip ?_
      refine hK12 _ ?_
      refine Sm.regA h00 mixed hΓ (by kernel_rfl) ?_
      simp only [rs]
      repeat (refine opsG fun K hK => ?_; simp only [z, seval, law37_ints_t2]; (repeat (first | refine gcI ?_ | refine fun (_ : _ ≤ _) => ?_)); refine hK _ ?_; clear hK K)
      refine opsG0 ?_
      try simp only [seval, Exit.exit.injEq]
      refine ⟨_, (Option.some.inj H).symm, ?_⟩
      exact weak_b [] rfl rfl rfl (by simp only [wk, z, seval, law37_ints_t2]) (by simp only [wk, z, seval, law37_ints_t2])
    first | replace H := bif_f h11 H | replace H := bif_f2 h11 H (by simp only [List.length_append])
    refine Sm.exit ?_
    try simp only [seval, Exit.exit.injEq]
    refine ⟨⟨_, (Option.some.inj H).symm⟩, fun hz => ?_⟩
    have hyy := Sum.inr.inj ((Option.some.inj H).trans hz)
    subst hyy
    have H := Ho8
    try dsimp only at H
    try simp only [seval, Exit.exit.injEq]
    refine ⟨(), H, ?_⟩
    exact weak_b [] rfl rfl rfl (by simp only [wk, z, seval, law37_ints_t2]) (by simp only [wk, z, seval, law37_ints_t2])
  rintro ⟨⟩ H
  try dsimp only at H
  unfold law37_ints_k1 at H
  refine Sm.seqA h00 mixed hΓ (by kernel_rfl) fun K6 hK6 => ?_
  simp only [rs]
  repeat (refine opsG fun K hK => ?_; simp only [z, seval, law37_ints_s1]; (repeat (first | refine gcI ?_ | refine fun (_ : _ ≤ _) => ?_)); refine hK _ ?_; clear hK K)
  refine hK6 _ ?_
  refine Sm.ret ?_
  try simp only [seval, Exit.exit.injEq]
  obtain rfl := Option.some.inj H
  refine Ret.ofR [] (.inr rfl) ?_
  simp only [z, seval, law37_ints_s1]

def law37_works (n : Nat) : Option Bool :=
  (law37_one n [65] false).bind fun r1 =>
  (enqueue_Ask n (⟨[], []⟩ : TTable) 1 r1).bind fun r2 =>
  (law37_one n [65] true).bind fun r3 =>
  (enqueue_Ask n r2.1 2 r3).bind fun r4 =>
  (law37_one n [65] false).bind fun r5 =>
  (enqueue_Ask n r4.1 3 r5).bind fun r6 =>
  (enqueue_Release n r6.1 1).bind fun r7 =>
  bif (if (if (if (if (if (if (r2.2.2 == 0) = true then (r4.2.2 == 0) else false) = true then (r6.2.2 == 0) else false) = true then (r7.2.2 == 0) else false) = true then r2.2.1 else false) = true then (!r4.2.1) else false) = true then (!r6.2.1) else false) then
    gd ((if (if (if (if (if (if (r2.2.2 == 0) = true then (r4.2.2 == 0) else false) = true then (r6.2.2 == 0) else false) = true then (r7.2.2 == 0) else false) = true then r2.2.1 else false) = true then (!r4.2.1) else false) = true then (!r6.2.1) else false) = true) <|
    (law37_ints n r7.2.1 [2]).bind fun r8 =>
    some (if (if r8 = true then ((r7.1.Held.length : Int) == 1) else false) = true then (((r7.1.Waiting.length : Nat) : Int) == 1) else false)
  else
    some false

def xlaw37_works (n : Nat) : Go.AE.Fn := mkFn (A := Unit) (R := Bool) 11 [] false (fun xs => ()) (fun a => []) (fun a => law37_works n) (fun r => [.c .bool (.bool r)]) (fun r => [])

theorem claw37_works (n : Nat) : Contract Try.prog (xlaw37_works n) := by
  have hΓ : ∀ g, g ∈ ([xlaw37_one n, xenqueue_Ask n, xenqueue_Release n, xlaw37_ints n] : List Go.AE.Fn) → Contract Try.prog g := by
    intro g hg; simp only [List.mem_cons, List.not_mem_nil, or_false] at hg; rcases hg with rfl | rfl | rfl | rfl; exact claw37_one n; exact cenqueue_Ask n; exact cenqueue_Release n; exact claw37_ints n
  refine contract_f (Try.f11.body.getD .skip) h00 Try.func11 rfl (by intro args w; exact Try.call11 args w) (by decide) (by intro _ r; exact ⟨rfl, by simp⟩) ?_
  rintro ⟨⟩ r H
  try dsimp only at H
  unfold law37_works at H
  simp only [Try.f11, Option.getD]
  refine Sm.seqA h00 mixed hΓ (by kernel_rfl) fun K1 hK1 => ?_
  simp only [rs]
  repeat (refine opsG fun K hK => ?_; simp only [z, seval]; (repeat (first | refine gcI ?_ | refine fun (_ : _ ≤ _) => ?_)); refine hK _ ?_; clear hK K)
  refine hK1 _ ?_
  obtain ⟨r1, hr1, H⟩ := bind_some H
  obtain ⟨r2, hr2, H⟩ := bind_some H
  refine Sm.seqA h00 mixed hΓ (by kernel_rfl) fun K2 hK2 => ?_
  simp only [rs]
  repeat (refine opsG fun K hK => ?_; simp only [z, seval, xlaw37_one, xenqueue_Ask, hr1, hr2]; (repeat (first | refine gcI ?_ | refine fun (_ : _ ≤ _) => ?_)); refine hK _ ?_; clear hK K)
  refine hK2 _ ?_
  obtain ⟨r3, hr3, H⟩ := bind_some H
  obtain ⟨r4, hr4, H⟩ := bind_some H
  refine Sm.seqQ h00 mixed hΓ [0, 1, 2, 3, 4, 5, 6, 7, 8, 9] [(none, [16], []), (none, [], [335, 334, 333, 332, 331, 330, 329, 328, 327, 326, 325, 324, 323, 322, 321, 320]), (none, [224, 225, 320], [351, 350, 349, 348, 347, 346, 345, 344, 343, 342, 341, 340, 339, 338, 337, 336, 224, 225, 320]), (none, [], []), (none, [], []), (none, [], []), (none, [], []), (none, [16, 336, 337], [16]), (none, [], []), (none, [], [])] (by kernel_rfl) rfl fun K3 hK3 => ?_
  simp only [rs]
  iterate 10 (refine opsQ fun K hK => ?_; simp only [z, seval, xlaw37_one, xenqueue_Ask, hr3, hr4]; (repeat (first | refine gcI ?_ | refine fun (_ : _ ≤ _) => ?_)); refine hK _ ?_; clear hK K)
  refine opsQ0 ?_
  refine hK3 _ ?_
  obtain ⟨r5, hr5, H⟩ := bind_some H
  obtain ⟨r6, hr6, H⟩ := bind_some H
  refine Sm.seqQ h00 mixed hΓ [0, 1, 2, 3, 4, 5, 6, 7, 8, 9] [(none, [16], []), (none, [], [447, 446, 445, 444, 443, 442, 441, 440, 439, 438, 437, 436, 435, 434, 433, 432]), (none, [336, 337, 432], [463, 462, 461, 460, 459, 458, 457, 456, 455, 454, 453, 452, 451, 450, 449, 448, 336, 337, 432]), (none, [], []), (none, [], []), (none, [], []), (none, [], []), (none, [16, 448, 449], [16]), (none, [], []), (none, [], [])] (by kernel_rfl) rfl fun K4 hK4 => ?_
  simp only [rs]
  iterate 10 (refine opsQ fun K hK => ?_; simp only [z, seval, xlaw37_one, xenqueue_Ask, hr5, hr6]; (repeat (first | refine gcI ?_ | refine fun (_ : _ ≤ _) => ?_)); refine hK _ ?_; clear hK K)
  refine opsQ0 ?_
  refine hK4 _ ?_
  obtain ⟨r7, hr7, H⟩ := bind_some H
  refine Sm.seqA h00 mixed hΓ (by kernel_rfl) fun K5 hK5 => ?_
  simp only [rs]
  repeat (refine opsG fun K hK => ?_; simp only [z, seval, xlaw37_one, xenqueue_Ask, xenqueue_Release, hr7]; (repeat (first | refine gcI ?_ | refine fun (_ : _ ≤ _) => ?_)); refine hK _ ?_; clear hK K)
  refine hK5 _ ?_
  refine Sm.seqX h00 mixed hΓ (by kernel_rfl) fun K6 hK6 => ?_
  simp only [rs]
  iterate 27 (refine opsX fun K hK => ?_; simp only [z, seval, xlaw37_one, xenqueue_Ask, xenqueue_Release, xlaw37_ints]; (repeat (first | refine gcI ?_ | refine fun (_ : _ ≤ _) => ?_)); refine hK _ ?_; clear hK K)
  refine bif_cases H (fun hs7 H => ?_) (fun hs7 H => ?_)
  · obtain ⟨hg8, H⟩ := gd_some H
    obtain ⟨r8, hr8, H⟩ := bind_some H
    refine opsTG rfl (by simp only [z, seval, xlaw37_one, xenqueue_Ask, xenqueue_Release, xlaw37_ints, hs7]) fun K hK => ?_; simp only [z, seval, xlaw37_one, xenqueue_Ask, xenqueue_Release, xlaw37_ints, hs7]; (repeat (first | refine gcI ?_ | refine fun (_ : _ ≤ _) => ?_)); refine hK _ ?_; clear hK K
    refine opsTG rfl (by simp only [z, seval, xlaw37_one, xenqueue_Ask, xenqueue_Release, xlaw37_ints, hs7, hr8]) fun K hK => ?_; simp only [z, seval, xlaw37_one, xenqueue_Ask, xenqueue_Release, xlaw37_ints, hs7, hr8]; (repeat (first | refine gcI ?_ | refine fun (_ : _ ≤ _) => ?_)); refine hK _ ?_; clear hK K
    refine opsP fun K hK => ?_; simp only [z, seval, xlaw37_one, xenqueue_Ask, xenqueue_Release, xlaw37_ints, hs7, hr8]; (repeat (first | refine gcI ?_ | refine fun (_ : _ ≤ _) => ?_)); refine Or.inl ?_; (repeat (first | refine gcI ?_ | refine fun (_ : _ ≤ _) => ?_)); refine hK _ ?_; clear hK K
    iterate 13 (refine opsX fun K hK => ?_; simp only [z, seval, xlaw37_one, xenqueue_Ask, xenqueue_Release, xlaw37_ints, hs7, hr8]; (repeat (first | refine gcI ?_ | refine fun (_ : _ ≤ _) => ?_)); refine hK _ ?_; clear hK K)
    refine hK6 _ ?_
    refine Sm.ret ?_
    try simp only [seval, Exit.exit.injEq]
    obtain rfl := Option.some.inj H
    refine Ret.ofR [] (.inr rfl) ?_
    simp only [z, seval]
  refine opsF rfl (by simp only [z, seval, xlaw37_one, xenqueue_Ask, xenqueue_Release, xlaw37_ints, hs7]) ?_
  refine opsF rfl (by simp only [z, seval, xlaw37_one, xenqueue_Ask, xenqueue_Release, xlaw37_ints, hs7]) ?_
  refine opsP fun K hK => ?_; simp only [z, seval, xlaw37_one, xenqueue_Ask, xenqueue_Release, xlaw37_ints, hs7]; (repeat (first | refine gcI ?_ | refine fun (_ : _ ≤ _) => ?_)); refine Or.inr ?_; (repeat (first | refine gcI ?_ | refine fun (_ : _ ≤ _) => ?_)); refine hK _ ?_; clear hK K
  (refine opsX fun K hK => ?_; simp only [z, seval, xlaw37_one, xenqueue_Ask, xenqueue_Release, xlaw37_ints, hs7]; (repeat (first | refine gcI ?_ | refine fun (_ : _ ≤ _) => ?_)); refine hK _ ?_; clear hK K)
  refine opsF rfl (by simp only [z, seval, xlaw37_one, xenqueue_Ask, xenqueue_Release, xlaw37_ints, hs7]) ?_
  refine opsF rfl (by simp only [z, seval, xlaw37_one, xenqueue_Ask, xenqueue_Release, xlaw37_ints, hs7]) ?_
  refine opsF rfl (by simp only [z, seval, xlaw37_one, xenqueue_Ask, xenqueue_Release, xlaw37_ints, hs7]) ?_
  refine opsF rfl (by simp only [z, seval, xlaw37_one, xenqueue_Ask, xenqueue_Release, xlaw37_ints, hs7]) ?_
  refine opsP fun K hK => ?_; simp only [z, seval, xlaw37_one, xenqueue_Ask, xenqueue_Release, xlaw37_ints, hs7]; (repeat (first | refine gcI ?_ | refine fun (_ : _ ≤ _) => ?_)); refine Or.inr ?_; (repeat (first | refine gcI ?_ | refine fun (_ : _ ≤ _) => ?_)); refine hK _ ?_; clear hK K
  (refine opsX fun K hK => ?_; simp only [z, seval, xlaw37_one, xenqueue_Ask, xenqueue_Release, xlaw37_ints, hs7]; (repeat (first | refine gcI ?_ | refine fun (_ : _ ≤ _) => ?_)); refine hK _ ?_; clear hK K)
  refine opsF rfl (by simp only [z, seval, xlaw37_one, xenqueue_Ask, xenqueue_Release, xlaw37_ints, hs7]) ?_
  refine opsF rfl (by simp only [z, seval, xlaw37_one, xenqueue_Ask, xenqueue_Release, xlaw37_ints, hs7]) ?_
  refine opsF rfl (by simp only [z, seval, xlaw37_one, xenqueue_Ask, xenqueue_Release, xlaw37_ints, hs7]) ?_
  refine opsF rfl (by simp only [z, seval, xlaw37_one, xenqueue_Ask, xenqueue_Release, xlaw37_ints, hs7]) ?_
  refine opsP fun K hK => ?_; simp only [z, seval, xlaw37_one, xenqueue_Ask, xenqueue_Release, xlaw37_ints, hs7]; (repeat (first | refine gcI ?_ | refine fun (_ : _ ≤ _) => ?_)); refine Or.inr ?_; (repeat (first | refine gcI ?_ | refine fun (_ : _ ≤ _) => ?_)); refine hK _ ?_; clear hK K
  (refine opsX fun K hK => ?_; simp only [z, seval, xlaw37_one, xenqueue_Ask, xenqueue_Release, xlaw37_ints, hs7]; (repeat (first | refine gcI ?_ | refine fun (_ : _ ≤ _) => ?_)); refine hK _ ?_; clear hK K)
  refine hK6 _ ?_
  refine Sm.ret ?_
  try simp only [seval, Exit.exit.injEq]
  obtain rfl := Option.some.inj H
  refine Ret.ofR [] (.inr rfl) ?_
  simp only [z, seval]

abbrev law37_few_s1 (l : List TWant) : S := stB [(0, .c (.slice 92) (.slice (List.map e_TWant l)))] []

def law37_few_k1 (n : Nat) (l : List TWant) : Option Bool :=
  some (decide ((l.length : Int) ≤ 40))

abbrev law37_few_t2 (l : List TWant) (k : Int) : S := stB [(0, .c (.slice 92) (.slice (List.map e_TWant l))), (3, .c (.int .i64) (.int k))] []

def law37_few_b2 (n : Nat) (l : List TWant) (k : Int) : Option ((Int) ⊕ (((Bool) ⊕ (Unit)))) :=
  bif (decide (k < (l.length : Int))) then
    gd ((0 ≤ k ∧ k < (l.length : Int))) <|
    bif (decide ((((gt l (Int.toNat k)).Name).length : Int) > 60)) then
      some (.inr (.inl false))
    else
      some (.inl (IntKind.wrap .i64 (k + 1)))
  else
    some (.inr (.inr ()))

def law37_few (n : Nat) (l : List TWant) : Option Bool :=
  (loopF (fun (x : Int) => law37_few_b2 n l x) n 0).bind fun y4 =>
  match y4 with
  | .inl v =>
    some v
  | .inr v =>
    law37_few_k1 n l

def xlaw37_few (n : Nat) : Go.AE.Fn := mkFn (A := (List TWant)) (R := Bool) 19 [(false, [.slice 92])] false (fun xs => ((cg (xs.getD 0 []) 0).toSl.map d_TWant)) (fun a => [[.slice (List.map e_TWant a)]]) (fun a => law37_few n a) (fun r => [.c .bool (.bool r)]) (fun r => [])

theorem claw37_few (n : Nat) : Contract Try.prog (xlaw37_few n) := by
  have hΓ : ∀ g, g ∈ ([] : List Go.AE.Fn) → Contract Try.prog g := by simp
  refine contract_f (Try.f19.body.getD .skip) h00 Try.func19 rfl (by intro args w; exact Try.call19 args w) (by decide) (by intro _ r; exact ⟨rfl, by simp⟩) ?_
  rintro l r H
  try dsimp only at H
  unfold law37_few at H
  simp only [Try.f19, Option.getD]
  refine Sm.seqA h00 mixed hΓ (by kernel_rfl) fun K1 hK1 => ?_
  simp only [rs]
  repeat (refine opsG fun K hK => ?_; simp only [z, seval]; (repeat (first | refine gcI ?_ | refine fun (_ : _ ≤ _) => ?_)); refine hK _ ?_; clear hK K)
  refine hK1 _ ?_
  refine Sm.cut (fun (x : Unit) => law37_few_s1 l) (fun x => law37_few_k1 n l = some r) ?_ ?_
  · refine Sm.seqA h00 mixed hΓ (by kernel_rfl) fun K3 hK3 => ?_
    simp only [rs]
    repeat (refine opsG fun K hK => ?_; simp only [z, seval]; (repeat (first | refine gcI ?_ | refine fun (_ : _ ≤ _) => ?_)); refine hK _ ?_; clear hK K)
    refine hK3 _ ?_
    refine Sm.block ?_
    obtain ⟨y4, hy4, Ho4⟩ := bind_some H
    refine Sm.loopB (fun (x : Int) => law37_few_b2 n l x) (fun x => law37_few_t2 l x) hy4 ?_ ?_
    · exact weak_b [] rfl rfl rfl (by simp only [wk, z, seval]) (by simp only [wk, z, seval])
    rintro k z4 H
    try dsimp only at H
    unfold law37_few_b2 at H
    refine Sm.seqK fun K5 hK5 => ?_
    refine Sm.seqA h00 mixed hΓ (by kernel_rfl) fun K6 hK6 => ?_
    simp only [rs]
    repeat (refine opsG fun K hK => ?_; simp only [z, seval, law37_few_t2]; (repeat (first | refine gcI ?_ | refine fun (_ : _ ≤ _) => ?_)); refine hK _ ?_; clear hK K)
    refine hK6 _ ?_
    refine Sm.condK (by rfl) fun Ka Kb ha hb => ?_
    simp only [wpCond, z, seval, law37_few_t2]
    refine ⟨fun h7 => ha ?_, fun h7 => hb ?_⟩
    · first | replace H := bif_t h7 H | replace H := bif_t2 h7 H (by simp only [List.length_append])
      refine Sm.skip ?_
      refine hK5 _ ?_
      refine Sm.seqK fun K8 hK8 => ?_
      refine Sm.block ?_
      obtain ⟨hg12, H⟩ := gd_some H
      refine Sm.seqA h00 mixed hΓ (by kernel_rfl) fun K9 hK9 => ?_
      simp only [rs]
      repeat (refine opsG fun K hK => ?_; simp only [z, seval, law37_few_t2]; (repeat (first | refine gcI ?_ | refine fun (_ : _ ≤ _) => ?_)); refine hK _ ?_; clear hK K)
      refine hK9 _ ?_
      refine Sm.condK (by rfl) fun Ka Kb ha hb => ?_
      simp only [wpCond, z, seval, law37_few_t2]
      refine ⟨fun h10 => ha ?_, fun h10 => hb ?_⟩
      · first | replace H := bif_t h10 H | replace H := bif_t2 h10 H (by simp only [List.length_append])
        refine Sm.seqA h00 mixed hΓ (by kernel_rfl) fun K11 hK11 => ?_
        simp only [rs]
        repeat (refine opsG fun K hK => ?_; simp only [z, seval, law37_few_t2]; (repeat (first | refine gcI ?_ | refine fun (_ : _ ≤ _) => ?_)); refine hK _ ?_; clear hK K)
        refine hK11 _ ?_
        refine Sm.ret ?_
        try simp only [seval, Exit.exit.injEq]
        refine ⟨⟨_, (Option.some.inj H).symm⟩, fun hz => ?_⟩
        have hyy := Sum.inr.inj ((Option.some.inj H).trans hz)
        subst hyy
        have H := Ho4
        try dsimp only at H
        try simp only [seval, Exit.exit.injEq]
        obtain rfl := Option.some.inj H
        refine Ret.ofR [] (.inr rfl) ?_
        simp only [z, seval, law37_few_t2]
      first | replace H := bif_f h10 H | replace H := bif_f2 h10 H (by simp only [List.length_append])
      refine Sm.skip ?_
      refine hK8 _ ?_
      refine Sm.regA h00 mixed hΓ (by kernel_rfl) ?_
      simp only [rs]
      repeat (refine opsG fun K hK => ?_; simp only [z, seval, law37_few_t2]; (repeat (first | refine gcI ?_ | refine fun (_ : _ ≤ _) => ?_)); refine hK _ ?_; clear hK K)
      refine opsG0 ?_
      try simp only [seval, Exit.exit.injEq]
      refine ⟨_, (Option.some.inj H).symm, ?_⟩
      exact weak_b [] rfl rfl rfl (by simp only [wk, z, seval, law37_few_t2]) (by simp only [wk, z, seval, law37_few_t2])
    first | replace H := bif_f h7 H | replace H := bif_f2 h7 H (by simp only [List.length_append])
    refine Sm.exit ?_
    try simp only [seval, Exit.exit.injEq]
    refine ⟨⟨_, (Option.some.inj H).symm⟩, fun hz => ?_⟩
    have hyy := Sum.inr.inj ((Option.some.inj H).trans hz)
    subst hyy
    have H := Ho4
    try dsimp only at H
    try simp only [seval, Exit.exit.injEq]
    refine ⟨(), H, ?_⟩
    exact weak_b [] rfl rfl rfl (by simp only [wk, z, seval, law37_few_t2]) (by simp only [wk, z, seval, law37_few_t2])
  rintro ⟨⟩ H
  try dsimp only at H
  unfold law37_few_k1 at H
  refine Sm.seqA h00 mixed hΓ (by kernel_rfl) fun K2 hK2 => ?_
  simp only [rs]
  repeat (refine opsG fun K hK => ?_; simp only [z, seval, law37_few_s1]; (repeat (first | refine gcI ?_ | refine fun (_ : _ ≤ _) => ?_)); refine hK _ ?_; clear hK K)
  refine hK2 _ ?_
  refine Sm.ret ?_
  try simp only [seval, Exit.exit.injEq]
  obtain rfl := Option.some.inj H
  refine Ret.ofR [] (.inr rfl) ?_
  simp only [z, seval, law37_few_s1]

abbrev law37_light_s1 (all : List TRequest) : S := stB [(3, .own 9000 [.int .i64, .slice 92] 0 all.length)] [(9000, .row 61 (List.map e_TRequest all))]

def law37_light_k1 (n : Nat) (all : List TRequest) : Option Bool :=
  some (decide (((all.length : Nat) : Int) ≤ 30))

abbrev law37_light_t2 (all : List TRequest) (k : Int) : S := stB [(3, .own 9002 [.int .i64, .slice 92] 0 all.length), (4, .c (.int .i64) (.int k))] [(9002, .row 61 (List.map e_TRequest all))]

def law37_light_b2 (n : Nat) (all : List TRequest) (k : Int) : Option ((Int) ⊕ (((Bool) ⊕ (Unit)))) :=
  bif (decide (k < ((all.length : Nat) : Int))) then
    gd ((0 ≤ k ∧ k < (all.length : Int)) ∧ (Int.toNat k) < all.length) <|
    (law37_few n ((gt all (Int.toNat k)).Wants)).bind fun r1 =>
    bif (!r1) then
      some (.inr (.inl false))
    else
      some (.inl (IntKind.wrap .i64 (k + 1)))
  else
    some (.inr (.inr ()))

def law37_light (n : Nat) (t : TTable) : Option Bool :=
  gd (t.Held.length ≤ 2147483648 ∧ (t.Held.length + t.Waiting.length) ≤ 2147483648) <|
  (loopF (fun (x : Int) => law37_light_b2 n (t.Held ++ t.Waiting) x) n 0).bind fun y7 =>
  match y7 with
  | .inl v =>
    some v
  | .inr v =>
    law37_light_k1 n (t.Held ++ t.Waiting)

def xlaw37_light (n : Nat) : Go.AE.Fn := mkFn (A := TTable) (R := Bool) 12 [(true, [.slice 61, .slice 61])] false (fun xs => (⟨((cg (xs.getD 0 []) 0).toSl.map d_TRequest), ((cg (xs.getD 0 []) 1).toSl.map d_TRequest)⟩ : TTable)) (fun a => [[.slice (List.map e_TRequest a.Held), .slice (List.map e_TRequest a.Waiting)]]) (fun a => law37_light n a) (fun r => [.c .bool (.bool r)]) (fun r => [])

theorem claw37_light (n : Nat) : Contract Try.prog (xlaw37_light n) := by
  have hΓ : ∀ g, g ∈ ([xlaw37_few n] : List Go.AE.Fn) → Contract Try.prog g := by
    intro g hg; simp only [List.mem_cons, List.not_mem_nil, or_false] at hg; subst hg; exact claw37_few n
  refine contract_f (Try.f12.body.getD .skip) h00 Try.func12 rfl (by intro args w; exact Try.call12 args w) (by decide) (by intro _ r; exact ⟨rfl, by simp⟩) ?_
  rintro t r H
  try dsimp only at H
  unfold law37_light at H
  simp only [Try.f12, Option.getD]
  refine Sm.seqA h00 mixed hΓ (by kernel_rfl) fun K1 hK1 => ?_
  simp only [rs]
  repeat (refine opsG fun K hK => ?_; simp only [z, seval]; (repeat (first | refine gcI ?_ | refine fun (_ : _ ≤ _) => ?_)); refine hK _ ?_; clear hK K)
  refine hK1 _ ?_
  obtain ⟨⟨hg3, hg4⟩, H⟩ := gd_some H
  refine Sm.seqQ h00 mixed hΓ [0, 1, 2, 3, 4, 5, 6, 7] [(none, [], [80]), (none, [16], []), (none, [16], []), (none, [80], [128, 80]), (none, [16], []), (none, [16], []), (none, [128], [176, 128]), (none, [], [])] (by kernel_rfl) rfl fun K2 hK2 => ?_
  simp only [rs]
  iterate 8 (refine opsQ fun K hK => ?_; simp only [z, seval]; (repeat (first | refine gcI ?_ | refine fun (_ : _ ≤ _) => ?_)); refine hK _ ?_; clear hK K)
  refine opsQ0 ?_
  refine hK2 _ ?_
  refine Sm.cut (fun (x : (List TRequest)) => law37_light_s1 x) (fun x => law37_light_k1 n x = some r) ?_ ?_
  · refine Sm.seqA h00 mixed hΓ (by kernel_rfl) fun K6 hK6 => ?_
    simp only [rs]
    repeat (refine opsG fun K hK => ?_; simp only [z, seval]; (repeat (first | refine gcI ?_ | refine fun (_ : _ ≤ _) => ?_)); refine hK _ ?_; clear hK K)
    refine hK6 _ ?_
    refine Sm.block ?_
    obtain ⟨y7, hy7, Ho7⟩ := bind_some H
    refine Sm.loopB (fun (x : Int) => law37_light_b2 n (t.Held ++ t.Waiting) x) (fun x => law37_light_t2 (t.Held ++ t.Waiting) x) hy7 ?_ ?_
    · exact weak_b [some 176] rfl rfl rfl (by simp only [wk, z, seval]) (by simp only [wk, z, seval])
    rintro k z7 H
    try dsimp only at H
    unfold law37_light_b2 at H
    refine Sm.seqK fun K8 hK8 => ?_
    refine Sm.seqA h00 mixed hΓ (by kernel_rfl) fun K9 hK9 => ?_
    simp only [rs]
    repeat (refine opsG fun K hK => ?_; simp only [z, seval, law37_light_t2]; (repeat (first | refine gcI ?_ | refine fun (_ : _ ≤ _) => ?_)); refine hK _ ?_; clear hK K)
    refine hK9 _ ?_
    refine Sm.condK (by rfl) fun Ka Kb ha hb => ?_
    simp only [wpCond, z, seval, law37_light_t2]
    refine ⟨fun h10 => ha ?_, fun h10 => hb ?_⟩
    · first | replace H := bif_t h10 H | replace H := bif_t2 h10 H (by simp only [List.length_append])
      refine Sm.skip ?_
      refine hK8 _ ?_
      refine Sm.seqK fun K11 hK11 => ?_
      refine Sm.block ?_
      obtain ⟨⟨hg15, hg16⟩, H⟩ := gd_some H
      try simp only [List.length_append] at hg15 hg16
      obtain ⟨r1, hr1, H⟩ := bind_some H
      refine Sm.seqA h00 mixed hΓ (by kernel_rfl) fun K12 hK12 => ?_
      simp only [rs]
      repeat (refine opsG fun K hK => ?_; simp only [z, seval, law37_light_t2, xlaw37_few, hr1]; (repeat (first | refine gcI ?_ | refine fun (_ : _ ≤ _) => ?_)); refine hK _ ?_; clear hK K)
      refine hK12 _ ?_
      refine Sm.condK (by rfl) fun Ka Kb ha hb => ?_
      simp only [wpCond, z, seval, law37_light_t2]
      refine ⟨fun h13 => ha ?_, fun h13 => hb ?_⟩
      · first | replace H := bif_t h13 H | replace H := bif_t2 h13 H (by simp only [List.length_append])
        refine Sm.seqA h00 mixed hΓ (by kernel_rfl) fun K14 hK14 => ?_
        simp only [rs]
        repeat (refine opsG fun K hK => ?_; simp only [z, seval, law37_light_t2]; (repeat (first | refine gcI ?_ | refine fun (_ : _ ≤ _) => ?_)); refine hK _ ?_; clear hK K)
        refine hK14 _ ?_
        refine Sm.ret ?_
        try simp only [seval, Exit.exit.injEq]
        refine ⟨⟨_, (Option.some.inj H).symm⟩, fun hz => ?_⟩
        have hyy := Sum.inr.inj ((Option.some.inj H).trans hz)
        subst hyy
        have H := Ho7
        try dsimp only at H
        try simp only [seval, Exit.exit.injEq]
        obtain rfl := Option.some.inj H
        refine Ret.ofR [] (.inr rfl) ?_
        simp only [z, seval, law37_light_t2]
      first | replace H := bif_f h13 H | replace H := bif_f2 h13 H (by simp only [List.length_append])
      refine Sm.skip ?_
      refine hK11 _ ?_
      refine Sm.regA h00 mixed hΓ (by kernel_rfl) ?_
      simp only [rs]
      repeat (refine opsG fun K hK => ?_; simp only [z, seval, law37_light_t2]; (repeat (first | refine gcI ?_ | refine fun (_ : _ ≤ _) => ?_)); refine hK _ ?_; clear hK K)
      refine opsG0 ?_
      try simp only [seval, Exit.exit.injEq]
      refine ⟨_, (Option.some.inj H).symm, ?_⟩
      exact weak_b [some 9002] rfl rfl rfl (by simp only [wk, z, seval, law37_light_t2]) (by simp only [wk, z, seval, law37_light_t2])
    first | replace H := bif_f h10 H | replace H := bif_f2 h10 H (by simp only [List.length_append])
    refine Sm.exit ?_
    try simp only [seval, Exit.exit.injEq]
    refine ⟨⟨_, (Option.some.inj H).symm⟩, fun hz => ?_⟩
    have hyy := Sum.inr.inj ((Option.some.inj H).trans hz)
    subst hyy
    have H := Ho7
    try dsimp only at H
    try simp only [seval, Exit.exit.injEq]
    refine ⟨_, H, ?_⟩
    exact weak_b [some 9002] rfl rfl rfl (by simp only [wk, z, seval, law37_light_t2]) (by simp only [wk, z, seval, law37_light_t2])
  rintro all H
  try dsimp only at H
  unfold law37_light_k1 at H
  refine Sm.seqA h00 mixed hΓ (by kernel_rfl) fun K5 hK5 => ?_
  simp only [rs]
  repeat (refine opsG fun K hK => ?_; simp only [z, seval, law37_light_s1]; (repeat (first | refine gcI ?_ | refine fun (_ : _ ≤ _) => ?_)); refine hK _ ?_; clear hK K)
  refine hK5 _ ?_
  refine Sm.ret ?_
  try simp only [seval, Exit.exit.injEq]
  obtain rfl := Option.some.inj H
  refine Ret.ofR [] (.inr rfl) ?_
  simp only [z, seval, law37_light_s1]

abbrev law37_wants_s1 (out : List TWant) : S := stB [(3, .own 9000 [.str, .bool] 0 out.length)] [(9000, .row 95 (List.map e_TWant out))]

def law37_wants_k1 (n : Nat) (out : List TWant) : Option (List TWant) :=
  some out

abbrev law37_wants_t2 (l : List TWant) (out : List TWant) (k : Int) : S := stB [(0, .c (.slice 92) (.slice (List.map e_TWant l))), (3, .own 9002 [.str, .bool] 0 out.length), (4, .c (.int .i64) (.int k))] [(9002, .row 95 (List.map e_TWant out))]

def law37_wants_b2 (n : Nat) (l : List TWant) (out : List TWant) (k : Int) : Option (((List TWant) × Int) ⊕ (((List TWant)))) :=
  bif (decide (k < (l.length : Int))) then
    gd ((0 ≤ k ∧ k < (l.length : Int)) ∧ (0 ≤ k ∧ k < (l.length : Int)) ∧ (out.length + 1) ≤ 2147483648) <|
    some (.inl ((out ++ [(gt l (Int.toNat k))]), (IntKind.wrap .i64 (k + 1))))
  else
    some (.inr out)

def law37_wants (n : Nat) (l : List TWant) : Option (List TWant) :=
  (loopF (fun (x : (List TWant) × Int) => law37_wants_b2 n l x.1 x.2) n ([], 0)).bind fun y5 =>
  law37_wants_k1 n y5

def xlaw37_wants (n : Nat) : Go.AE.Fn := mkFn (A := (List TWant)) (R := (List TWant)) 22 [(false, [.slice 92])] false (fun xs => ((cg (xs.getD 0 []) 0).toSl.map d_TWant)) (fun a => [[.slice (List.map e_TWant a)]]) (fun a => law37_wants n a) (fun r => [.own 0 [.str, .bool] 0 r.length]) (fun r => [.row 95 (List.map e_TWant r)])

theorem claw37_wants (n : Nat) : Contract Try.prog (xlaw37_wants n) := by
  have hΓ : ∀ g, g ∈ ([] : List Go.AE.Fn) → Contract Try.prog g := by simp
  refine contract_f (Try.f22.body.getD .skip) h00 Try.func22 rfl (by intro args w; exact Try.call22 args w) (by decide) (by
    intro _ r; refine ⟨rfl, ?_⟩; simp only [List.mem_cons, List.not_mem_nil, or_false]; rintro _ rfl
    · exact ⟨95, _, _, rfl, ty95, rfl⟩) ?_
  rintro l r H
  try dsimp only at H
  unfold law37_wants at H
  simp only [Try.f22, Option.getD]
  refine Sm.seqA h00 mixed hΓ (by kernel_rfl) fun K1 hK1 => ?_
  simp only [rs]
  repeat (refine opsG fun K hK => ?_; simp only [z, seval]; (repeat (first | refine gcI ?_ | refine fun (_ : _ ≤ _) => ?_)); refine hK _ ?_; clear hK K)
  refine hK1 _ ?_
  refine Sm.seqA h00 mixed hΓ (by kernel_rfl) fun K2 hK2 => ?_
  simp only [rs]
  repeat (refine opsG fun K hK => ?_; simp only [z, seval]; (repeat (first | refine gcI ?_ | refine fun (_ : _ ≤ _) => ?_)); refine hK _ ?_; clear hK K)
  refine hK2 _ ?_
  refine Sm.cut (fun (x : (List TWant)) => law37_wants_s1 x) (fun x => law37_wants_k1 n x = some r) ?_ ?_
  · refine Sm.seqA h00 mixed hΓ (by kernel_rfl) fun K4 hK4 => ?_
    simp only [rs]
    repeat (refine opsG fun K hK => ?_; simp only [z, seval]; (repeat (first | refine gcI ?_ | refine fun (_ : _ ≤ _) => ?_)); refine hK _ ?_; clear hK K)
    refine hK4 _ ?_
    refine Sm.block ?_
    obtain ⟨y5, hy5, Ho5⟩ := bind_some H
    refine Sm.loopB (fun (x : (List TWant) × Int) => law37_wants_b2 n l x.1 x.2) (fun x => law37_wants_t2 l x.1 x.2) hy5 ?_ ?_
    · exact weak_b [none] rfl rfl rfl (by simp only [wk, z, seval]) (by simp only [wk, z, seval])
    rintro ⟨out, k⟩ z5 H
    try dsimp only at H
    unfold law37_wants_b2 at H
    refine Sm.seqK fun K6 hK6 => ?_
    refine Sm.seqA h00 mixed hΓ (by kernel_rfl) fun K7 hK7 => ?_
    simp only [rs]
    repeat (refine opsG fun K hK => ?_; simp only [z, seval, law37_wants_t2]; (repeat (first | refine gcI ?_ | refine fun (_ : _ ≤ _) => ?_)); refine hK _ ?_; clear hK K)
    refine hK7 _ ?_
    refine Sm.condK (by rfl) fun Ka Kb ha hb => ?_
    simp only [wpCond, z, seval, law37_wants_t2]
    refine ⟨fun h8 => ha ?_, fun h8 => hb ?_⟩
    · first | replace H := bif_t h8 H | replace H := bif_t2 h8 H (by simp only [List.length_append])
      refine Sm.skip ?_
      refine hK6 _ ?_
      refine Sm.seqK fun K9 hK9 => ?_
      refine Sm.block ?_
      obtain ⟨⟨hg10, hg11, hg12⟩, H⟩ := gd_some H
      refine Sm.regD h00 mixed hΓ (by kernel_rfl) ?_
      simp only [rs]
      repeat (refine opsH fun K hK => ?_; simp only [z, seval, law37_wants_t2]; (repeat (first | refine gcI ?_ | refine fun (_ : _ ≤ _) => ?_)); refine hK _ ?_; clear hK K)
      refine opsH0 ?_
      refine hK9 _ ?_
      refine Sm.regA h00 mixed hΓ (by kernel_rfl) ?_
      simp only [rs]
      repeat (refine opsG fun K hK => ?_; simp only [z, seval, law37_wants_t2]; (repeat (first | refine gcI ?_ | refine fun (_ : _ ≤ _) => ?_)); refine hK _ ?_; clear hK K)
      refine opsG0 ?_
      try simp only [seval, Exit.exit.injEq]
      refine ⟨(_, _), (Option.some.inj H).symm, ?_⟩
      exact weak_b [some 384] rfl rfl rfl (by simp only [wk, z, seval, law37_wants_t2]) (by simp only [wk, z, seval, law37_wants_t2])
    first | replace H := bif_f h8 H | replace H := bif_f2 h8 H (by simp only [List.length_append])
    refine Sm.exit ?_
    try simp only [seval, Exit.exit.injEq]
    refine ⟨⟨_, (Option.some.inj H).symm⟩, fun hz => ?_⟩
    have hyy := Sum.inr.inj ((Option.some.inj H).trans hz)
    subst hyy
    have H := Ho5
    try dsimp only at H
    try simp only [seval, Exit.exit.injEq]
    refine ⟨_, H, ?_⟩
    exact weak_b [some 9002] rfl rfl rfl (by simp only [wk, z, seval, law37_wants_t2]) (by simp only [wk, z, seval, law37_wants_t2])
  rintro out H
  try dsimp only at H
  unfold law37_wants_k1 at H
  refine Sm.seqA h00 mixed hΓ (by kernel_rfl) fun K3 hK3 => ?_
  simp only [rs]
  repeat (refine opsG fun K hK => ?_; simp only [z, seval, law37_wants_s1]; (repeat (first | refine gcI ?_ | refine fun (_ : _ ≤ _) => ?_)); refine hK _ ?_; clear hK K)
  refine hK3 _ ?_
  refine Sm.ret ?_
  try simp only [seval, Exit.exit.injEq]
  obtain rfl := Option.some.inj H
  refine Ret.ofR [some 9000] (.inr rfl) ?_
  simp only [z, seval, law37_wants_s1]

abbrev law37_requests_s1 (out : List TRequest) : S := stB [(3, .own 9000 [.int .i64, .slice 95] 0 out.length)] [(9000, .row 88 (List.map e_TRequest out))]

def law37_requests_k1 (n : Nat) (out : List TRequest) : Option (List TRequest) :=
  some out

abbrev law37_requests_t2 (l : List TRequest) (out : List TRequest) (k : Int) : S := stB [(0, .c (.slice 61) (.slice (List.map e_TRequest l))), (3, .own 9002 [.int .i64, .slice 95] 0 out.length), (4, .c (.int .i64) (.int k))] [(9002, .row 88 (List.map e_TRequest out))]

def law37_requests_b2 (n : Nat) (l : List TRequest) (out : List TRequest) (k : Int) : Option (((List TRequest) × Int) ⊕ (((List TRequest)))) :=
  bif (decide (k < (l.length : Int))) then
    gd ((0 ≤ k ∧ k < (l.length : Int)) ∧ (0 ≤ k ∧ k < (l.length : Int))) <|
    (law37_wants n ((gt l (Int.toNat k)).Wants)).bind fun r1 =>
    gd ((out.length + 1) ≤ 2147483648) <|
    some (.inl ((out ++ [(⟨(gt l (Int.toNat k)).Job, r1⟩ : TRequest)]), (IntKind.wrap .i64 (k + 1))))
  else
    some (.inr out)

def law37_requests (n : Nat) (l : List TRequest) : Option (List TRequest) :=
  (loopF (fun (x : (List TRequest) × Int) => law37_requests_b2 n l x.1 x.2) n ([], 0)).bind fun y5 =>
  law37_requests_k1 n y5

def xlaw37_requests (n : Nat) : Go.AE.Fn := mkFn (A := (List TRequest)) (R := (List TRequest)) 33 [(false, [.slice 61])] true (fun xs => ((cg (xs.getD 0 []) 0).toSl.map d_TRequest)) (fun a => [[.slice (List.map e_TRequest a)]]) (fun a => law37_requests n a) (fun r => [.own 0 [.int .i64, .slice 95] 0 r.length]) (fun r => [.row 88 (List.map e_TRequest r)])

theorem claw37_requests (n : Nat) : Contract Try.prog (xlaw37_requests n) := by
  have hΓ : ∀ g, g ∈ ([xlaw37_wants n] : List Go.AE.Fn) → Contract Try.prog g := by
    intro g hg; simp only [List.mem_cons, List.not_mem_nil, or_false] at hg; subst hg; exact claw37_wants n
  refine contract_f (Try.f33.body.getD .skip) h00 Try.func33 rfl (by intro args w; exact Try.call33 args w) (by decide) (by intro h; cases h) ?_
  rintro l r H
  try dsimp only at H
  unfold law37_requests at H
  simp only [Try.f33, Option.getD]
  refine Sm.seqA h00 mixed hΓ (by kernel_rfl) fun K1 hK1 => ?_
  simp only [rs]
  repeat (refine opsG fun K hK => ?_; simp only [z, seval]; (repeat (first | refine gcI ?_ | refine fun (_ : _ ≤ _) => ?_)); refine hK _ ?_; clear hK K)
  refine hK1 _ ?_
  refine Sm.seqA h00 mixed hΓ (by kernel_rfl) fun K2 hK2 => ?_
  simp only [rs]
  repeat (refine opsG fun K hK => ?_; simp only [z, seval]; (repeat (first | refine gcI ?_ | refine fun (_ : _ ≤ _) => ?_)); refine hK _ ?_; clear hK K)
  refine hK2 _ ?_
  refine Sm.cut (fun (x : (List TRequest)) => law37_requests_s1 x) (fun x => law37_requests_k1 n x = some r) ?_ ?_
  · refine Sm.seqA h00 mixed hΓ (by kernel_rfl) fun K4 hK4 => ?_
    simp only [rs]
    repeat (refine opsG fun K hK => ?_; simp only [z, seval]; (repeat (first | refine gcI ?_ | refine fun (_ : _ ≤ _) => ?_)); refine hK _ ?_; clear hK K)
    refine hK4 _ ?_
    refine Sm.block ?_
    obtain ⟨y5, hy5, Ho5⟩ := bind_some H
    refine Sm.loopB (fun (x : (List TRequest) × Int) => law37_requests_b2 n l x.1 x.2) (fun x => law37_requests_t2 l x.1 x.2) hy5 ?_ ?_
    · exact weak_b [none] rfl rfl rfl (by simp only [wk, z, seval]) (by simp only [wk, z, seval])
    rintro ⟨out, k⟩ z5 H
    try dsimp only at H
    unfold law37_requests_b2 at H
    refine Sm.seqK fun K6 hK6 => ?_
    refine Sm.seqA h00 mixed hΓ (by kernel_rfl) fun K7 hK7 => ?_
    simp only [rs]
    repeat (refine opsG fun K hK => ?_; simp only [z, seval, law37_requests_t2]; (repeat (first | refine gcI ?_ | refine fun (_ : _ ≤ _) => ?_)); refine hK _ ?_; clear hK K)
    refine hK7 _ ?_
    refine Sm.condK (by rfl) fun Ka Kb ha hb => ?_
    simp only [wpCond, z, seval, law37_requests_t2]
    refine ⟨fun h8 => ha ?_, fun h8 => hb ?_⟩
    · first | replace H := bif_t h8 H | replace H := bif_t2 h8 H (by simp only [List.length_append])
      refine Sm.skip ?_
      refine hK6 _ ?_
      refine Sm.seqK fun K9 hK9 => ?_
      refine Sm.block ?_
      obtain ⟨⟨hg10, hg11⟩, H⟩ := gd_some H
      obtain ⟨r1, hr1, H⟩ := bind_some H
      obtain ⟨hg12, H⟩ := gd_some H
      refine Sm.regQ h00 mixed hΓ [0, 1, 2, 3, 4, 5, 6, 7, 8, 9, 10, 11, 12, 13, 14, 15] [(none, [], []), (none, [], []), (none, [], []), (none, [], []), (none, [], []), (none, [], []), (none, [], []), (none, [], []), (none, [], []), (none, [], []), (none, [], []), (none, [], [367, 366, 365, 364, 363, 362, 361, 360, 359, 358, 357, 356, 355, 354, 353, 352]), (none, [352], []), (none, [352], [384, 352]), (none, [384, 9002], [400, 384, 9002]), (none, [], [])] (by kernel_rfl) rfl ?_
      simp only [rs]
      iterate 16 (refine opsQ fun K hK => ?_; simp only [z, seval, law37_requests_t2, xlaw37_wants, hr1]; (repeat (first | refine gcI ?_ | refine fun (_ : _ ≤ _) => ?_)); refine hK _ ?_; clear hK K)
      refine opsQ0 ?_
      refine hK9 _ ?_
      refine Sm.regA h00 mixed hΓ (by kernel_rfl) ?_
      simp only [rs]
      repeat (refine opsG fun K hK => ?_; simp only [z, seval, law37_requests_t2]; (repeat (first | refine gcI ?_ | refine fun (_ : _ ≤ _) => ?_)); refine hK _ ?_; clear hK K)
      refine opsG0 ?_
      try simp only [seval, Exit.exit.injEq]
      refine ⟨(_, _), (Option.some.inj H).symm, ?_⟩
      exact weak_b [some 400] rfl rfl rfl (by simp only [wk, z, seval, law37_requests_t2]) (by simp only [wk, z, seval, law37_requests_t2])
    first | replace H := bif_f h8 H | replace H := bif_f2 h8 H (by simp only [List.length_append])
    refine Sm.exit ?_
    try simp only [seval, Exit.exit.injEq]
    refine ⟨⟨_, (Option.some.inj H).symm⟩, fun hz => ?_⟩
    have hyy := Sum.inr.inj ((Option.some.inj H).trans hz)
    subst hyy
    have H := Ho5
    try dsimp only at H
    try simp only [seval, Exit.exit.injEq]
    refine ⟨_, H, ?_⟩
    exact weak_b [some 9002] rfl rfl rfl (by simp only [wk, z, seval, law37_requests_t2]) (by simp only [wk, z, seval, law37_requests_t2])
  rintro out H
  try dsimp only at H
  unfold law37_requests_k1 at H
  refine Sm.seqA h00 mixed hΓ (by kernel_rfl) fun K3 hK3 => ?_
  simp only [rs]
  repeat (refine opsG fun K hK => ?_; simp only [z, seval, law37_requests_s1]; (repeat (first | refine gcI ?_ | refine fun (_ : _ ≤ _) => ?_)); refine hK _ ?_; clear hK K)
  refine hK3 _ ?_
  refine Sm.ret ?_
  try simp only [seval, Exit.exit.injEq]
  obtain rfl := Option.some.inj H
  refine Ret.ofR [some 9000] (.inr rfl) ?_
  simp only [z, seval, law37_requests_s1]

def law37_table (n : Nat) (t : TTable) : Option TTable :=
  (law37_requests n t.Held).bind fun r1 =>
  (law37_requests n t.Waiting).bind fun r2 =>
  some (⟨r1, r2⟩ : TTable)

def xlaw37_table (n : Nat) : Go.AE.Fn := mkFn (A := TTable) (R := TTable) 13 [(true, [.slice 61, .slice 61])] true (fun xs => (⟨((cg (xs.getD 0 []) 0).toSl.map d_TRequest), ((cg (xs.getD 0 []) 1).toSl.map d_TRequest)⟩ : TTable)) (fun a => [[.slice (List.map e_TRequest a.Held), .slice (List.map e_TRequest a.Waiting)]]) (fun a => law37_table n a) (fun r => [.agg [.own 0 [.int .i64, .slice 95] 0 r.Held.length, .own 1 [.int .i64, .slice 95] 0 r.Waiting.length]]) (fun r => [.row 88 (List.map e_TRequest r.Held), .row 88 (List.map e_TRequest r.Waiting)])

theorem claw37_table (n : Nat) : Contract Try.prog (xlaw37_table n) := by
  have hΓ : ∀ g, g ∈ ([xlaw37_requests n] : List Go.AE.Fn) → Contract Try.prog g := by
    intro g hg; simp only [List.mem_cons, List.not_mem_nil, or_false] at hg; subst hg; exact claw37_requests n
  refine contract_f (Try.f13.body.getD .skip) h00 Try.func13 rfl (by intro args w; exact Try.call13 args w) (by decide) (by intro h; cases h) ?_
  rintro t r H
  try dsimp only at H
  unfold law37_table at H
  simp only [Try.f13, Option.getD]
  refine Sm.seqA h00 mixed hΓ (by kernel_rfl) fun K1 hK1 => ?_
  simp only [rs]
  repeat (refine opsG fun K hK => ?_; simp only [z, seval]; (repeat (first | refine gcI ?_ | refine fun (_ : _ ≤ _) => ?_)); refine hK _ ?_; clear hK K)
  refine hK1 _ ?_
  obtain ⟨r1, hr1, H⟩ := bind_some H
  obtain ⟨r2, hr2, H⟩ := bind_some H
  refine Sm.seqQ h00 mixed hΓ [0, 1, 2, 3, 4, 5, 6, 7] [(none, [16], []), (none, [16], []), (none, [], [95, 94, 93, 92, 91, 90, 89, 88, 87, 86, 85, 84, 83, 82, 81, 80]), (none, [16], []), (none, [16], []), (none, [], [143, 142, 141, 140, 139, 138, 137, 136, 135, 134, 133, 132, 131, 130, 129, 128]), (none, [80, 128], []), (none, [32, 80, 128], [32])] (by kernel_rfl) rfl fun K2 hK2 => ?_
  simp only [rs]
  iterate 8 (refine opsQ fun K hK => ?_; simp only [z, seval, xlaw37_requests, hr1, hr2]; (repeat (first | refine gcI ?_ | refine fun (_ : _ ≤ _) => ?_)); refine hK _ ?_; clear hK K)
  refine opsQ0 ?_
  refine hK2 _ ?_
  refine Sm.ret ?_
  try simp only [seval, Exit.exit.injEq]
  obtain rfl := Option.some.inj H
  refine Ret.ofR [some 80, some 128] (.inr rfl) ?_
  simp only [z, seval]

abbrev ref37_normal_s1 (r_ : TRequest) : S := stB [(1, .box 9000 0)] [(9000, .box [.c (.int .i64) (.int r_.Job), .c (.slice 95) (.slice (List.map e_TWant r_.Wants))])]

def ref37_normal_k1 (n : Nat) (r_ : TRequest) : Option Bool :=
  some (decide ((r_.Wants.length : Int) ≤ 512))

abbrev ref37_normal_t2 (r_ : TRequest) (k : Int) : S := stB [(1, .box 9002 0), (3, .c (.int .i64) (.int k))] [(9002, .box [.c (.int .i64) (.int r_.Job), .c (.slice 95) (.slice (List.map e_TWant r_.Wants))])]

def ref37_normal_b2 (n : Nat) (r_ : TRequest) (k : Int) : Option ((Int) ⊕ (((Bool) ⊕ (Unit)))) :=
  bif (decide (k < (r_.Wants.length : Int))) then
    gd ((0 ≤ (IntKind.wrap .i64 (k - 1)) ∧ (IntKind.wrap .i64 (k - 1)) < (r_.Wants.length : Int)) ∧ (0 ≤ k ∧ k < (r_.Wants.length : Int))) <|
    bif (!Op.bytesLess ((gt r_.Wants (Int.toNat (IntKind.wrap .i64 (k - 1)))).Name) ((gt r_.Wants (Int.toNat k)).Name)) then
      some (.inr (.inl false))
    else
      some (.inl (IntKind.wrap .i64 (k + 1)))
  else
    some (.inr (.inr ()))

def ref37_normal (n : Nat) (r_ : TRequest) : Option Bool :=
  (loopF (fun (x : Int) => ref37_normal_b2 n r_ x) n 1).bind fun y4 =>
  match y4 with
  | .inl v =>
    some v
  | .inr v =>
    ref37_normal_k1 n r_

def xref37_normal (n : Nat) : Go.AE.Fn := mkFn (A := TRequest) (R := Bool) 64 [(true, [.int .i64, .slice 95])] false (fun xs => (⟨(cg (xs.getD 0 []) 0).toInt, ((cg (xs.getD 0 []) 1).toSl.map d_TWant)⟩ : TRequest)) (fun a => [[.int a.Job, .slice (List.map e_TWant a.Wants)]]) (fun a => ref37_normal n a) (fun r => [.c .bool (.bool r)]) (fun r => [])

theorem cref37_normal (n : Nat) : Contract Try.prog (xref37_normal n) := by
  have hΓ : ∀ g, g ∈ ([] : List Go.AE.Fn) → Contract Try.prog g := by simp
  refine contract_f (Try.f64.body.getD .skip) h00 Try.func64 rfl (by intro args w; exact Try.call64 args w) (by decide) (by intro _ r; exact ⟨rfl, by simp⟩) ?_
  rintro r_ r H
  try dsimp only at H
  unfold ref37_normal at H
  simp only [Try.f64, Option.getD]
  refine Sm.seqA h00 mixed hΓ (by kernel_rfl) fun K1 hK1 => ?_
  simp only [rs]
  repeat (refine opsG fun K hK => ?_; simp only [z, seval]; (repeat (first | refine gcI ?_ | refine fun (_ : _ ≤ _) => ?_)); refine hK _ ?_; clear hK K)
  refine hK1 _ ?_
  refine Sm.cut (fun (x : Unit) => ref37_normal_s1 r_) (fun x => ref37_normal_k1 n r_ = some r) ?_ ?_
  · refine Sm.seqA h00 mixed hΓ (by kernel_rfl) fun K3 hK3 => ?_
    simp only [rs]
    repeat (refine opsG fun K hK => ?_; simp only [z, seval]; (repeat (first | refine gcI ?_ | refine fun (_ : _ ≤ _) => ?_)); refine hK _ ?_; clear hK K)
    refine hK3 _ ?_
    refine Sm.block ?_
    obtain ⟨y4, hy4, Ho4⟩ := bind_some H
    refine Sm.loopB (fun (x : Int) => ref37_normal_b2 n r_ x) (fun x => ref37_normal_t2 r_ x) hy4 ?_ ?_
    · exact weak_b [some 16] rfl rfl rfl (by simp only [wk, z, seval]) (by simp only [wk, z, seval])
    rintro k z4 H
    try dsimp only at H
    unfold ref37_normal_b2 at H
    refine Sm.seqK fun K5 hK5 => ?_
    refine Sm.seqA h00 mixed hΓ (by kernel_rfl) fun K6 hK6 => ?_
    simp only [rs]
    repeat (refine opsG fun K hK => ?_; simp only [z, seval, ref37_normal_t2]; (repeat (first | refine gcI ?_ | refine fun (_ : _ ≤ _) => ?_)); refine hK _ ?_; clear hK K)
    refine hK6 _ ?_
    refine Sm.condK (by rfl) fun Ka Kb ha hb => ?_
    simp only [wpCond, z, seval, ref37_normal_t2]
    refine ⟨fun h7 => ha ?_, fun h7 => hb ?_⟩
    · first | replace H := bif_t h7 H | replace H := bif_t2 h7 H (by simp only [List.length_append])
      refine Sm.skip ?_
      refine hK5 _ ?_
      refine Sm.seqK fun K8 hK8 => ?_
      refine Sm.block ?_
      obtain ⟨⟨hg12, hg13⟩, H⟩ := gd_some H
      refine Sm.seqD h00 mixed hΓ (by kernel_rfl) fun K9 hK9 => ?_
      simp only [rs]
      repeat (refine opsH fun K hK => ?_; simp only [z, seval, ref37_normal_t2]; (repeat (first | refine gcI ?_ | refine fun (_ : _ ≤ _) => ?_)); refine hK _ ?_; clear hK K)
      refine hK9 _ ?_
      refine Sm.condK (by rfl) fun Ka Kb ha hb => ?_
      simp only [wpCond, z, seval, ref37_normal_t2]
      refine ⟨fun h10 => ha ?_, fun h10 => hb ?_⟩
      · first | replace H := bif_t h10 H | replace H := bif_t2 h10 H (by simp only [List.length_append])
        refine Sm.seqA h00 mixed hΓ (by kernel_rfl) fun K11 hK11 => ?_
        simp only [rs]
        repeat (refine opsG fun K hK => ?_; simp only [z, seval, ref37_normal_t2]; (repeat (first | refine gcI ?_ | refine fun (_ : _ ≤ _) => ?_)); refine hK _ ?_; clear hK K)
        refine hK11 _ ?_
        refine Sm.ret ?_
        try simp only [seval, Exit.exit.injEq]
        refine ⟨⟨_, (Option.some.inj H).symm⟩, fun hz => ?_⟩
        have hyy := Sum.inr.inj ((Option.some.inj H).trans hz)
        subst hyy
        have H := Ho4
        try dsimp only at H
        try simp only [seval, Exit.exit.injEq]
        obtain rfl := Option.some.inj H
        refine Ret.ofR [] (.inr rfl) ?_
        simp only [z, seval, ref37_normal_t2]
      first | replace H := bif_f h10 H | replace H := bif_f2 h10 H (by simp only [List.length_append])
      refine Sm.skip ?_
      refine hK8 _ ?_
      refine Sm.regA h00 mixed hΓ (by kernel_rfl) ?_
      simp only [rs]
      repeat (refine opsG fun K hK => ?_; simp only [z, seval, ref37_normal_t2]; (repeat (first | refine gcI ?_ | refine fun (_ : _ ≤ _) => ?_)); refine hK _ ?_; clear hK K)
      refine opsG0 ?_
      try simp only [seval, Exit.exit.injEq]
      refine ⟨_, (Option.some.inj H).symm, ?_⟩
      exact weak_b [some 9002] rfl rfl rfl (by simp only [wk, z, seval, ref37_normal_t2]) (by simp only [wk, z, seval, ref37_normal_t2])
    first | replace H := bif_f h7 H | replace H := bif_f2 h7 H (by simp only [List.length_append])
    refine Sm.exit ?_
    try simp only [seval, Exit.exit.injEq]
    refine ⟨⟨_, (Option.some.inj H).symm⟩, fun hz => ?_⟩
    have hyy := Sum.inr.inj ((Option.some.inj H).trans hz)
    subst hyy
    have H := Ho4
    try dsimp only at H
    try simp only [seval, Exit.exit.injEq]
    refine ⟨(), H, ?_⟩
    exact weak_b [some 9002] rfl rfl rfl (by simp only [wk, z, seval, ref37_normal_t2]) (by simp only [wk, z, seval, ref37_normal_t2])
  rintro ⟨⟩ H
  try dsimp only at H
  unfold ref37_normal_k1 at H
  refine Sm.seqA h00 mixed hΓ (by kernel_rfl) fun K2 hK2 => ?_
  simp only [rs]
  repeat (refine opsG fun K hK => ?_; simp only [z, seval, ref37_normal_s1]; (repeat (first | refine gcI ?_ | refine fun (_ : _ ≤ _) => ?_)); refine hK _ ?_; clear hK K)
  refine hK2 _ ?_
  refine Sm.ret ?_
  try simp only [seval, Exit.exit.injEq]
  obtain rfl := Option.some.inj H
  refine Ret.ofR [] (.inr rfl) ?_
  simp only [z, seval, ref37_normal_s1]

abbrev ref37_place_s1 : S := stB [] []

def ref37_place_k1 (n : Nat) : Option Int :=
  some (-1)

abbrev ref37_place_t2 (l : List TRequest) (job : Int) (k : Int) : S := stB [(0, .c (.slice 88) (.slice (List.map e_TRequest l))), (1, .c (.int .i64) (.int job)), (5, .c (.int .i64) (.int k))] []

def ref37_place_b2 (n : Nat) (l : List TRequest) (job : Int) (k : Int) : Option ((Int) ⊕ (((Int) ⊕ (Unit)))) :=
  bif (decide (k < (l.length : Int))) then
    gd ((0 ≤ k ∧ k < (l.length : Int))) <|
    bif (((gt l (Int.toNat k)).Job) == job) then
      some (.inr (.inl k))
    else
      some (.inl (IntKind.wrap .i64 (k + 1)))
  else
    some (.inr (.inr ()))

def ref37_place (n : Nat) (l : List TRequest) (job : Int) : Option Int :=
  (loopF (fun (x : Int) => ref37_place_b2 n l job x) n 0).bind fun y4 =>
  match y4 with
  | .inl v =>
    some v
  | .inr v =>
    ref37_place_k1 n

def xref37_place (n : Nat) : Go.AE.Fn := mkFn (A := (List TRequest) × Int) (R := Int) 39 [(false, [.slice 88]), (false, [.int .i64])] false (fun xs => (((cg (xs.getD 0 []) 0).toSl.map d_TRequest), (cg (xs.getD 1 []) 0).toInt)) (fun a => [[.slice (List.map e_TRequest a.1)], [.int a.2]]) (fun a => ref37_place n a.1 a.2) (fun r => [.c (.int .i64) (.int r)]) (fun r => [])

theorem cref37_place (n : Nat) : Contract Try.prog (xref37_place n) := by
  have hΓ : ∀ g, g ∈ ([] : List Go.AE.Fn) → Contract Try.prog g := by simp
  refine contract_f (Try.f39.body.getD .skip) h00 Try.func39 rfl (by intro args w; exact Try.call39 args w) (by decide) (by intro _ r; exact ⟨rfl, by simp⟩) ?_
  rintro ⟨l, job⟩ r H
  try dsimp only at H
  unfold ref37_place at H
  simp only [Try.f39, Option.getD]
  refine Sm.seqA h00 mixed hΓ (by kernel_rfl) fun K1 hK1 => ?_
  simp only [rs]
  repeat (refine opsG fun K hK => ?_; simp only [z, seval]; (repeat (first | refine gcI ?_ | refine fun (_ : _ ≤ _) => ?_)); refine hK _ ?_; clear hK K)
  refine hK1 _ ?_
  refine Sm.cut (fun (x : Unit) => ref37_place_s1) (fun x => ref37_place_k1 n = some r) ?_ ?_
  · refine Sm.seqA h00 mixed hΓ (by kernel_rfl) fun K3 hK3 => ?_
    simp only [rs]
    repeat (refine opsG fun K hK => ?_; simp only [z, seval]; (repeat (first | refine gcI ?_ | refine fun (_ : _ ≤ _) => ?_)); refine hK _ ?_; clear hK K)
    refine hK3 _ ?_
    refine Sm.block ?_
    obtain ⟨y4, hy4, Ho4⟩ := bind_some H
    refine Sm.loopB (fun (x : Int) => ref37_place_b2 n l job x) (fun x => ref37_place_t2 l job x) hy4 ?_ ?_
    · exact weak_b [] rfl rfl rfl (by simp only [wk, z, seval]) (by simp only [wk, z, seval])
    rintro k z4 H
    try dsimp only at H
    unfold ref37_place_b2 at H
    refine Sm.seqK fun K5 hK5 => ?_
    refine Sm.seqA h00 mixed hΓ (by kernel_rfl) fun K6 hK6 => ?_
    simp only [rs]
    repeat (refine opsG fun K hK => ?_; simp only [z, seval, ref37_place_t2]; (repeat (first | refine gcI ?_ | refine fun (_ : _ ≤ _) => ?_)); refine hK _ ?_; clear hK K)
    refine hK6 _ ?_
    refine Sm.condK (by rfl) fun Ka Kb ha hb => ?_
    simp only [wpCond, z, seval, ref37_place_t2]
    refine ⟨fun h7 => ha ?_, fun h7 => hb ?_⟩
    · first | replace H := bif_t h7 H | replace H := bif_t2 h7 H (by simp only [List.length_append])
      refine Sm.skip ?_
      refine hK5 _ ?_
      refine Sm.seqK fun K8 hK8 => ?_
      refine Sm.block ?_
      obtain ⟨hg12, H⟩ := gd_some H
      refine Sm.seqA h00 mixed hΓ (by kernel_rfl) fun K9 hK9 => ?_
      simp only [rs]
      repeat (refine opsG fun K hK => ?_; simp only [z, seval, ref37_place_t2]; (repeat (first | refine gcI ?_ | refine fun (_ : _ ≤ _) => ?_)); refine hK _ ?_; clear hK K)
      refine hK9 _ ?_
      refine Sm.condK (by rfl) fun Ka Kb ha hb => ?_
      simp only [wpCond, z, seval, ref37_place_t2]
      refine ⟨fun h10 => ha ?_, fun h10 => hb ?_⟩
      · first | replace H := bif_t h10 H | replace H := bif_t2 h10 H (by simp only [List.length_append])
        refine Sm.seqA h00 mixed hΓ (by kernel_rfl) fun K11 hK11 => ?_
        simp only [rs]
        repeat (refine opsG fun K hK => ?_; simp only [z, seval, ref37_place_t2]; (repeat (first | refine gcI ?_ | refine fun (_ : _ ≤ _) => ?_)); refine hK _ ?_; clear hK K)
        refine hK11 _ ?_
        refine Sm.ret ?_
        try simp only [seval, Exit.exit.injEq]
        refine ⟨⟨_, (Option.some.inj H).symm⟩, fun hz => ?_⟩
        have hyy := Sum.inr.inj ((Option.some.inj H).trans hz)
        subst hyy
        have H := Ho4
        try dsimp only at H
        try simp only [seval, Exit.exit.injEq]
        obtain rfl := Option.some.inj H
        refine Ret.ofR [] (.inr rfl) ?_
        simp only [z, seval, ref37_place_t2]
      first | replace H := bif_f h10 H | replace H := bif_f2 h10 H (by simp only [List.length_append])
      refine Sm.skip ?_
      refine hK8 _ ?_
      refine Sm.regA h00 mixed hΓ (by kernel_rfl) ?_
      simp only [rs]
      repeat (refine opsG fun K hK => ?_; simp only [z, seval, ref37_place_t2]; (repeat (first | refine gcI ?_ | refine fun (_ : _ ≤ _) => ?_)); refine hK _ ?_; clear hK K)
      refine opsG0 ?_
      try simp only [seval, Exit.exit.injEq]
      refine ⟨_, (Option.some.inj H).symm, ?_⟩
      exact weak_b [] rfl rfl rfl (by simp only [wk, z, seval, ref37_place_t2]) (by simp only [wk, z, seval, ref37_place_t2])
    first | replace H := bif_f h7 H | replace H := bif_f2 h7 H (by simp only [List.length_append])
    refine Sm.exit ?_
    try simp only [seval, Exit.exit.injEq]
    refine ⟨⟨_, (Option.some.inj H).symm⟩, fun hz => ?_⟩
    have hyy := Sum.inr.inj ((Option.some.inj H).trans hz)
    subst hyy
    have H := Ho4
    try dsimp only at H
    try simp only [seval, Exit.exit.injEq]
    refine ⟨(), H, ?_⟩
    exact weak_b [] rfl rfl rfl (by simp only [wk, z, seval, ref37_place_t2]) (by simp only [wk, z, seval, ref37_place_t2])
  rintro ⟨⟩ H
  try dsimp only at H
  unfold ref37_place_k1 at H
  refine Sm.seqA h00 mixed hΓ (by kernel_rfl) fun K2 hK2 => ?_
  simp only [rs]
  repeat (refine opsG fun K hK => ?_; simp only [z, seval, ref37_place_s1]; (repeat (first | refine gcI ?_ | refine fun (_ : _ ≤ _) => ?_)); refine hK _ ?_; clear hK K)
  refine hK2 _ ?_
  refine Sm.ret ?_
  try simp only [seval, Exit.exit.injEq]
  obtain rfl := Option.some.inj H
  refine Ret.ofR [] (.inr rfl) ?_
  simp only [z, seval, ref37_place_s1]

abbrev ref37_Conflict_s1 : S := stB [] []

def ref37_Conflict_k1 (n : Nat) : Option Bool :=
  some false

abbrev ref37_Conflict_s3 (a : TRequest) (b : TRequest) (i : Int) : S := stB [(2, .box 9004 0), (3, .box 9005 0), (5, .c (.int .i64) (.int i))] [(9004, .box [.c (.int .i64) (.int a.Job), .c (.slice 95) (.slice (List.map e_TWant a.Wants))]), (9005, .box [.c (.int .i64) (.int b.Job), .c (.slice 95) (.slice (List.map e_TWant b.Wants))])]

def ref37_Conflict_k3 (n : Nat) (a : TRequest) (b : TRequest) (i : Int) : Option ((Int) ⊕ (((Bool) ⊕ (Unit)))) :=
  some (.inl (IntKind.wrap .i64 (i + 1)))

abbrev ref37_Conflict_t4 (a : TRequest) (b : TRequest) (i : Int) (k : Int) : S := stB [(2, .box 9008 0), (3, .box 9009 0), (5, .c (.int .i64) (.int i)), (6, .c (.int .i64) (.int k))] [(9008, .box [.c (.int .i64) (.int a.Job), .c (.slice 95) (.slice (List.map e_TWant a.Wants))]), (9009, .box [.c (.int .i64) (.int b.Job), .c (.slice 95) (.slice (List.map e_TWant b.Wants))])]

def ref37_Conflict_b4 (n : Nat) (a : TRequest) (b : TRequest) (i : Int) (k : Int) : Option ((Int) ⊕ (((Bool) ⊕ (Unit)))) :=
  bif (decide (k < (b.Wants.length : Int))) then
    gd ((0 ≤ i ∧ i < (a.Wants.length : Int)) ∧ (0 ≤ k ∧ k < (b.Wants.length : Int)) ∧ ((((gt a.Wants (Int.toNat i)).Name) == ((gt b.Wants (Int.toNat k)).Name)) = true → (0 ≤ i ∧ i < (a.Wants.length : Int))) ∧ (((((gt a.Wants (Int.toNat i)).Name) == ((gt b.Wants (Int.toNat k)).Name)) && (!((gt a.Wants (Int.toNat i)).Exclusive))) = true → (0 ≤ k ∧ k < (b.Wants.length : Int))) ∧ (((((gt a.Wants (Int.toNat i)).Name) == ((gt b.Wants (Int.toNat k)).Name)) && !((gt a.Wants (Int.toNat i)).Exclusive)) = true → ((((gt a.Wants (Int.toNat i)).Name) == ((gt b.Wants (Int.toNat k)).Name)) && (!((gt a.Wants (Int.toNat i)).Exclusive))) = true)) <|
    bif (if (((gt a.Wants (Int.toNat i)).Name) == ((gt b.Wants (Int.toNat k)).Name)) = true then (if (gt a.Wants (Int.toNat i)).Exclusive = true then true else (gt b.Wants (Int.toNat k)).Exclusive) else false) then
      some (.inr (.inl true))
    else
      some (.inl (IntKind.wrap .i64 (k + 1)))
  else
    some (.inr (.inr ()))

abbrev ref37_Conflict_t2 (a : TRequest) (b : TRequest) (i : Int) : S := stB [(2, .box 9002 0), (3, .box 9003 0), (5, .c (.int .i64) (.int i))] [(9002, .box [.c (.int .i64) (.int a.Job), .c (.slice 95) (.slice (List.map e_TWant a.Wants))]), (9003, .box [.c (.int .i64) (.int b.Job), .c (.slice 95) (.slice (List.map e_TWant b.Wants))])]

def ref37_Conflict_b2 (n : Nat) (a : TRequest) (b : TRequest) (i : Int) : Option ((Int) ⊕ (((Bool) ⊕ (Unit)))) :=
  bif (decide (i < (a.Wants.length : Int))) then
    (loopF (fun (x : Int) => ref37_Conflict_b4 n a b i x) n 0).bind fun y9 =>
    match y9 with
    | .inl v =>
      some (.inr (.inl v))
    | .inr v =>
      ref37_Conflict_k3 n a b i
  else
    some (.inr (.inr ()))

def ref37_Conflict (n : Nat) (a : TRequest) (b : TRequest) : Option Bool :=
  (loopF (fun (x : Int) => ref37_Conflict_b2 n a b x) n 0).bind fun y4 =>
  match y4 with
  | .inl v =>
    some v
  | .inr v =>
    ref37_Conflict_k1 n

def xref37_Conflict (n : Nat) : Go.AE.Fn := mkFn (A := TRequest × TRequest) (R := Bool) 65 [(true, [.int .i64, .slice 95]), (true, [.int .i64, .slice 95])] false (fun xs => ((⟨(cg (xs.getD 0 []) 0).toInt, ((cg (xs.getD 0 []) 1).toSl.map d_TWant)⟩ : TRequest), (⟨(cg (xs.getD 1 []) 0).toInt, ((cg (xs.getD 1 []) 1).toSl.map d_TWant)⟩ : TRequest))) (fun a => [[.int a.1.Job, .slice (List.map e_TWant a.1.Wants)], [.int a.2.Job, .slice (List.map e_TWant a.2.Wants)]]) (fun a => ref37_Conflict n a.1 a.2) (fun r => [.c .bool (.bool r)]) (fun r => [])

theorem cref37_Conflict (n : Nat) : Contract Try.prog (xref37_Conflict n) := by
  have hΓ : ∀ g, g ∈ ([] : List Go.AE.Fn) → Contract Try.prog g := by simp
  refine contract_f (Try.f65.body.getD .skip) h00 Try.func65 rfl (by intro args w; exact Try.call65 args w) (by decide) (by intro _ r; exact ⟨rfl, by simp⟩) ?_
  rintro ⟨a, b⟩ r H
  try dsimp only at H
  unfold ref37_Conflict at H
  simp only [Try.f65, Option.getD]
  refine Sm.seqA h00 mixed hΓ (by kernel_rfl) fun K1 hK1 => ?_
  simp only [rs]
  repeat (refine opsG fun K hK => ?_; simp only [z, seval]; (repeat (first | refine gcI ?_ | refine fun (_ : _ ≤ _) => ?_)); refine hK _ ?_; clear hK K)
  refine hK1 _ ?_
  refine Sm.cut (fun (x : Unit) => ref37_Conflict_s1) (fun x => ref37_Conflict_k1 n = some r) ?_ ?_
  · refine Sm.seqA h00 mixed hΓ (by kernel_rfl) fun K3 hK3 => ?_
    simp only [rs]
    repeat (refine opsG fun K hK => ?_; simp only [z, seval]; (repeat (first | refine gcI ?_ | refine fun (_ : _ ≤ _) => ?_)); refine hK _ ?_; clear hK K)
    refine hK3 _ ?_
    refine Sm.block ?_
    obtain ⟨y4, hy4, Ho4⟩ := bind_some H
    refine Sm.loopB (fun (x : Int) => ref37_Conflict_b2 n a b x) (fun x => ref37_Conflict_t2 a b x) hy4 ?_ ?_
    · exact weak_b [some 32, some 48] rfl rfl rfl (by simp only [wk, z, seval]) (by simp only [wk, z, seval])
    rintro i z4 H
    try dsimp only at H
    unfold ref37_Conflict_b2 at H
    refine Sm.seqK fun K5 hK5 => ?_
    refine Sm.seqA h00 mixed hΓ (by kernel_rfl) fun K6 hK6 => ?_
    simp only [rs]
    repeat (refine opsG fun K hK => ?_; simp only [z, seval, ref37_Conflict_t2]; (repeat (first | refine gcI ?_ | refine fun (_ : _ ≤ _) => ?_)); refine hK _ ?_; clear hK K)
    refine hK6 _ ?_
    refine Sm.condK (by rfl) fun Ka Kb ha hb => ?_
    simp only [wpCond, z, seval, ref37_Conflict_t2]
    refine ⟨fun h7 => ha ?_, fun h7 => hb ?_⟩
    · first | replace H := bif_t h7 H | replace H := bif_t2 h7 H (by simp only [List.length_append])
      refine Sm.skip ?_
      refine hK5 _ ?_
      refine Sm.cut (fun (x : Unit) => ref37_Conflict_s3 a b i) (fun x => ref37_Conflict_k3 n a b i = some z4) ?_ ?_
      · refine Sm.block ?_
        refine Sm.seqA h00 mixed hΓ (by kernel_rfl) fun K8 hK8 => ?_
        simp only [rs]
        repeat (refine opsG fun K hK => ?_; simp only [z, seval, ref37_Conflict_t2]; (repeat (first | refine gcI ?_ | refine fun (_ : _ ≤ _) => ?_)); refine hK _ ?_; clear hK K)
        refine hK8 _ ?_
        refine Sm.block ?_
        obtain ⟨y9, hy9, Ho9⟩ := bind_some H
        refine Sm.loopB (fun (x : Int) => ref37_Conflict_b4 n a b i x) (fun x => ref37_Conflict_t4 a b i x) hy9 ?_ ?_
        · exact weak_b [some 9002, some 9003] rfl rfl rfl (by simp only [wk, z, seval, ref37_Conflict_t2]) (by simp only [wk, z, seval, ref37_Conflict_t2])
        rintro k z9 H
        try dsimp only at H
        unfold ref37_Conflict_b4 at H
        refine Sm.seqK fun K10 hK10 => ?_
        refine Sm.seqA h00 mixed hΓ (by kernel_rfl) fun K11 hK11 => ?_
        simp only [rs]
        repeat (refine opsG fun K hK => ?_; simp only [z, seval, ref37_Conflict_t4]; (repeat (first | refine gcI ?_ | refine fun (_ : _ ≤ _) => ?_)); refine hK _ ?_; clear hK K)
        refine hK11 _ ?_
        refine Sm.condK (by rfl) fun Ka Kb ha hb => ?_
        simp only [wpCond, z, seval, ref37_Conflict_t4]
        refine ⟨fun h12 => ha ?_, fun h12 => hb ?_⟩
        · first | replace H := bif_t h12 H | replace H := bif_t2 h12 H (by simp only [List.length_append])
          refine Sm.skip ?_
          refine hK10 _ ?_
          refine Sm.seqK fun K13 hK13 => ?_
          refine Sm.block ?_
          obtain ⟨⟨hg17, hg18, hg19, hg20, hg21⟩, H⟩ := gd_some H
          refine Sm.seqD h00 mixed hΓ (by kernel_rfl) fun K14 hK14 => ?_
          simp only [rs]
          repeat (refine opsH fun K hK => ?_; simp only [z, seval, ref37_Conflict_t4]; (repeat (first | refine gcI ?_ | refine fun (_ : _ ≤ _) => ?_)); refine hK _ ?_; clear hK K)
          refine hK14 _ ?_
          refine Sm.condK (by rfl) fun Ka Kb ha hb => ?_
          simp only [wpCond, z, seval, ref37_Conflict_t4]
          refine ⟨fun h15 => ha ?_, fun h15 => hb ?_⟩
          · first | replace H := bif_t h15 H | replace H := bif_t2 h15 H (by simp only [List.length_append])
            refine Sm.seqA h00 mixed hΓ (by kernel_rfl) fun K16 hK16 => ?_
            simp only [rs]
            repeat (refine opsG fun K hK => ?_; simp only [z, seval, ref37_Conflict_t4]; (repeat (first | refine gcI ?_ | refine fun (_ : _ ≤ _) => ?_)); refine hK _ ?_; clear hK K)
            refine hK16 _ ?_
            refine Sm.ret ?_
            try simp only [seval, Exit.exit.injEq]
            refine ⟨⟨_, (Option.some.inj H).symm⟩, fun hz => ?_⟩
            have hyy := Sum.inr.inj ((Option.some.inj H).trans hz)
            subst hyy
            have H := Ho9
            try dsimp only at H
            try simp only [seval, Exit.exit.injEq]
            refine ⟨⟨_, (Option.some.inj H).symm⟩, fun hz => ?_⟩
            have hyy := Sum.inr.inj ((Option.some.inj H).trans hz)
            subst hyy
            have H := Ho4
            try dsimp only at H
            try simp only [seval, Exit.exit.injEq]
            obtain rfl := Option.some.inj H
            refine Ret.ofR [] (.inr rfl) ?_
            simp only [z, seval, ref37_Conflict_t4]
          first | replace H := bif_f h15 H | replace H := bif_f2 h15 H (by simp only [List.length_append])
          refine Sm.skip ?_
          refine hK13 _ ?_
          refine Sm.regA h00 mixed hΓ (by kernel_rfl) ?_
          simp only [rs]
          repeat (refine opsG fun K hK => ?_; simp only [z, seval, ref37_Conflict_t4]; (repeat (first | refine gcI ?_ | refine fun (_ : _ ≤ _) => ?_)); refine hK _ ?_; clear hK K)
          refine opsG0 ?_
          try simp only [seval, Exit.exit.injEq]
          refine ⟨_, (Option.some.inj H).symm, ?_⟩
          exact weak_b [some 9008, some 9009] rfl rfl rfl (by simp only [wk, z, seval, ref37_Conflict_t4]) (by simp only [wk, z, seval, ref37_Conflict_t4])
        first | replace H := bif_f h12 H | replace H := bif_f2 h12 H (by simp only [List.length_append])
        refine Sm.exit ?_
        try simp only [seval, Exit.exit.injEq]
        refine ⟨⟨_, (Option.some.inj H).symm⟩, fun hz => ?_⟩
        have hyy := Sum.inr.inj ((Option.some.inj H).trans hz)
        subst hyy
        have H := Ho9
        try dsimp only at H
        try simp only [seval, Exit.exit.injEq]
        refine ⟨(), H, ?_⟩
        exact weak_b [some 9008, some 9009] rfl rfl rfl (by simp only [wk, z, seval, ref37_Conflict_t4]) (by simp only [wk, z, seval, ref37_Conflict_t4])
      rintro ⟨⟩ H
      try dsimp only at H
      unfold ref37_Conflict_k3 at H
      refine Sm.regA h00 mixed hΓ (by kernel_rfl) ?_
      simp only [rs]
      repeat (refine opsG fun K hK => ?_; simp only [z, seval, ref37_Conflict_s3]; (repeat (first | refine gcI ?_ | refine fun (_ : _ ≤ _) => ?_)); refine hK _ ?_; clear hK K)
      refine opsG0 ?_
      try simp only [seval, Exit.exit.injEq]
      refine ⟨_, (Option.some.inj H).symm, ?_⟩
      exact weak_b [some 9004, some 9005] rfl rfl rfl (by simp only [wk, z, seval, ref37_Conflict_s3]) (by simp only [wk, z, seval, ref37_Conflict_s3])
    first | replace H := bif_f h7 H | replace H := bif_f2 h7 H (by simp only [List.length_append])
    refine Sm.exit ?_
    try simp only [seval, Exit.exit.injEq]
    refine ⟨⟨_, (Option.some.inj H).symm⟩, fun hz => ?_⟩
    have hyy := Sum.inr.inj ((Option.some.inj H).trans hz)
    subst hyy
    have H := Ho4
    try dsimp only at H
    try simp only [seval, Exit.exit.injEq]
    refine ⟨(), H, ?_⟩
    exact weak_b [] rfl rfl rfl (by simp only [wk, z, seval, ref37_Conflict_t2]) (by simp only [wk, z, seval, ref37_Conflict_t2])
  rintro ⟨⟩ H
  try dsimp only at H
  unfold ref37_Conflict_k1 at H
  refine Sm.seqA h00 mixed hΓ (by kernel_rfl) fun K2 hK2 => ?_
  simp only [rs]
  repeat (refine opsG fun K hK => ?_; simp only [z, seval, ref37_Conflict_s1]; (repeat (first | refine gcI ?_ | refine fun (_ : _ ≤ _) => ?_)); refine hK _ ?_; clear hK K)
  refine hK2 _ ?_
  refine Sm.ret ?_
  try simp only [seval, Exit.exit.injEq]
  obtain rfl := Option.some.inj H
  refine Ret.ofR [] (.inr rfl) ?_
  simp only [z, seval, ref37_Conflict_s1]

abbrev ref37_free_s1 : S := stB [] []

def ref37_free_k1 (n : Nat) : Option Bool :=
  some true

abbrev ref37_free_t2 (l : List TRequest) (r_ : TRequest) (k : Int) : S := stB [(1, .c (.slice 88) (.slice (List.map e_TRequest l))), (2, .box 9001 0), (5, .c (.int .i64) (.int k))] [(9001, .box [.c (.int .i64) (.int r_.Job), .c (.slice 95) (.slice (List.map e_TWant r_.Wants))])]

def ref37_free_b2 (n : Nat) (l : List TRequest) (r_ : TRequest) (k : Int) : Option ((Int) ⊕ (((Bool) ⊕ (Unit)))) :=
  bif (decide (k < (l.length : Int))) then
    gd ((0 ≤ k ∧ k < (l.length : Int))) <|
    (ref37_Conflict n r_ (gt l (Int.toNat k))).bind fun r1 =>
    bif r1 then
      some (.inr (.inl false))
    else
      some (.inl (IntKind.wrap .i64 (k + 1)))
  else
    some (.inr (.inr ()))

def ref37_free (n : Nat) (r_ : TRequest) (l : List TRequest) : Option Bool :=
  (loopF (fun (x : Int) => ref37_free_b2 n l r_ x) n 0).bind fun y4 =>
  match y4 with
  | .inl v =>
    some v
  | .inr v =>
    ref37_free_k1 n

def xref37_free (n : Nat) : Go.AE.Fn := mkFn (A := TRequest × (List TRequest)) (R := Bool) 41 [(true, [.int .i64, .slice 95]), (false, [.slice 88])] false (fun xs => ((⟨(cg (xs.getD 0 []) 0).toInt, ((cg (xs.getD 0 []) 1).toSl.map d_TWant)⟩ : TRequest), ((cg (xs.getD 1 []) 0).toSl.map d_TRequest))) (fun a => [[.int a.1.Job, .slice (List.map e_TWant a.1.Wants)], [.slice (List.map e_TRequest a.2)]]) (fun a => ref37_free n a.1 a.2) (fun r => [.c .bool (.bool r)]) (fun r => [])

theorem cref37_free (n : Nat) : Contract Try.prog (xref37_free n) := by
  have hΓ : ∀ g, g ∈ ([xref37_Conflict n] : List Go.AE.Fn) → Contract Try.prog g := by
    intro g hg; simp only [List.mem_cons, List.not_mem_nil, or_false] at hg; subst hg; exact cref37_Conflict n
  refine contract_f (Try.f41.body.getD .skip) h00 Try.func41 rfl (by intro args w; exact Try.call41 args w) (by decide) (by intro _ r; exact ⟨rfl, by simp⟩) ?_
  rintro ⟨r_, l⟩ r H
  try dsimp only at H
  unfold ref37_free at H
  simp only [Try.f41, Option.getD]
  refine Sm.seqA h00 mixed hΓ (by kernel_rfl) fun K1 hK1 => ?_
  simp only [rs]
  repeat (refine opsG fun K hK => ?_; simp only [z, seval]; (repeat (first | refine gcI ?_ | refine fun (_ : _ ≤ _) => ?_)); refine hK _ ?_; clear hK K)
  refine hK1 _ ?_
  refine Sm.cut (fun (x : Unit) => ref37_free_s1) (fun x => ref37_free_k1 n = some r) ?_ ?_
  · refine Sm.seqA h00 mixed hΓ (by kernel_rfl) fun K3 hK3 => ?_
    simp only [rs]
    repeat (refine opsG fun K hK => ?_; simp only [z, seval]; (repeat (first | refine gcI ?_ | refine fun (_ : _ ≤ _) => ?_)); refine hK _ ?_; clear hK K)
    refine hK3 _ ?_
    refine Sm.block ?_
    obtain ⟨y4, hy4, Ho4⟩ := bind_some H
    refine Sm.loopB (fun (x : Int) => ref37_free_b2 n l r_ x) (fun x => ref37_free_t2 l r_ x) hy4 ?_ ?_
    · exact weak_b [some 32] rfl rfl rfl (by simp only [wk, z, seval]) (by simp only [wk, z, seval])
    rintro k z4 H
    try dsimp only at H
    unfold ref37_free_b2 at H
    refine Sm.seqK fun K5 hK5 => ?_
    refine Sm.seqA h00 mixed hΓ (by kernel_rfl) fun K6 hK6 => ?_
    simp only [rs]
    repeat (refine opsG fun K hK => ?_; simp only [z, seval, ref37_free_t2]; (repeat (first | refine gcI ?_ | refine fun (_ : _ ≤ _) => ?_)); refine hK _ ?_; clear hK K)
    refine hK6 _ ?_
    refine Sm.condK (by rfl) fun Ka Kb ha hb => ?_
    simp only [wpCond, z, seval, ref37_free_t2]
    refine ⟨fun h7 => ha ?_, fun h7 => hb ?_⟩
    · first | replace H := bif_t h7 H | replace H := bif_t2 h7 H (by simp only [List.length_append])
      refine Sm.skip ?_
      refine hK5 _ ?_
      refine Sm.seqK fun K8 hK8 => ?_
      refine Sm.block ?_
      obtain ⟨hg12, H⟩ := gd_some H
      obtain ⟨r1, hr1, H⟩ := bind_some H
      refine Sm.seqD h00 mixed hΓ (by kernel_rfl) fun K9 hK9 => ?_
      simp only [rs]
      repeat (refine opsH fun K hK => ?_; simp only [z, seval, ref37_free_t2, xref37_Conflict, hr1]; (repeat (first | refine gcI ?_ | refine fun (_ : _ ≤ _) => ?_)); refine hK _ ?_; clear hK K)
      refine hK9 _ ?_
      refine Sm.condK (by rfl) fun Ka Kb ha hb => ?_
      simp only [wpCond, z, seval, ref37_free_t2]
      refine ⟨fun h10 => ha ?_, fun h10 => hb ?_⟩
      · first | replace H := bif_t h10 H | replace H := bif_t2 h10 H (by simp only [List.length_append])
        refine Sm.seqA h00 mixed hΓ (by kernel_rfl) fun K11 hK11 => ?_
        simp only [rs]
        repeat (refine opsG fun K hK => ?_; simp only [z, seval, ref37_free_t2]; (repeat (first | refine gcI ?_ | refine fun (_ : _ ≤ _) => ?_)); refine hK _ ?_; clear hK K)
        refine hK11 _ ?_
        refine Sm.ret ?_
        try simp only [seval, Exit.exit.injEq]
        refine ⟨⟨_, (Option.some.inj H).symm⟩, fun hz => ?_⟩
        have hyy := Sum.inr.inj ((Option.some.inj H).trans hz)
        subst hyy
        have H := Ho4
        try dsimp only at H
        try simp only [seval, Exit.exit.injEq]
        obtain rfl := Option.some.inj H
        refine Ret.ofR [] (.inr rfl) ?_
        simp only [z, seval, ref37_free_t2]
      first | replace H := bif_f h10 H | replace H := bif_f2 h10 H (by simp only [List.length_append])
      refine Sm.skip ?_
      refine hK8 _ ?_
      refine Sm.regA h00 mixed hΓ (by kernel_rfl) ?_
      simp only [rs]
      repeat (refine opsG fun K hK => ?_; simp only [z, seval, ref37_free_t2]; (repeat (first | refine gcI ?_ | refine fun (_ : _ ≤ _) => ?_)); refine hK _ ?_; clear hK K)
      refine opsG0 ?_
      try simp only [seval, Exit.exit.injEq]
      refine ⟨_, (Option.some.inj H).symm, ?_⟩
      exact weak_b [some 9001] rfl rfl rfl (by simp only [wk, z, seval, ref37_free_t2]) (by simp only [wk, z, seval, ref37_free_t2])
    first | replace H := bif_f h7 H | replace H := bif_f2 h7 H (by simp only [List.length_append])
    refine Sm.exit ?_
    try simp only [seval, Exit.exit.injEq]
    refine ⟨⟨_, (Option.some.inj H).symm⟩, fun hz => ?_⟩
    have hyy := Sum.inr.inj ((Option.some.inj H).trans hz)
    subst hyy
    have H := Ho4
    try dsimp only at H
    try simp only [seval, Exit.exit.injEq]
    refine ⟨(), H, ?_⟩
    exact weak_b [] rfl rfl rfl (by simp only [wk, z, seval, ref37_free_t2]) (by simp only [wk, z, seval, ref37_free_t2])
  rintro ⟨⟩ H
  try dsimp only at H
  unfold ref37_free_k1 at H
  refine Sm.seqA h00 mixed hΓ (by kernel_rfl) fun K2 hK2 => ?_
  simp only [rs]
  repeat (refine opsG fun K hK => ?_; simp only [z, seval, ref37_free_s1]; (repeat (first | refine gcI ?_ | refine fun (_ : _ ≤ _) => ?_)); refine hK _ ?_; clear hK K)
  refine hK2 _ ?_
  refine Sm.ret ?_
  try simp only [seval, Exit.exit.injEq]
  obtain rfl := Option.some.inj H
  refine Ret.ofR [] (.inr rfl) ?_
  simp only [z, seval, ref37_free_s1]

abbrev ref37_Valid_s2 : S := stB [] []

def ref37_Valid_k2 (n : Nat) : Option Bool :=
  some true

abbrev ref37_Valid_t3 (t : TTable) (k : Int) : S := stB [(1, .box 9002 0), (4, .c (.int .i64) (.int k))] [(9002, .box [.c (.slice 88) (.slice (List.map e_TRequest t.Held)), .c (.slice 88) (.slice (List.map e_TRequest t.Waiting))])]

def ref37_Valid_b3 (n : Nat) (t : TTable) (k : Int) : Option ((Int) ⊕ (((Bool) ⊕ (Unit)))) :=
  bif (decide (k < (t.Waiting.length : Int))) then
    gd ((0 ≤ k ∧ k < (t.Waiting.length : Int))) <|
    (ref37_normal n (gt t.Waiting (Int.toNat k))).bind fun r1 =>
    gd (((!(!r1)) = true → (ref37_place n t.Held ((gt t.Waiting (Int.toNat k)).Job)).isSome = true) ∧ ((!(if (!r1) = true then true else (decide (((ref37_place n t.Held ((gt t.Waiting (Int.toNat k)).Job)).getD default) ≥ 0)))) = true → (0 ≤ k ∧ k ≤ (t.Waiting.length : Int))) ∧ ((!(if (!r1) = true then true else (decide (((ref37_place n t.Held ((gt t.Waiting (Int.toNat k)).Job)).getD default) ≥ 0)))) = true → (ref37_place n (List.take (Int.toNat k) t.Waiting) ((gt t.Waiting (Int.toNat k)).Job)).isSome = true) ∧ ((!(if (if (!r1) = true then true else (decide (((ref37_place n t.Held ((gt t.Waiting (Int.toNat k)).Job)).getD default) ≥ 0))) = true then true else (decide (((ref37_place n (List.take (Int.toNat k) t.Waiting) ((gt t.Waiting (Int.toNat k)).Job)).getD default) ≥ 0)))) = true → (ref37_free n (gt t.Waiting (Int.toNat k)) t.Held).isSome = true) ∧ (((!(if (if (!r1) = true then true else (decide (((ref37_place n t.Held ((gt t.Waiting (Int.toNat k)).Job)).getD default) ≥ 0))) = true then true else (decide (((ref37_place n (List.take (Int.toNat k) t.Waiting) ((gt t.Waiting (Int.toNat k)).Job)).getD default) ≥ 0)))) && ((ref37_free n (gt t.Waiting (Int.toNat k)) t.Held).getD default)) = true → (0 ≤ k ∧ k ≤ (t.Waiting.length : Int))) ∧ (((!(if (if (!r1) = true then true else (decide (((ref37_place n t.Held ((gt t.Waiting (Int.toNat k)).Job)).getD default) ≥ 0))) = true then true else (decide (((ref37_place n (List.take (Int.toNat k) t.Waiting) ((gt t.Waiting (Int.toNat k)).Job)).getD default) ≥ 0)))) && ((ref37_free n (gt t.Waiting (Int.toNat k)) t.Held).getD default)) = true → (ref37_free n (gt t.Waiting (Int.toNat k)) (List.take (Int.toNat k) t.Waiting)).isSome = true)) <|
    bif (if (if (if (!r1) = true then true else (decide (((ref37_place n t.Held ((gt t.Waiting (Int.toNat k)).Job)).getD default) ≥ 0))) = true then true else (decide (((ref37_place n (List.take (Int.toNat k) t.Waiting) ((gt t.Waiting (Int.toNat k)).Job)).getD default) ≥ 0))) = true then true else (if ((ref37_free n (gt t.Waiting (Int.toNat k)) t.Held).getD default) = true then ((ref37_free n (gt t.Waiting (Int.toNat k)) (List.take (Int.toNat k) t.Waiting)).getD default) else false)) then
      some (.inr (.inl false))
    else
      some (.inl (IntKind.wrap .i64 (k + 1)))
  else
    some (.inr (.inr ()))

abbrev ref37_Valid_s1 (t : TTable) : S := stB [(1, .box 9000 0)] [(9000, .box [.c (.slice 88) (.slice (List.map e_TRequest t.Held)), .c (.slice 88) (.slice (List.map e_TRequest t.Waiting))])]

def ref37_Valid_k1 (n : Nat) (t : TTable) : Option Bool :=
  (loopF (fun (x : Int) => ref37_Valid_b3 n t x) n 0).bind fun y4 =>
  match y4 with
  | .inl v =>
    some v
  | .inr v =>
    ref37_Valid_k2 n

abbrev ref37_Valid_t4 (t : TTable) (k_1 : Int) : S := stB [(1, .box 9004 0), (3, .c (.int .i64) (.int k_1))] [(9004, .box [.c (.slice 88) (.slice (List.map e_TRequest t.Held)), .c (.slice 88) (.slice (List.map e_TRequest t.Waiting))])]

def ref37_Valid_b4 (n : Nat) (t : TTable) (k_1 : Int) : Option ((Int) ⊕ (((Bool) ⊕ (Unit)))) :=
  bif (decide (k_1 < (t.Held.length : Int))) then
    gd ((0 ≤ k_1 ∧ k_1 < (t.Held.length : Int))) <|
    (ref37_normal n (gt t.Held (Int.toNat k_1))).bind fun r2 =>
    gd (((!(!r2)) = true → (0 ≤ k_1 ∧ k_1 ≤ (t.Held.length : Int))) ∧ ((!(!r2)) = true → (0 ≤ k_1 ∧ k_1 < (t.Held.length : Int))) ∧ ((!(!r2)) = true → (ref37_place n (List.take (Int.toNat k_1) t.Held) ((gt t.Held (Int.toNat k_1)).Job)).isSome = true) ∧ ((!(if (!r2) = true then true else (decide (((ref37_place n (List.take (Int.toNat k_1) t.Held) ((gt t.Held (Int.toNat k_1)).Job)).getD default) ≥ 0)))) = true → (0 ≤ k_1 ∧ k_1 < (t.Held.length : Int))) ∧ ((!(if (!r2) = true then true else (decide (((ref37_place n (List.take (Int.toNat k_1) t.Held) ((gt t.Held (Int.toNat k_1)).Job)).getD default) ≥ 0)))) = true → (0 ≤ k_1 ∧ k_1 ≤ (t.Held.length : Int))) ∧ ((!(if (!r2) = true then true else (decide (((ref37_place n (List.take (Int.toNat k_1) t.Held) ((gt t.Held (Int.toNat k_1)).Job)).getD default) ≥ 0)))) = true → (ref37_free n (gt t.Held (Int.toNat k_1)) (List.take (Int.toNat k_1) t.Held)).isSome = true)) <|
    bif (if (if (!r2) = true then true else (decide (((ref37_place n (List.take (Int.toNat k_1) t.Held) ((gt t.Held (Int.toNat k_1)).Job)).getD default) ≥ 0))) = true then true else (!((ref37_free n (gt t.Held (Int.toNat k_1)) (List.take (Int.toNat k_1) t.Held)).getD default))) then
      some (.inr (.inl false))
    else
      some (.inl (IntKind.wrap .i64 (k_1 + 1)))
  else
    some (.inr (.inr ()))

def ref37_Valid (n : Nat) (t : TTable) : Option Bool :=
  (loopF (fun (x : Int) => ref37_Valid_b4 n t x) n 0).bind fun y21 =>
  match y21 with
  | .inl v =>
    some v
  | .inr v =>
    ref37_Valid_k1 n t

def xref37_Valid (n : Nat) : Go.AE.Fn := mkFn (A := TTable) (R := Bool) 38 [(true, [.slice 88, .slice 88])] false (fun xs => (⟨((cg (xs.getD 0 []) 0).toSl.map d_TRequest), ((cg (xs.getD 0 []) 1).toSl.map d_TRequest)⟩ : TTable)) (fun a => [[.slice (List.map e_TRequest a.Held), .slice (List.map e_TRequest a.Waiting)]]) (fun a => ref37_Valid n a) (fun r => [.c .bool (.bool r)]) (fun r => [])

theorem cref37_Valid (n : Nat) : Contract Try.prog (xref37_Valid n) := by
  have hΓ : ∀ g, g ∈ ([xref37_normal n, xref37_place n, xref37_free n] : List Go.AE.Fn) → Contract Try.prog g := by
    intro g hg; simp only [List.mem_cons, List.not_mem_nil, or_false] at hg; rcases hg with rfl | rfl | rfl; exact cref37_normal n; exact cref37_place n; exact cref37_free n
  refine contract_f (Try.f38.body.getD .skip) h00 Try.func38 rfl (by intro args w; exact Try.call38 args w) (by decide) (by intro _ r; exact ⟨rfl, by simp⟩) ?_
  rintro t r H
  try dsimp only at H
  unfold ref37_Valid at H
  simp only [Try.f38, Option.getD]
  refine Sm.seqA h00 mixed hΓ (by kernel_rfl) fun K1 hK1 => ?_
  simp only [rs]
  repeat (refine opsG fun K hK => ?_; simp only [z, seval]; (repeat (first | refine gcI ?_ | refine fun (_ : _ ≤ _) => ?_)); refine hK _ ?_; clear hK K)
  refine hK1 _ ?_
  refine Sm.cut (fun (x : Unit) => ref37_Valid_s1 t) (fun x => ref37_Valid_k1 n t = some r) ?_ ?_
  · refine Sm.seqA h00 mixed hΓ (by kernel_rfl) fun K20 hK20 => ?_
    simp only [rs]
    repeat (refine opsG fun K hK => ?_; simp only [z, seval]; (repeat (first | refine gcI ?_ | refine fun (_ : _ ≤ _) => ?_)); refine hK _ ?_; clear hK K)
    refine hK20 _ ?_
    refine Sm.block ?_
    obtain ⟨y21, hy21, Ho21⟩ := bind_some H
    refine Sm.loopB (fun (x : Int) => ref37_Valid_b4 n t x) (fun x => ref37_Valid_t4 t x) hy21 ?_ ?_
    · exact weak_b [some 16] rfl rfl rfl (by simp only [wk, z, seval]) (by simp only [wk, z, seval])
    rintro k_1 z21 H
    try dsimp only at H
    unfold ref37_Valid_b4 at H
    refine Sm.seqK fun K22 hK22 => ?_
    refine Sm.seqA h00 mixed hΓ (by kernel_rfl) fun K23 hK23 => ?_
    simp only [rs]
    repeat (refine opsG fun K hK => ?_; simp only [z, seval, ref37_Valid_t4]; (repeat (first | refine gcI ?_ | refine fun (_ : _ ≤ _) => ?_)); refine hK _ ?_; clear hK K)
    refine hK23 _ ?_
    refine Sm.condK (by rfl) fun Ka Kb ha hb => ?_
    simp only [wpCond, z, seval, ref37_Valid_t4]
    refine ⟨fun h24 => ha ?_, fun h24 => hb ?_⟩
    · first | replace H := bif_t h24 H | replace H := bif_t2 h24 H (by simp only [List.length_append])
      refine Sm.skip ?_
      refine hK22 _ ?_
      refine Sm.seqK fun K25 hK25 => ?_
      refine Sm.block ?_
      obtain ⟨hg29, H⟩ := gd_some H
      obtain ⟨r2, hr2, H⟩ := bind_some H
      obtain ⟨⟨hg30, hg31, hg32, hg33, hg34, hg35⟩, H⟩ := gd_some H
      refine Sm.seqD h00 mixed hΓ (by kernel_rfl) fun K26 hK26 => ?_
      simp only [rs]
      repeat (refine opsH fun K hK => ?_; simp only [z, seval, ref37_Valid_t4, xref37_normal, xref37_place, xref37_free, hr2]; (repeat (first | refine gcI ?_ | refine fun (_ : _ ≤ _) => ?_)); refine hK _ ?_; clear hK K)
      refine hK26 _ ?_
      refine Sm.condK (by rfl) fun Ka Kb ha hb => ?_
      simp only [wpCond, z, seval, ref37_Valid_t4]
      refine ⟨fun h27 => ha ?_, fun h27 => hb ?_⟩
      · first | replace H := bif_t h27 H | replace H := bif_t2 h27 H (by simp only [List.length_append])
        refine Sm.seqA h00 mixed hΓ (by kernel_rfl) fun K28 hK28 => ?_
        simp only [rs]
        repeat (refine opsG fun K hK => ?_; simp only [z, seval, ref37_Valid_t4]; (repeat (first | refine gcI ?_ | refine fun (_ : _ ≤ _) => ?_)); refine hK _ ?_; clear hK K)
        refine hK28 _ ?_
        refine Sm.ret ?_
        try simp only [seval, Exit.exit.injEq]
        refine ⟨⟨_, (Option.some.inj H).symm⟩, fun hz => ?_⟩
        have hyy := Sum.inr.inj ((Option.some.inj H).trans hz)
        subst hyy
        have H := Ho21
        try dsimp only at H
        try simp only [seval, Exit.exit.injEq]
        obtain rfl := Option.some.inj H
        refine Ret.ofR [] (.inr rfl) ?_
        simp only [z, seval, ref37_Valid_t4]
      first | replace H := bif_f h27 H | replace H := bif_f2 h27 H (by simp only [List.length_append])
      refine Sm.skip ?_
      refine hK25 _ ?_
      refine Sm.regA h00 mixed hΓ (by kernel_rfl) ?_
      simp only [rs]
      repeat (refine opsG fun K hK => ?_; simp only [z, seval, ref37_Valid_t4]; (repeat (first | refine gcI ?_ | refine fun (_ : _ ≤ _) => ?_)); refine hK _ ?_; clear hK K)
      refine opsG0 ?_
      try simp only [seval, Exit.exit.injEq]
      refine ⟨_, (Option.some.inj H).symm, ?_⟩
      exact weak_b [some 9004] rfl rfl rfl (by simp only [wk, z, seval, ref37_Valid_t4]) (by simp only [wk, z, seval, ref37_Valid_t4])
    first | replace H := bif_f h24 H | replace H := bif_f2 h24 H (by simp only [List.length_append])
    refine Sm.exit ?_
    try simp only [seval, Exit.exit.injEq]
    refine ⟨⟨_, (Option.some.inj H).symm⟩, fun hz => ?_⟩
    have hyy := Sum.inr.inj ((Option.some.inj H).trans hz)
    subst hyy
    have H := Ho21
    try dsimp only at H
    try simp only [seval, Exit.exit.injEq]
    refine ⟨(), H, ?_⟩
    exact weak_b [some 9004] rfl rfl rfl (by simp only [wk, z, seval, ref37_Valid_t4]) (by simp only [wk, z, seval, ref37_Valid_t4])
  rintro ⟨⟩ H
  try dsimp only at H
  unfold ref37_Valid_k1 at H
  refine Sm.cut (fun (x : Unit) => ref37_Valid_s2) (fun x => ref37_Valid_k2 n = some r) ?_ ?_
  · refine Sm.seqA h00 mixed hΓ (by kernel_rfl) fun K3 hK3 => ?_
    simp only [rs]
    repeat (refine opsG fun K hK => ?_; simp only [z, seval, ref37_Valid_s1]; (repeat (first | refine gcI ?_ | refine fun (_ : _ ≤ _) => ?_)); refine hK _ ?_; clear hK K)
    refine hK3 _ ?_
    refine Sm.block ?_
    obtain ⟨y4, hy4, Ho4⟩ := bind_some H
    refine Sm.loopB (fun (x : Int) => ref37_Valid_b3 n t x) (fun x => ref37_Valid_t3 t x) hy4 ?_ ?_
    · exact weak_b [some 9000] rfl rfl rfl (by simp only [wk, z, seval, ref37_Valid_s1]) (by simp only [wk, z, seval, ref37_Valid_s1])
    rintro k z4 H
    try dsimp only at H
    unfold ref37_Valid_b3 at H
    refine Sm.seqK fun K5 hK5 => ?_
    refine Sm.seqA h00 mixed hΓ (by kernel_rfl) fun K6 hK6 => ?_
    simp only [rs]
    repeat (refine opsG fun K hK => ?_; simp only [z, seval, ref37_Valid_t3]; (repeat (first | refine gcI ?_ | refine fun (_ : _ ≤ _) => ?_)); refine hK _ ?_; clear hK K)
    refine hK6 _ ?_
    refine Sm.condK (by rfl) fun Ka Kb ha hb => ?_
    simp only [wpCond, z, seval, ref37_Valid_t3]
    refine ⟨fun h7 => ha ?_, fun h7 => hb ?_⟩
    · first | replace H := bif_t h7 H | replace H := bif_t2 h7 H (by simp only [List.length_append])
      refine Sm.skip ?_
      refine hK5 _ ?_
      refine Sm.seqK fun K8 hK8 => ?_
      refine Sm.block ?_
      obtain ⟨hg19, H⟩ := gd_some H
      refine Sm.seqA h00 mixed hΓ (by kernel_rfl) fun K9 hK9 => ?_
      simp only [rs]
      repeat (refine opsG fun K hK => ?_; simp only [z, seval, ref37_Valid_t3]; (repeat (first | refine gcI ?_ | refine fun (_ : _ ≤ _) => ?_)); refine hK _ ?_; clear hK K)
      refine hK9 _ ?_
      obtain ⟨r1, hr1, H⟩ := bind_some H
      obtain ⟨⟨hg13, hg14, hg15, hg16, hg17, hg18⟩, H⟩ := gd_some H
      refine Sm.seqD h00 mixed hΓ (by kernel_rfl) fun K10 hK10 => ?_
      simp only [rs]
      repeat (refine opsH fun K hK => ?_; simp only [z, seval, ref37_Valid_t3, xref37_normal, xref37_place, xref37_free, hr1]; (repeat (first | refine gcI ?_ | refine fun (_ : _ ≤ _) => ?_)); refine hK _ ?_; clear hK K)
      refine hK10 _ ?_
      refine Sm.condK (by rfl) fun Ka Kb ha hb => ?_
      simp only [wpCond, z, seval, ref37_Valid_t3]
      refine ⟨fun h11 => ha ?_, fun h11 => hb ?_⟩
      · first | replace H := bif_t h11 H | replace H := bif_t2 h11 H (by simp only [List.length_append])
        refine Sm.seqA h00 mixed hΓ (by kernel_rfl) fun K12 hK12 => ?_
        simp only [rs]
        repeat (refine opsG fun K hK => ?_; simp only [z, seval, ref37_Valid_t3]; (repeat (first | refine gcI ?_ | refine fun (_ : _ ≤ _) => ?_)); refine hK _ ?_; clear hK K)
        refine hK12 _ ?_
        refine Sm.ret ?_
        try simp only [seval, Exit.exit.injEq]
        refine ⟨⟨_, (Option.some.inj H).symm⟩, fun hz => ?_⟩
        have hyy := Sum.inr.inj ((Option.some.inj H).trans hz)
        subst hyy
        have H := Ho4
        try dsimp only at H
        try simp only [seval, Exit.exit.injEq]
        obtain rfl := Option.some.inj H
        refine Ret.ofR [] (.inr rfl) ?_
        simp only [z, seval, ref37_Valid_t3]
      first | replace H := bif_f h11 H | replace H := bif_f2 h11 H (by simp only [List.length_append])
      refine Sm.skip ?_
      refine hK8 _ ?_
      refine Sm.regA h00 mixed hΓ (by kernel_rfl) ?_
      simp only [rs]
      repeat (refine opsG fun K hK => ?_; simp only [z, seval, ref37_Valid_t3]; (repeat (first | refine gcI ?_ | refine fun (_ : _ ≤ _) => ?_)); refine hK _ ?_; clear hK K)
      refine opsG0 ?_
      try simp only [seval, Exit.exit.injEq]
      refine ⟨_, (Option.some.inj H).symm, ?_⟩
      exact weak_b [some 9002] rfl rfl rfl (by simp only [wk, z, seval, ref37_Valid_t3]) (by simp only [wk, z, seval, ref37_Valid_t3])
    first | replace H := bif_f h7 H | replace H := bif_f2 h7 H (by simp only [List.length_append])
    refine Sm.exit ?_
    try simp only [seval, Exit.exit.injEq]
    refine ⟨⟨_, (Option.some.inj H).symm⟩, fun hz => ?_⟩
    have hyy := Sum.inr.inj ((Option.some.inj H).trans hz)
    subst hyy
    have H := Ho4
    try dsimp only at H
    try simp only [seval, Exit.exit.injEq]
    refine ⟨(), H, ?_⟩
    exact weak_b [] rfl rfl rfl (by simp only [wk, z, seval, ref37_Valid_t3]) (by simp only [wk, z, seval, ref37_Valid_t3])
  rintro ⟨⟩ H
  try dsimp only at H
  unfold ref37_Valid_k2 at H
  refine Sm.seqA h00 mixed hΓ (by kernel_rfl) fun K2 hK2 => ?_
  simp only [rs]
  repeat (refine opsG fun K hK => ?_; simp only [z, seval, ref37_Valid_s2]; (repeat (first | refine gcI ?_ | refine fun (_ : _ ≤ _) => ?_)); refine hK _ ?_; clear hK K)
  refine hK2 _ ?_
  refine Sm.ret ?_
  try simp only [seval, Exit.exit.injEq]
  obtain rfl := Option.some.inj H
  refine Ret.ofR [] (.inr rfl) ?_
  simp only [z, seval, ref37_Valid_s2]

def ref37_without (n : Nat) (l : List TRequest) (k : Int) : Option (List TRequest) :=
  gd ((0 ≤ k ∧ k ≤ (l.length : Int)) ∧ (List.take (Int.toNat k) l).length ≤ 2147483648 ∧ (0 ≤ (IntKind.wrap .i64 (k + 1)) ∧ (IntKind.wrap .i64 (k + 1)) ≤ (l.length : Int) ∧ (l.length : Int) ≤ (l.length : Int)) ∧ ((List.take (Int.toNat k) l).length + (List.drop (Int.toNat (IntKind.wrap .i64 (k + 1))) l).length) ≤ 2147483648) <|
  some ((List.take (Int.toNat k) l) ++ (List.drop (Int.toNat (IntKind.wrap .i64 (k + 1))) l))

def xref37_without (n : Nat) : Go.AE.Fn := mkFn (A := (List TRequest) × Int) (R := (List TRequest)) 40 [(false, [.slice 88]), (false, [.int .i64])] true (fun xs => (((cg (xs.getD 0 []) 0).toSl.map d_TRequest), (cg (xs.getD 1 []) 0).toInt)) (fun a => [[.slice (List.map e_TRequest a.1)], [.int a.2]]) (fun a => ref37_without n a.1 a.2) (fun r => [.own 0 [.int .i64, .slice 95] 0 r.length]) (fun r => [.row 88 (List.map e_TRequest r)])

theorem cref37_without (n : Nat) : Contract Try.prog (xref37_without n) := by
  have hΓ : ∀ g, g ∈ ([] : List Go.AE.Fn) → Contract Try.prog g := by simp
  refine contract_f (Try.f40.body.getD .skip) h00 Try.func40 rfl (by intro args w; exact Try.call40 args w) (by decide) (by intro h; cases h) ?_
  rintro ⟨l, k⟩ r H
  try dsimp only at H
  unfold ref37_without at H
  simp only [Try.f40, Option.getD]
  refine Sm.seqA h00 mixed hΓ (by kernel_rfl) fun K1 hK1 => ?_
  simp only [rs]
  repeat (refine opsG fun K hK => ?_; simp only [z, seval]; (repeat (first | refine gcI ?_ | refine fun (_ : _ ≤ _) => ?_)); refine hK _ ?_; clear hK K)
  refine hK1 _ ?_
  obtain ⟨⟨hg3, hg4, hg5, hg6⟩, H⟩ := gd_some H
  refine Sm.seqQ h00 mixed hΓ [0, 1, 2, 3, 4, 5, 6, 7, 8, 9, 10] [(none, [], [80]), (none, [], []), (none, [], []), (none, [], []), (none, [80], [144, 80]), (none, [], []), (none, [], []), (none, [], []), (none, [], []), (none, [144], [224, 144]), (none, [], [])] (by kernel_rfl) rfl fun K2 hK2 => ?_
  simp only [rs]
  iterate 11 (refine opsQ fun K hK => ?_; simp only [z, seval]; (repeat (first | refine gcI ?_ | refine fun (_ : _ ≤ _) => ?_)); refine hK _ ?_; clear hK K)
  refine opsQ0 ?_
  refine hK2 _ ?_
  refine Sm.ret ?_
  try simp only [seval, Exit.exit.injEq]
  obtain rfl := Option.some.inj H
  refine Ret.ofR [some 224] (.inr rfl) ?_
  simp only [z, seval]

abbrev ref37_Release_s2 (t_3 : List TRequest) (t_4 : List TRequest) (jobs : List Int) : S := stB [(2, .box 9002 0), (4, .box 9003 0), (9, .own 9004 [.int .i64] 0 jobs.length)] [(9002, .box [.c (.slice 88) (.slice (List.map e_TRequest t_3)), .c (.slice 88) (.slice (List.map e_TRequest t_4))]), (9003, .box [.nilsl, .nilsl]), (9004, .row 3 (List.map e_Int jobs))]

def ref37_Release_k2 (n : Nat) (t_3 : List TRequest) (t_4 : List TRequest) (jobs : List Int) : Option (TTable × (List Int) × Int) :=
  some ((⟨t_3, t_4⟩ : TTable), jobs, 0)

abbrev ref37_Release_s4 (t_5 : List TRequest) (t_6 : List TRequest) (jobs_1 : List Int) (k_1 : Int) : S := stB [(2, .box 9013 0), (4, .box 9014 0), (9, .own 9015 [.int .i64] 0 jobs_1.length), (10, .c (.int .i64) (.int k_1))] [(9013, .box [.c (.slice 88) (.slice (List.map e_TRequest t_5)), .c (.slice 88) (.slice (List.map e_TRequest t_6))]), (9014, .box [.nilsl, .nilsl]), (9015, .row 3 (List.map e_Int jobs_1))]

def ref37_Release_k4 (n : Nat) (t_5 : List TRequest) (t_6 : List TRequest) (jobs_1 : List Int) (k_1 : Int) : Option (((List TRequest) × (List TRequest) × (List Int) × Int) ⊕ (((List TRequest) × (List TRequest) × (List Int)))) :=
  some (.inl (t_5, t_6, jobs_1, (IntKind.wrap .i64 (k_1 + 1))))

abbrev ref37_Release_t3 (t_3 : List TRequest) (t_4 : List TRequest) (jobs : List Int) (k : Int) : S := stB [(2, .box 9010 0), (4, .box 9011 0), (9, .own 9012 [.int .i64] 0 jobs.length), (10, .c (.int .i64) (.int k))] [(9010, .box [.c (.slice 88) (.slice (List.map e_TRequest t_3)), .c (.slice 88) (.slice (List.map e_TRequest t_4))]), (9011, .box [.nilsl, .nilsl]), (9012, .row 3 (List.map e_Int jobs))]

def ref37_Release_b3 (n : Nat) (t_3 : List TRequest) (t_4 : List TRequest) (jobs : List Int) (k : Int) : Option (((List TRequest) × (List TRequest) × (List Int) × Int) ⊕ (((List TRequest) × (List TRequest) × (List Int)))) :=
  bif (decide (k < (t_4.length : Int))) then
    gd ((0 ≤ k ∧ k < (t_4.length : Int))) <|
    (ref37_free n (gt t_4 (Int.toNat k)) t_3).bind fun r4 =>
    gd ((r4 = true → (0 ≤ k ∧ k ≤ (t_4.length : Int))) ∧ (r4 = true → (ref37_free n (gt t_4 (Int.toNat k)) (List.take (Int.toNat k) t_4)).isSome = true)) <|
    bif (if r4 = true then ((ref37_free n (gt t_4 (Int.toNat k)) (List.take (Int.toNat k) t_4)).getD default) else false) then
      gd (t_3.length ≤ 2147483648 ∧ (t_3.length + 1) ≤ 2147483648) <|
      (ref37_without n t_4 k).bind fun r5 =>
      gd ((jobs.length + 1) ≤ 2147483648) <|
      ref37_Release_k4 n (t_3 ++ [(gt t_4 (Int.toNat k))]) r5 (jobs ++ [(gt t_4 (Int.toNat k)).Job]) (-1)
    else
      ref37_Release_k4 n t_3 t_4 jobs k
  else
    some (.inr (t_3, t_4, jobs))

abbrev ref37_Release_s1 (t_1 : List TRequest) (t_2 : List TRequest) : S := stB [(2, .box 9000 0), (4, .box 9001 0)] [(9000, .box [.c (.slice 88) (.slice (List.map e_TRequest t_1)), .c (.slice 88) (.slice (List.map e_TRequest t_2))]), (9001, .box [.nilsl, .nilsl])]

def ref37_Release_k1 (n : Nat) (t_1 : List TRequest) (t_2 : List TRequest) : Option (TTable × (List Int) × Int) :=
  (loopF (fun (x : (List TRequest) × (List TRequest) × (List Int) × Int) => ref37_Release_b3 n x.1 x.2.1 x.2.2.1 x.2.2.2) n (t_1, t_2, [], 0)).bind fun y15 =>
  ref37_Release_k2 n y15.1 y15.2.1 y15.2.2

def ref37_Release (n : Nat) (t : TTable) (job : Int) : Option (TTable × (List Int) × Int) :=
  (ref37_Valid n t).bind fun r1 =>
  bif (!r1) then
    some ((⟨[], []⟩ : TTable), [], 5)
  else
    (ref37_place n t.Held job).bind fun r2 =>
    (ref37_place n t.Waiting job).bind fun r3 =>
    bif (if (decide (r2 < 0)) = true then (decide (r3 < 0)) else false) then
      some ((⟨[], []⟩ : TTable), [], 3)
    else
      bif (decide (r2 ≥ 0)) then
        (ref37_without n t.Held r2).bind fun r6 =>
        ref37_Release_k1 n r6 t.Waiting
      else
        (ref37_without n t.Waiting r3).bind fun r7 =>
        ref37_Release_k1 n t.Held r7

def xref37_Release (n : Nat) : Go.AE.Fn := mkFn (A := TTable × Int) (R := TTable × (List Int) × Int) 15 [(true, [.slice 88, .slice 88]), (false, [.int .i64])] true (fun xs => ((⟨((cg (xs.getD 0 []) 0).toSl.map d_TRequest), ((cg (xs.getD 0 []) 1).toSl.map d_TRequest)⟩ : TTable), (cg (xs.getD 1 []) 0).toInt)) (fun a => [[.slice (List.map e_TRequest a.1.Held), .slice (List.map e_TRequest a.1.Waiting)], [.int a.2]]) (fun a => ref37_Release n a.1 a.2) (fun r => [.agg [.c (.slice 88) (.slice (List.map e_TRequest r.1.Held)), .c (.slice 88) (.slice (List.map e_TRequest r.1.Waiting))], .own 0 [.int .i64] 0 r.2.1.length, .c (.int .i64) (.int r.2.2)]) (fun r => [.row 3 (List.map e_Int r.2.1)])

theorem cref37_Release (n : Nat) : Contract Try.prog (xref37_Release n) := by
  have hΓ : ∀ g, g ∈ ([xref37_Valid n, xref37_place n, xref37_without n, xref37_free n] : List Go.AE.Fn) → Contract Try.prog g := by
    intro g hg; simp only [List.mem_cons, List.not_mem_nil, or_false] at hg; rcases hg with rfl | rfl | rfl | rfl; exact cref37_Valid n; exact cref37_place n; exact cref37_without n; exact cref37_free n
  refine contract_f (Try.f15.body.getD .skip) h00 Try.func15 rfl (by intro args w; exact Try.call15 args w) (by decide) (by intro h; cases h) ?_
  rintro ⟨t, job⟩ r H
  try dsimp only at H
  unfold ref37_Release at H
  simp only [Try.f15, Option.getD]
  refine Sm.seqA h00 mixed hΓ (by kernel_rfl) fun K1 hK1 => ?_
  simp only [rs]
  repeat (refine opsG fun K hK => ?_; simp only [z, seval]; (repeat (first | refine gcI ?_ | refine fun (_ : _ ≤ _) => ?_)); refine hK _ ?_; clear hK K)
  refine hK1 _ ?_
  refine Sm.seqK fun K2 hK2 => ?_
  obtain ⟨r1, hr1, H⟩ := bind_some H
  refine Sm.seqA h00 mixed hΓ (by kernel_rfl) fun K3 hK3 => ?_
  simp only [rs]
  repeat (refine opsG fun K hK => ?_; simp only [z, seval, xref37_Valid, hr1]; (repeat (first | refine gcI ?_ | refine fun (_ : _ ≤ _) => ?_)); refine hK _ ?_; clear hK K)
  refine hK3 _ ?_
  refine Sm.condK (by rfl) fun Ka Kb ha hb => ?_
  simp only [wpCond, z, seval]
  refine ⟨fun h4 => ha ?_, fun h4 => hb ?_⟩
  · first | replace H := bif_t h4 H | replace H := bif_t2 h4 H (by simp only [List.length_append])
    refine Sm.seqA h00 mixed hΓ (by kernel_rfl) fun K5 hK5 => ?_
    simp only [rs]
    repeat (refine opsG fun K hK => ?_; simp only [z, seval]; (repeat (first | refine gcI ?_ | refine fun (_ : _ ≤ _) => ?_)); refine hK _ ?_; clear hK K)
    refine hK5 _ ?_
    refine Sm.ret ?_
    try simp only [seval, Exit.exit.injEq]
    obtain rfl := Option.some.inj H
    refine Ret.ofR [none] (.inr rfl) ?_
    simp only [z, seval]
  first | replace H := bif_f h4 H | replace H := bif_f2 h4 H (by simp only [List.length_append])
  refine Sm.skip ?_
  refine hK2 _ ?_
  obtain ⟨r2, hr2, H⟩ := bind_some H
  refine Sm.seqA h00 mixed hΓ (by kernel_rfl) fun K6 hK6 => ?_
  simp only [rs]
  repeat (refine opsG fun K hK => ?_; simp only [z, seval, xref37_Valid, xref37_place, hr2]; (repeat (first | refine gcI ?_ | refine fun (_ : _ ≤ _) => ?_)); refine hK _ ?_; clear hK K)
  refine hK6 _ ?_
  obtain ⟨r3, hr3, H⟩ := bind_some H
  refine Sm.seqA h00 mixed hΓ (by kernel_rfl) fun K7 hK7 => ?_
  simp only [rs]
  repeat (refine opsG fun K hK => ?_; simp only [z, seval, xref37_Valid, xref37_place, hr3]; (repeat (first | refine gcI ?_ | refine fun (_ : _ ≤ _) => ?_)); refine hK _ ?_; clear hK K)
  refine hK7 _ ?_
  refine Sm.seqK fun K8 hK8 => ?_
  refine Sm.seqA h00 mixed hΓ (by kernel_rfl) fun K9 hK9 => ?_
  simp only [rs]
  repeat (refine opsG fun K hK => ?_; simp only [z, seval]; (repeat (first | refine gcI ?_ | refine fun (_ : _ ≤ _) => ?_)); refine hK _ ?_; clear hK K)
  refine hK9 _ ?_
  refine Sm.condK (by rfl) fun Ka Kb ha hb => ?_
  simp only [wpCond, z, seval]
  refine ⟨fun h10 => ha ?_, fun h10 => hb ?_⟩
  · first | replace H := bif_t h10 H | replace H := bif_t2 h10 H (by simp only [List.length_append])
    refine Sm.seqA h00 mixed hΓ (by kernel_rfl) fun K11 hK11 => ?_
    simp only [rs]
    repeat (refine opsG fun K hK => ?_; simp only [z, seval]; (repeat (first | refine gcI ?_ | refine fun (_ : _ ≤ _) => ?_)); refine hK _ ?_; clear hK K)
    refine hK11 _ ?_
    refine Sm.ret ?_
    try simp only [seval, Exit.exit.injEq]
    obtain rfl := Option.some.inj H
    refine Ret.ofR [none] (.inr rfl) ?_
    simp only [z, seval]
  first | replace H := bif_f h10 H | replace H := bif_f2 h10 H (by simp only [List.length_append])
  refine Sm.skip ?_
  refine hK8 _ ?_
  refine Sm.cut (fun (x : (List TRequest) × (List TRequest)) => ref37_Release_s1 x.1 x.2) (fun x => ref37_Release_k1 n x.1 x.2 = some r) ?_ ?_
  · refine Sm.seqA h00 mixed hΓ (by kernel_rfl) fun K31 hK31 => ?_
    simp only [rs]
    repeat (refine opsG fun K hK => ?_; simp only [z, seval]; (repeat (first | refine gcI ?_ | refine fun (_ : _ ≤ _) => ?_)); refine hK _ ?_; clear hK K)
    refine hK31 _ ?_
    refine Sm.condK (by rfl) fun Ka Kb ha hb => ?_
    simp only [wpCond, z, seval]
    refine ⟨fun h32 => ha ?_, fun h32 => hb ?_⟩
    · first | replace H := bif_t h32 H | replace H := bif_t2 h32 H (by simp only [List.length_append])
      obtain ⟨r6, hr6, H⟩ := bind_some H
      refine Sm.regA h00 mixed hΓ (by kernel_rfl) ?_
      simp only [rs]
      repeat (refine opsG fun K hK => ?_; simp only [z, seval, xref37_Valid, xref37_place, xref37_without, hr6]; (repeat (first | refine gcI ?_ | refine fun (_ : _ ≤ _) => ?_)); refine hK _ ?_; clear hK K)
      refine opsG0 ?_
      try simp only [seval, Exit.exit.injEq]
      refine ⟨(r6, t.Waiting), H, ?_⟩
      exact weak_bf [576] [some 32, some 64] rfl rfl rfl (by simp only [wk, z, seval]) (by simp only [wk, z, seval])
    first | replace H := bif_f h32 H | replace H := bif_f2 h32 H (by simp only [List.length_append])
    obtain ⟨r7, hr7, H⟩ := bind_some H
    refine Sm.regA h00 mixed hΓ (by kernel_rfl) ?_
    simp only [rs]
    repeat (refine opsG fun K hK => ?_; simp only [z, seval, xref37_Valid, xref37_place, xref37_without, hr7]; (repeat (first | refine gcI ?_ | refine fun (_ : _ ≤ _) => ?_)); refine hK _ ?_; clear hK K)
    refine opsG0 ?_
    try simp only [seval, Exit.exit.injEq]
    refine ⟨(t.Held, r7), H, ?_⟩
    exact weak_bf [656] [some 32, some 64] rfl rfl rfl (by simp only [wk, z, seval]) (by simp only [wk, z, seval])
  rintro ⟨t_1, t_2⟩ H
  try dsimp only at H
  unfold ref37_Release_k1 at H
  refine Sm.seqA h00 mixed hΓ (by kernel_rfl) fun K12 hK12 => ?_
  simp only [rs]
  repeat (refine opsG fun K hK => ?_; simp only [z, seval, ref37_Release_s1]; (repeat (first | refine gcI ?_ | refine fun (_ : _ ≤ _) => ?_)); refine hK _ ?_; clear hK K)
  refine hK12 _ ?_
  refine Sm.cut (fun (x : (List TRequest) × (List TRequest) × (List Int)) => ref37_Release_s2 x.1 x.2.1 x.2.2) (fun x => ref37_Release_k2 n x.1 x.2.1 x.2.2 = some r) ?_ ?_
  · refine Sm.seqA h00 mixed hΓ (by kernel_rfl) fun K14 hK14 => ?_
    simp only [rs]
    repeat (refine opsG fun K hK => ?_; simp only [z, seval, ref37_Release_s1]; (repeat (first | refine gcI ?_ | refine fun (_ : _ ≤ _) => ?_)); refine hK _ ?_; clear hK K)
    refine hK14 _ ?_
    refine Sm.block ?_
    obtain ⟨y15, hy15, Ho15⟩ := bind_some H
    refine Sm.loopB (fun (x : (List TRequest) × (List TRequest) × (List Int) × Int) => ref37_Release_b3 n x.1 x.2.1 x.2.2.1 x.2.2.2) (fun x => ref37_Release_t3 x.1 x.2.1 x.2.2.1 x.2.2.2) hy15 ?_ ?_
    · exact weak_b [some 9000, some 9001, none] rfl rfl rfl (by simp only [wk, z, seval, ref37_Release_s1]) (by simp only [wk, z, seval, ref37_Release_s1])
    rintro ⟨t_3, t_4, jobs, k⟩ z15 H
    try dsimp only at H
    unfold ref37_Release_b3 at H
    refine Sm.seqK fun K16 hK16 => ?_
    refine Sm.seqA h00 mixed hΓ (by kernel_rfl) fun K17 hK17 => ?_
    simp only [rs]
    repeat (refine opsG fun K hK => ?_; simp only [z, seval, ref37_Release_t3]; (repeat (first | refine gcI ?_ | refine fun (_ : _ ≤ _) => ?_)); refine hK _ ?_; clear hK K)
    refine hK17 _ ?_
    refine Sm.condK (by rfl) fun Ka Kb ha hb => ?_
    simp only [wpCond, z, seval, ref37_Release_t3]
    refine ⟨fun h18 => ha ?_, fun h18 => hb ?_⟩
    · first | replace H := bif_t h18 H | replace H := bif_t2 h18 H (by simp only [List.length_append])
      refine Sm.skip ?_
      refine hK16 _ ?_
      refine Sm.cut (fun (x : (List TRequest) × (List TRequest) × (List Int) × Int) => ref37_Release_s4 x.1 x.2.1 x.2.2.1 x.2.2.2) (fun x => ref37_Release_k4 n x.1 x.2.1 x.2.2.1 x.2.2.2 = some z15) ?_ ?_
      · refine Sm.block ?_
        obtain ⟨hg30, H⟩ := gd_some H
        refine Sm.seqA h00 mixed hΓ (by kernel_rfl) fun K19 hK19 => ?_
        simp only [rs]
        repeat (refine opsG fun K hK => ?_; simp only [z, seval, ref37_Release_t3]; (repeat (first | refine gcI ?_ | refine fun (_ : _ ≤ _) => ?_)); refine hK _ ?_; clear hK K)
        refine hK19 _ ?_
        obtain ⟨r4, hr4, H⟩ := bind_some H
        obtain ⟨⟨hg28, hg29⟩, H⟩ := gd_some H
        refine Sm.seqD h00 mixed hΓ (by kernel_rfl) fun K20 hK20 => ?_
        simp only [rs]
        repeat (refine opsH fun K hK => ?_; simp only [z, seval, ref37_Release_t3, xref37_Valid, xref37_place, xref37_without, xref37_free, hr4]; (repeat (first | refine gcI ?_ | refine fun (_ : _ ≤ _) => ?_)); refine hK _ ?_; clear hK K)
        refine hK20 _ ?_
        refine Sm.condK (by rfl) fun Ka Kb ha hb => ?_
        simp only [wpCond, z, seval, ref37_Release_t3]
        refine ⟨fun h21 => ha ?_, fun h21 => hb ?_⟩
        · first | replace H := bif_t h21 H | replace H := bif_t2 h21 H (by simp only [List.length_append])
          obtain ⟨⟨hg23, hg24⟩, H⟩ := gd_some H
          refine Sm.seqQ h00 mixed hΓ [0, 1, 2, 3, 4, 5, 6, 7, 8] [(none, [], [1072]), (none, [9010], []), (none, [9010], []), (none, [1072], [1120, 1072]), (none, [176], []), (none, [], [1152]), (none, [1120, 1152], [1168, 1120, 1152]), (none, [9010], []), (none, [1168, 9010], [9010])] (by kernel_rfl) rfl fun K22 hK22 => ?_
          simp only [rs]
          iterate 9 (refine opsQ fun K hK => ?_; simp only [z, seval, ref37_Release_t3]; (repeat (first | refine gcI ?_ | refine fun (_ : _ ≤ _) => ?_)); refine hK _ ?_; clear hK K)
          refine opsQ0 ?_
          refine hK22 _ ?_
          obtain ⟨r5, hr5, H⟩ := bind_some H
          refine Sm.seqA h00 mixed hΓ (by kernel_rfl) fun K25 hK25 => ?_
          simp only [rs]
          repeat (refine opsG fun K hK => ?_; simp only [z, seval, ref37_Release_t3, xref37_Valid, xref37_place, xref37_without, hr5]; (repeat (first | refine gcI ?_ | refine fun (_ : _ ≤ _) => ?_)); refine hK _ ?_; clear hK K)
          refine hK25 _ ?_
          obtain ⟨hg27, H⟩ := gd_some H
          refine Sm.seqA h00 mixed hΓ (by kernel_rfl) fun K26 hK26 => ?_
          simp only [rs]
          repeat (refine opsG fun K hK => ?_; simp only [z, seval, ref37_Release_t3]; (repeat (first | refine gcI ?_ | refine fun (_ : _ ≤ _) => ?_)); refine hK _ ?_; clear hK K)
          refine hK26 _ ?_
          refine Sm.regA h00 mixed hΓ (by kernel_rfl) ?_
          simp only [rs]
          repeat (refine opsG fun K hK => ?_; simp only [z, seval, ref37_Release_t3]; (repeat (first | refine gcI ?_ | refine fun (_ : _ ≤ _) => ?_)); refine hK _ ?_; clear hK K)
          refine opsG0 ?_
          try simp only [seval, Exit.exit.injEq]
          refine ⟨((t_3 ++ [(gt t_4 (Int.toNat k))]), r5, (jobs ++ [(gt t_4 (Int.toNat k)).Job]), (-1)), H, ?_⟩
          exact weak_bf [1168, 1248] [some 9010, some 9011, some 1344] rfl rfl rfl (by simp only [wk, z, seval, ref37_Release_t3]) (by simp only [wk, z, seval, ref37_Release_t3])
        first | replace H := bif_f h21 H | replace H := bif_f2 h21 H (by simp only [List.length_append])
        refine Sm.skip ?_
        try simp only [seval, Exit.exit.injEq]
        refine ⟨(t_3, t_4, jobs, k), H, ?_⟩
        exact weak_b [some 9010, some 9011, some 9012] rfl rfl rfl (by simp only [wk, z, seval, ref37_Release_t3]) (by simp only [wk, z, seval, ref37_Release_t3])
      rintro ⟨t_5, t_6, jobs_1, k_1⟩ H
      try dsimp only at H
      unfold ref37_Release_k4 at H
      refine Sm.regA h00 mixed hΓ (by kernel_rfl) ?_
      simp only [rs]
      repeat (refine opsG fun K hK => ?_; simp only [z, seval, ref37_Release_s4]; (repeat (first | refine gcI ?_ | refine fun (_ : _ ≤ _) => ?_)); refine hK _ ?_; clear hK K)
      refine opsG0 ?_
      try simp only [seval, Exit.exit.injEq]
      refine ⟨(_, _, _, _), (Option.some.inj H).symm, ?_⟩
      exact weak_b [some 9013, some 9014, some 9015] rfl rfl rfl (by simp only [wk, z, seval, ref37_Release_s4]) (by simp only [wk, z, seval, ref37_Release_s4])
    first | replace H := bif_f h18 H | replace H := bif_f2 h18 H (by simp only [List.length_append])
    refine Sm.exit ?_
    try simp only [seval, Exit.exit.injEq]
    refine ⟨⟨_, (Option.some.inj H).symm⟩, fun hz => ?_⟩
    have hyy := Sum.inr.inj ((Option.some.inj H).trans hz)
    subst hyy
    have H := Ho15
    try dsimp only at H
    try simp only [seval, Exit.exit.injEq]
    refine ⟨(t_3, t_4, jobs), H, ?_⟩
    exact weak_b [some 9010, some 9011, some 9012] rfl rfl rfl (by simp only [wk, z, seval, ref37_Release_t3]) (by simp only [wk, z, seval, ref37_Release_t3])
  rintro ⟨t_3, t_4, jobs⟩ H
  try dsimp only at H
  unfold ref37_Release_k2 at H
  refine Sm.seqA h00 mixed hΓ (by kernel_rfl) fun K13 hK13 => ?_
  simp only [rs]
  repeat (refine opsG fun K hK => ?_; simp only [z, seval, ref37_Release_s2]; (repeat (first | refine gcI ?_ | refine fun (_ : _ ≤ _) => ?_)); refine hK _ ?_; clear hK K)
  refine hK13 _ ?_
  refine Sm.ret ?_
  try simp only [seval, Exit.exit.injEq]
  obtain rfl := Option.some.inj H
  refine Ret.ofR [some 9004] (.inr rfl) ?_
  simp only [z, seval, ref37_Release_s2]

abbrev law37_sameWants_s1 : S := stB [] []

def law37_sameWants_k1 (n : Nat) : Option Bool :=
  some true

abbrev law37_sameWants_t2 (a : List TWant) (b : List TWant) (k : Int) : S := stB [(0, .c (.slice 92) (.slice (List.map e_TWant a))), (1, .c (.slice 95) (.slice (List.map e_TWant b))), (5, .c (.int .i64) (.int k))] []

def law37_sameWants_b2 (n : Nat) (a : List TWant) (b : List TWant) (k : Int) : Option ((Int) ⊕ (((Bool) ⊕ (Unit)))) :=
  bif (decide (k < (a.length : Int))) then
    gd ((0 ≤ k ∧ k < (a.length : Int)) ∧ (0 ≤ k ∧ k < (b.length : Int)) ∧ ((!(((gt a (Int.toNat k)).Name) != ((gt b (Int.toNat k)).Name))) = true → (0 ≤ k ∧ k < (a.length : Int))) ∧ ((!(((gt a (Int.toNat k)).Name) != ((gt b (Int.toNat k)).Name))) = true → (0 ≤ k ∧ k < (b.length : Int)))) <|
    bif (if (((gt a (Int.toNat k)).Name) != ((gt b (Int.toNat k)).Name)) = true then true else (((gt a (Int.toNat k)).Exclusive) != ((gt b (Int.toNat k)).Exclusive))) then
      some (.inr (.inl false))
    else
      some (.inl (IntKind.wrap .i64 (k + 1)))
  else
    some (.inr (.inr ()))

def law37_sameWants (n : Nat) (a : List TWant) (b : List TWant) : Option Bool :=
  bif ((a.length : Int) != (b.length : Int)) then
    some false
  else
    (loopF (fun (x : Int) => law37_sameWants_b2 n a b x) n 0).bind fun y8 =>
    match y8 with
    | .inl v =>
      some v
    | .inr v =>
      law37_sameWants_k1 n

def xlaw37_sameWants (n : Nat) : Go.AE.Fn := mkFn (A := (List TWant) × (List TWant)) (R := Bool) 66 [(false, [.slice 92]), (false, [.slice 95])] false (fun xs => (((cg (xs.getD 0 []) 0).toSl.map d_TWant), ((cg (xs.getD 1 []) 0).toSl.map d_TWant))) (fun a => [[.slice (List.map e_TWant a.1)], [.slice (List.map e_TWant a.2)]]) (fun a => law37_sameWants n a.1 a.2) (fun r => [.c .bool (.bool r)]) (fun r => [])

theorem claw37_sameWants (n : Nat) : Contract Try.prog (xlaw37_sameWants n) := by
  have hΓ : ∀ g, g ∈ ([] : List Go.AE.Fn) → Contract Try.prog g := by simp
  refine contract_f (Try.f66.body.getD .skip) h00 Try.func66 rfl (by intro args w; exact Try.call66 args w) (by decide) (by intro _ r; exact ⟨rfl, by simp⟩) ?_
  rintro ⟨a, b⟩ r H
  try dsimp only at H
  unfold law37_sameWants at H
  simp only [Try.f66, Option.getD]
  refine Sm.seqA h00 mixed hΓ (by kernel_rfl) fun K1 hK1 => ?_
  simp only [rs]
  repeat (refine opsG fun K hK => ?_; simp only [z, seval]; (repeat (first | refine gcI ?_ | refine fun (_ : _ ≤ _) => ?_)); refine hK _ ?_; clear hK K)
  refine hK1 _ ?_
  refine Sm.seqK fun K2 hK2 => ?_
  refine Sm.seqA h00 mixed hΓ (by kernel_rfl) fun K3 hK3 => ?_
  simp only [rs]
  repeat (refine opsG fun K hK => ?_; simp only [z, seval]; (repeat (first | refine gcI ?_ | refine fun (_ : _ ≤ _) => ?_)); refine hK _ ?_; clear hK K)
  refine hK3 _ ?_
  refine Sm.condK (by rfl) fun Ka Kb ha hb => ?_
  simp only [wpCond, z, seval]
  refine ⟨fun h4 => ha ?_, fun h4 => hb ?_⟩
  · first | replace H := bif_t h4 H | replace H := bif_t2 h4 H (by simp only [List.length_append])
    refine Sm.seqA h00 mixed hΓ (by kernel_rfl) fun K5 hK5 => ?_
    simp only [rs]
    repeat (refine opsG fun K hK => ?_; simp only [z, seval]; (repeat (first | refine gcI ?_ | refine fun (_ : _ ≤ _) => ?_)); refine hK _ ?_; clear hK K)
    refine hK5 _ ?_
    refine Sm.ret ?_
    try simp only [seval, Exit.exit.injEq]
    obtain rfl := Option.some.inj H
    refine Ret.ofR [] (.inr rfl) ?_
    simp only [z, seval]
  first | replace H := bif_f h4 H | replace H := bif_f2 h4 H (by simp only [List.length_append])
  refine Sm.skip ?_
  refine hK2 _ ?_
  refine Sm.cut (fun (x : Unit) => law37_sameWants_s1) (fun x => law37_sameWants_k1 n = some r) ?_ ?_
  · refine Sm.seqA h00 mixed hΓ (by kernel_rfl) fun K7 hK7 => ?_
    simp only [rs]
    repeat (refine opsG fun K hK => ?_; simp only [z, seval]; (repeat (first | refine gcI ?_ | refine fun (_ : _ ≤ _) => ?_)); refine hK _ ?_; clear hK K)
    refine hK7 _ ?_
    refine Sm.block ?_
    obtain ⟨y8, hy8, Ho8⟩ := bind_some H
    refine Sm.loopB (fun (x : Int) => law37_sameWants_b2 n a b x) (fun x => law37_sameWants_t2 a b x) hy8 ?_ ?_
    · exact weak_b [] rfl rfl rfl (by simp only [wk, z, seval]) (by simp only [wk, z, seval])
    rintro k z8 H
    try dsimp only at H
    unfold law37_sameWants_b2 at H
    refine Sm.seqK fun K9 hK9 => ?_
    refine Sm.seqA h00 mixed hΓ (by kernel_rfl) fun K10 hK10 => ?_
    simp only [rs]
    repeat (refine opsG fun K hK => ?_; simp only [z, seval, law37_sameWants_t2]; (repeat (first | refine gcI ?_ | refine fun (_ : _ ≤ _) => ?_)); refine hK _ ?_; clear hK K)
    refine hK10 _ ?_
    refine Sm.condK (by rfl) fun Ka Kb ha hb => ?_
    simp only [wpCond, z, seval, law37_sameWants_t2]
    refine ⟨fun h11 => ha ?_, fun h11 => hb ?_⟩
    · first | replace H := bif_t h11 H | replace H := bif_t2 h11 H (by simp only [List.length_append])
      refine Sm.skip ?_
      refine hK9 _ ?_
      refine Sm.seqK fun K12 hK12 => ?_
      refine Sm.block ?_
      obtain ⟨⟨hg16, hg17, hg18, hg19⟩, H⟩ := gd_some H
      refine Sm.seqD h00 mixed hΓ (by kernel_rfl) fun K13 hK13 => ?_
      simp only [rs]
      repeat (refine opsH fun K hK => ?_; simp only [z, seval, law37_sameWants_t2]; (repeat (first | refine gcI ?_ | refine fun (_ : _ ≤ _) => ?_)); refine hK _ ?_; clear hK K)
      refine hK13 _ ?_
      refine Sm.condK (by rfl) fun Ka Kb ha hb => ?_
      simp only [wpCond, z, seval, law37_sameWants_t2]
      refine ⟨fun h14 => ha ?_, fun h14 => hb ?_⟩
      · first | replace H := bif_t h14 H | replace H := bif_t2 h14 H (by simp only [List.length_append])
        refine Sm.seqA h00 mixed hΓ (by kernel_rfl) fun K15 hK15 => ?_
        simp only [rs]
        repeat (refine opsG fun K hK => ?_; simp only [z, seval, law37_sameWants_t2]; (repeat (first | refine gcI ?_ | refine fun (_ : _ ≤ _) => ?_)); refine hK _ ?_; clear hK K)
        refine hK15 _ ?_
        refine Sm.ret ?_
        try simp only [seval, Exit.exit.injEq]
        refine ⟨⟨_, (Option.some.inj H).symm⟩, fun hz => ?_⟩
        have hyy := Sum.inr.inj ((Option.some.inj H).trans hz)
        subst hyy
        have H := Ho8
        try dsimp only at H
        try simp only [seval, Exit.exit.injEq]
        obtain rfl := Option.some.inj H
        refine Ret.ofR [] (.inr rfl) ?_
        simp only [z, seval, law37_sameWants_t2]
      first | replace H := bif_f h14 H | replace H := bif_f2 h14 H (by simp only [List.length_append])
      refine Sm.skip ?_
      refine hK12 _ ?_
      refine Sm.regA h00 mixed hΓ (by kernel_rfl) ?_
      simp only [rs]
      repeat (refine opsG fun K hK => ?_; simp only [z, seval, law37_sameWants_t2]; (repeat (first | refine gcI ?_ | refine fun (_ : _ ≤ _) => ?_)); refine hK _ ?_; clear hK K)
      refine opsG0 ?_
      try simp only [seval, Exit.exit.injEq]
      refine ⟨_, (Option.some.inj H).symm, ?_⟩
      exact weak_b [] rfl rfl rfl (by simp only [wk, z, seval, law37_sameWants_t2]) (by simp only [wk, z, seval, law37_sameWants_t2])
    first | replace H := bif_f h11 H | replace H := bif_f2 h11 H (by simp only [List.length_append])
    refine Sm.exit ?_
    try simp only [seval, Exit.exit.injEq]
    refine ⟨⟨_, (Option.some.inj H).symm⟩, fun hz => ?_⟩
    have hyy := Sum.inr.inj ((Option.some.inj H).trans hz)
    subst hyy
    have H := Ho8
    try dsimp only at H
    try simp only [seval, Exit.exit.injEq]
    refine ⟨(), H, ?_⟩
    exact weak_b [] rfl rfl rfl (by simp only [wk, z, seval, law37_sameWants_t2]) (by simp only [wk, z, seval, law37_sameWants_t2])
  rintro ⟨⟩ H
  try dsimp only at H
  unfold law37_sameWants_k1 at H
  refine Sm.seqA h00 mixed hΓ (by kernel_rfl) fun K6 hK6 => ?_
  simp only [rs]
  repeat (refine opsG fun K hK => ?_; simp only [z, seval, law37_sameWants_s1]; (repeat (first | refine gcI ?_ | refine fun (_ : _ ≤ _) => ?_)); refine hK _ ?_; clear hK K)
  refine hK6 _ ?_
  refine Sm.ret ?_
  try simp only [seval, Exit.exit.injEq]
  obtain rfl := Option.some.inj H
  refine Ret.ofR [] (.inr rfl) ?_
  simp only [z, seval, law37_sameWants_s1]

abbrev law37_sameRequests_s1 : S := stB [] []

def law37_sameRequests_k1 (n : Nat) : Option Bool :=
  some true

abbrev law37_sameRequests_t2 (a : List TRequest) (b : List TRequest) (k : Int) : S := stB [(0, .c (.slice 61) (.slice (List.map e_TRequest a))), (1, .c (.slice 88) (.slice (List.map e_TRequest b))), (5, .c (.int .i64) (.int k))] []

def law37_sameRequests_b2 (n : Nat) (a : List TRequest) (b : List TRequest) (k : Int) : Option ((Int) ⊕ (((Bool) ⊕ (Unit)))) :=
  bif (decide (k < (a.length : Int))) then
    gd ((0 ≤ k ∧ k < (a.length : Int)) ∧ (0 ≤ k ∧ k < (b.length : Int)) ∧ ((!(((gt a (Int.toNat k)).Job) != ((gt b (Int.toNat k)).Job))) = true → (0 ≤ k ∧ k < (a.length : Int))) ∧ ((!(((gt a (Int.toNat k)).Job) != ((gt b (Int.toNat k)).Job))) = true → (0 ≤ k ∧ k < (b.length : Int))) ∧ ((!(((gt a (Int.toNat k)).Job) != ((gt b (Int.toNat k)).Job))) = true → (law37_sameWants n ((gt a (Int.toNat k)).Wants) ((gt b (Int.toNat k)).Wants)).isSome = true)) <|
    bif (if (((gt a (Int.toNat k)).Job) != ((gt b (Int.toNat k)).Job)) = true then true else (!((law37_sameWants n ((gt a (Int.toNat k)).Wants) ((gt b (Int.toNat k)).Wants)).getD default))) then
      some (.inr (.inl false))
    else
      some (.inl (IntKind.wrap .i64 (k + 1)))
  else
    some (.inr (.inr ()))

def law37_sameRequests (n : Nat) (a : List TRequest) (b : List TRequest) : Option Bool :=
  bif ((a.length : Int) != (b.length : Int)) then
    some false
  else
    (loopF (fun (x : Int) => law37_sameRequests_b2 n a b x) n 0).bind fun y8 =>
    match y8 with
    | .inl v =>
      some v
    | .inr v =>
      law37_sameRequests_k1 n

def xlaw37_sameRequests (n : Nat) : Go.AE.Fn := mkFn (A := (List TRequest) × (List TRequest)) (R := Bool) 42 [(false, [.slice 61]), (false, [.slice 88])] false (fun xs => (((cg (xs.getD 0 []) 0).toSl.map d_TRequest), ((cg (xs.getD 1 []) 0).toSl.map d_TRequest))) (fun a => [[.slice (List.map e_TRequest a.1)], [.slice (List.map e_TRequest a.2)]]) (fun a => law37_sameRequests n a.1 a.2) (fun r => [.c .bool (.bool r)]) (fun r => [])

theorem claw37_sameRequests (n : Nat) : Contract Try.prog (xlaw37_sameRequests n) := by
  have hΓ : ∀ g, g ∈ ([xlaw37_sameWants n] : List Go.AE.Fn) → Contract Try.prog g := by
    intro g hg; simp only [List.mem_cons, List.not_mem_nil, or_false] at hg; subst hg; exact claw37_sameWants n
  refine contract_f (Try.f42.body.getD .skip) h00 Try.func42 rfl (by intro args w; exact Try.call42 args w) (by decide) (by intro _ r; exact ⟨rfl, by simp⟩) ?_
  rintro ⟨a, b⟩ r H
  try dsimp only at H
  unfold law37_sameRequests at H
  simp only [Try.f42, Option.getD]
  refine Sm.seqA h00 mixed hΓ (by kernel_rfl) fun K1 hK1 => ?_
  simp only [rs]
  repeat (refine opsG fun K hK => ?_; simp only [z, seval]; (repeat (first | refine gcI ?_ | refine fun (_ : _ ≤ _) => ?_)); refine hK _ ?_; clear hK K)
  refine hK1 _ ?_
  refine Sm.seqK fun K2 hK2 => ?_
  refine Sm.seqA h00 mixed hΓ (by kernel_rfl) fun K3 hK3 => ?_
  simp only [rs]
  repeat (refine opsG fun K hK => ?_; simp only [z, seval]; (repeat (first | refine gcI ?_ | refine fun (_ : _ ≤ _) => ?_)); refine hK _ ?_; clear hK K)
  refine hK3 _ ?_
  refine Sm.condK (by rfl) fun Ka Kb ha hb => ?_
  simp only [wpCond, z, seval]
  refine ⟨fun h4 => ha ?_, fun h4 => hb ?_⟩
  · first | replace H := bif_t h4 H | replace H := bif_t2 h4 H (by simp only [List.length_append])
    refine Sm.seqA h00 mixed hΓ (by kernel_rfl) fun K5 hK5 => ?_
    simp only [rs]
    repeat (refine opsG fun K hK => ?_; simp only [z, seval]; (repeat (first | refine gcI ?_ | refine fun (_ : _ ≤ _) => ?_)); refine hK _ ?_; clear hK K)
    refine hK5 _ ?_
    refine Sm.ret ?_
    try simp only [seval, Exit.exit.injEq]
    obtain rfl := Option.some.inj H
    refine Ret.ofR [] (.inr rfl) ?_
    simp only [z, seval]
  first | replace H := bif_f h4 H | replace H := bif_f2 h4 H (by simp only [List.length_append])
  refine Sm.skip ?_
  refine hK2 _ ?_
  refine Sm.cut (fun (x : Unit) => law37_sameRequests_s1) (fun x => law37_sameRequests_k1 n = some r) ?_ ?_
  · refine Sm.seqA h00 mixed hΓ (by kernel_rfl) fun K7 hK7 => ?_
    simp only [rs]
    repeat (refine opsG fun K hK => ?_; simp only [z, seval]; (repeat (first | refine gcI ?_ | refine fun (_ : _ ≤ _) => ?_)); refine hK _ ?_; clear hK K)
    refine hK7 _ ?_
    refine Sm.block ?_
    obtain ⟨y8, hy8, Ho8⟩ := bind_some H
    refine Sm.loopB (fun (x : Int) => law37_sameRequests_b2 n a b x) (fun x => law37_sameRequests_t2 a b x) hy8 ?_ ?_
    · exact weak_b [] rfl rfl rfl (by simp only [wk, z, seval]) (by simp only [wk, z, seval])
    rintro k z8 H
    try dsimp only at H
    unfold law37_sameRequests_b2 at H
    refine Sm.seqK fun K9 hK9 => ?_
    refine Sm.seqA h00 mixed hΓ (by kernel_rfl) fun K10 hK10 => ?_
    simp only [rs]
    repeat (refine opsG fun K hK => ?_; simp only [z, seval, law37_sameRequests_t2]; (repeat (first | refine gcI ?_ | refine fun (_ : _ ≤ _) => ?_)); refine hK _ ?_; clear hK K)
    refine hK10 _ ?_
    refine Sm.condK (by rfl) fun Ka Kb ha hb => ?_
    simp only [wpCond, z, seval, law37_sameRequests_t2]
    refine ⟨fun h11 => ha ?_, fun h11 => hb ?_⟩
    · first | replace H := bif_t h11 H | replace H := bif_t2 h11 H (by simp only [List.length_append])
      refine Sm.skip ?_
      refine hK9 _ ?_
      refine Sm.seqK fun K12 hK12 => ?_
      refine Sm.block ?_
      obtain ⟨⟨hg16, hg17, hg18, hg19, hg20⟩, H⟩ := gd_some H
      refine Sm.seqD h00 mixed hΓ (by kernel_rfl) fun K13 hK13 => ?_
      simp only [rs]
      repeat (refine opsH fun K hK => ?_; simp only [z, seval, law37_sameRequests_t2, xlaw37_sameWants]; (repeat (first | refine gcI ?_ | refine fun (_ : _ ≤ _) => ?_)); refine hK _ ?_; clear hK K)
      refine hK13 _ ?_
      refine Sm.condK (by rfl) fun Ka Kb ha hb => ?_
      simp only [wpCond, z, seval, law37_sameRequests_t2]
      refine ⟨fun h14 => ha ?_, fun h14 => hb ?_⟩
      · first | replace H := bif_t h14 H | replace H := bif_t2 h14 H (by simp only [List.length_append])
        refine Sm.seqA h00 mixed hΓ (by kernel_rfl) fun K15 hK15 => ?_
        simp only [rs]
        repeat (refine opsG fun K hK => ?_; simp only [z, seval, law37_sameRequests_t2]; (repeat (first | refine gcI ?_ | refine fun (_ : _ ≤ _) => ?_)); refine hK _ ?_; clear hK K)
        refine hK15 _ ?_
        refine Sm.ret ?_
        try simp only [seval, Exit.exit.injEq]
        refine ⟨⟨_, (Option.some.inj H).symm⟩, fun hz => ?_⟩
        have hyy := Sum.inr.inj ((Option.some.inj H).trans hz)
        subst hyy
        have H := Ho8
        try dsimp only at H
        try simp only [seval, Exit.exit.injEq]
        obtain rfl := Option.some.inj H
        refine Ret.ofR [] (.inr rfl) ?_
        simp only [z, seval, law37_sameRequests_t2]
      first | replace H := bif_f h14 H | replace H := bif_f2 h14 H (by simp only [List.length_append])
      refine Sm.skip ?_
      refine hK12 _ ?_
      refine Sm.regA h00 mixed hΓ (by kernel_rfl) ?_
      simp only [rs]
      repeat (refine opsG fun K hK => ?_; simp only [z, seval, law37_sameRequests_t2]; (repeat (first | refine gcI ?_ | refine fun (_ : _ ≤ _) => ?_)); refine hK _ ?_; clear hK K)
      refine opsG0 ?_
      try simp only [seval, Exit.exit.injEq]
      refine ⟨_, (Option.some.inj H).symm, ?_⟩
      exact weak_b [] rfl rfl rfl (by simp only [wk, z, seval, law37_sameRequests_t2]) (by simp only [wk, z, seval, law37_sameRequests_t2])
    first | replace H := bif_f h11 H | replace H := bif_f2 h11 H (by simp only [List.length_append])
    refine Sm.exit ?_
    try simp only [seval, Exit.exit.injEq]
    refine ⟨⟨_, (Option.some.inj H).symm⟩, fun hz => ?_⟩
    have hyy := Sum.inr.inj ((Option.some.inj H).trans hz)
    subst hyy
    have H := Ho8
    try dsimp only at H
    try simp only [seval, Exit.exit.injEq]
    refine ⟨(), H, ?_⟩
    exact weak_b [] rfl rfl rfl (by simp only [wk, z, seval, law37_sameRequests_t2]) (by simp only [wk, z, seval, law37_sameRequests_t2])
  rintro ⟨⟩ H
  try dsimp only at H
  unfold law37_sameRequests_k1 at H
  refine Sm.seqA h00 mixed hΓ (by kernel_rfl) fun K6 hK6 => ?_
  simp only [rs]
  repeat (refine opsG fun K hK => ?_; simp only [z, seval, law37_sameRequests_s1]; (repeat (first | refine gcI ?_ | refine fun (_ : _ ≤ _) => ?_)); refine hK _ ?_; clear hK K)
  refine hK6 _ ?_
  refine Sm.ret ?_
  try simp only [seval, Exit.exit.injEq]
  obtain rfl := Option.some.inj H
  refine Ret.ofR [] (.inr rfl) ?_
  simp only [z, seval, law37_sameRequests_s1]

def law37_same (n : Nat) (a : TTable) (b : TTable) : Option Bool :=
  (law37_sameRequests n a.Held b.Held).bind fun r1 =>
  gd ((r1 = true → (law37_sameRequests n a.Waiting b.Waiting).isSome = true)) <|
  some (if r1 = true then ((law37_sameRequests n a.Waiting b.Waiting).getD default) else false)

def xlaw37_same (n : Nat) : Go.AE.Fn := mkFn (A := TTable × TTable) (R := Bool) 17 [(true, [.slice 61, .slice 61]), (true, [.slice 88, .slice 88])] false (fun xs => ((⟨((cg (xs.getD 0 []) 0).toSl.map d_TRequest), ((cg (xs.getD 0 []) 1).toSl.map d_TRequest)⟩ : TTable), (⟨((cg (xs.getD 1 []) 0).toSl.map d_TRequest), ((cg (xs.getD 1 []) 1).toSl.map d_TRequest)⟩ : TTable))) (fun a => [[.slice (List.map e_TRequest a.1.Held), .slice (List.map e_TRequest a.1.Waiting)], [.slice (List.map e_TRequest a.2.Held), .slice (List.map e_TRequest a.2.Waiting)]]) (fun a => law37_same n a.1 a.2) (fun r => [.c .bool (.bool r)]) (fun r => [])

theorem claw37_same (n : Nat) : Contract Try.prog (xlaw37_same n) := by
  have hΓ : ∀ g, g ∈ ([xlaw37_sameRequests n] : List Go.AE.Fn) → Contract Try.prog g := by
    intro g hg; simp only [List.mem_cons, List.not_mem_nil, or_false] at hg; subst hg; exact claw37_sameRequests n
  refine contract_f (Try.f17.body.getD .skip) h00 Try.func17 rfl (by intro args w; exact Try.call17 args w) (by decide) (by intro _ r; exact ⟨rfl, by simp⟩) ?_
  rintro ⟨a, b⟩ r H
  try dsimp only at H
  unfold law37_same at H
  simp only [Try.f17, Option.getD]
  refine Sm.seqA h00 mixed hΓ (by kernel_rfl) fun K1 hK1 => ?_
  simp only [rs]
  repeat (refine opsG fun K hK => ?_; simp only [z, seval]; (repeat (first | refine gcI ?_ | refine fun (_ : _ ≤ _) => ?_)); refine hK _ ?_; clear hK K)
  refine hK1 _ ?_
  obtain ⟨r1, hr1, H⟩ := bind_some H
  obtain ⟨hg3, H⟩ := gd_some H
  refine Sm.seqA h00 mixed hΓ (by kernel_rfl) fun K2 hK2 => ?_
  simp only [rs]
  repeat (refine opsG fun K hK => ?_; simp only [z, seval, xlaw37_sameRequests, hr1]; (repeat (first | refine gcI ?_ | refine fun (_ : _ ≤ _) => ?_)); refine hK _ ?_; clear hK K)
  refine hK2 _ ?_
  refine Sm.ret ?_
  try simp only [seval, Exit.exit.injEq]
  obtain rfl := Option.some.inj H
  refine Ret.ofR [] (.inr rfl) ?_
  simp only [z, seval]
end Go.Proofs.Ytcdofkflbnpjjaa
