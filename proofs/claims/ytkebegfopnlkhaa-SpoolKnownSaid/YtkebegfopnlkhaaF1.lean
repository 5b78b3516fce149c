/-
  The functions of the seat, as functions; their contracts.
-/
import Derived.Test.YtkebegfopnlkhaaT
import Derived.Test.YtkebegfopnlkhaaN
import Derived.Test.YtkebegfopnlkhaaI2
set_option maxHeartbeats 8000000
set_option linter.unusedVariables false
set_option linter.unusedSimpArgs false
set_option maxRecDepth 100000
namespace Go.Proofs.Ytkebegfopnlkhaa
open Go.AE
def spool_Tracks_1 (n : Nat) (x : TLine) : Option Bool :=
  some (decide ((x.Text.length : Int) > 132))

def xspool_Tracks_1 (n : Nat) : Go.AE.Fn := mkFn (A := TLine) (R := Bool) 43 [(true, [.int .i64, .str])] false (fun xs => (⟨(cg (xs.getD 0 []) 0).toInt, (cg (xs.getD 0 []) 1).toStr⟩ : TLine)) (fun a => [[.int a.Ctl, .str a.Text]]) (fun a => spool_Tracks_1 n a) (fun r => [.c .bool (.bool r)]) (fun r => [])

theorem cspool_Tracks_1 (n : Nat) : Contract Try.prog (xspool_Tracks_1 n) := by
  have hΓ : ∀ g, g ∈ ([] : List Go.AE.Fn) → Contract Try.prog g := by simp
  refine contract_f (Try.f43.body.getD .skip) h00 Try.func43 rfl (by intro args w; exact Try.call43 args w) (by decide) (by intro _ r; exact ⟨rfl, by simp⟩) ?_
  rintro x r H
  try dsimp only at H
  unfold spool_Tracks_1 at H
  simp only [Try.f43, Option.getD]
  refine Sm.seqA h00 mixed hΓ (by kernel_rfl) fun K1 hK1 => ?_
  simp only [rs]
  repeat (refine opsG fun K hK => ?_; simp only [z, seval]; (repeat (first | refine gcI ?_ | refine fun (_ : _ ≤ _) => ?_)); refine hK _ ?_; clear hK K)
  refine hK1 _ ?_
  refine Sm.seqA h00 mixed hΓ (by kernel_rfl) fun K2 hK2 => ?_
  simp only [rs]
  repeat (refine opsG fun K hK => ?_; simp only [z, seval]; (repeat (first | refine gcI ?_ | refine fun (_ : _ ≤ _) => ?_)); refine hK _ ?_; clear hK K)
  refine hK2 _ ?_
  refine Sm.ret ?_
  try simp only [seval, Exit.exit.injEq]
  obtain rfl := Option.some.inj H
  refine Ret.ofR [] (.inr rfl) ?_
  simp only [z, seval]

abbrev slices_IndexFunc_f68_M1_s1 : S := stB [] []

def slices_IndexFunc_f68_M1_k1 (n : Nat) : Option Int :=
  some (-1)

abbrev slices_IndexFunc_f68_M1_t2 (s : List TLine) (v7 : Int) (v8 : Int) : S := stB [(0, .c (.slice 48) (.slice (List.map e_TLine s))), (1, .fnv 43 []), (7, .c (.int .i64) (.int v7)), (8, .c (.int .i64) (.int v8))] []

def slices_IndexFunc_f68_M1_b2 (n : Nat) (s : List TLine) (v7 : Int) (v8 : Int) : Option ((Int) ⊕ (((Int) ⊕ (Unit)))) :=
  bif (decide (v8 < v7)) then
    gd ((0 ≤ v8 ∧ v8 < (s.length : Int))) <|
    (spool_Tracks_1 n (gt s (Int.toNat v8))).bind fun r1 =>
    bif r1 then
      some (.inr (.inl v8))
    else
      some (.inl (IntKind.wrap .i64 (v8 + 1)))
  else
    some (.inr (.inr ()))

def slices_IndexFunc_f68_M1 (n : Nat) (s : List TLine) : Option Int :=
  (loopF (fun (x : Int) => slices_IndexFunc_f68_M1_b2 n s (s.length : Int) x) n 0).bind fun y4 =>
  match y4 with
  | .inl v =>
    some v
  | .inr v =>
    slices_IndexFunc_f68_M1_k1 n

theorem cslices_IndexFunc_f68_M1 (n : Nat) (s : List TLine) (r : Int) (H : slices_IndexFunc_f68_M1 n s = some r) : CallsM Try.prog 68 [.dat (false, [.slice 48]) [.slice (List.map e_TLine s)], .ref (.fnv 43 [])] [] [.c (.int .i64) (.int r)] [] := by
  have hΓ : ∀ g, g ∈ ([xspool_Tracks_1 n] : List Go.AE.Fn) → Contract Try.prog g := by
    intro g hg; simp only [List.mem_cons, List.not_mem_nil, or_false] at hg; subst hg; exact cspool_Tracks_1 n
  refine callsM_of (Try.f68.body.getD .skip) h00 Try.func68 rfl (by intro args w; exact Try.call68 args w) (Nat.le_of_ble_eq_true rfl) (Nat.le_of_ble_eq_true rfl) ?_
  unfold slices_IndexFunc_f68_M1 at H
  simp only [Try.f68, Option.getD]
  refine Sm.seqA h00 mixed hΓ (by kernel_rfl) fun K1 hK1 => ?_
  simp only [rs]
  repeat (refine opsG fun K hK => ?_; simp only [z, seval]; (repeat (first | refine gcI ?_ | refine fun (_ : _ ≤ _) => ?_)); refine hK _ ?_; clear hK K)
  refine hK1 _ ?_
  refine Sm.cut (fun (x : Unit) => slices_IndexFunc_f68_M1_s1) (fun x => slices_IndexFunc_f68_M1_k1 n = some r) ?_ ?_
  · refine Sm.seqA h00 mixed hΓ (by kernel_rfl) fun K3 hK3 => ?_
    simp only [rs]
    repeat (refine opsG fun K hK => ?_; simp only [z, seval]; (repeat (first | refine gcI ?_ | refine fun (_ : _ ≤ _) => ?_)); refine hK _ ?_; clear hK K)
    refine hK3 _ ?_
    refine Sm.block ?_
    obtain ⟨y4, hy4, Ho4⟩ := bind_some H
    refine Sm.loopB (fun (x : Int) => slices_IndexFunc_f68_M1_b2 n s (s.length : Int) x) (fun x => slices_IndexFunc_f68_M1_t2 s (s.length : Int) x) hy4 ?_ ?_
    · exact weak_b [] rfl rfl rfl (by simp only [wk, z, seval]) (by simp only [wk, z, seval])
    rintro v8 z4 H
    try dsimp only at H
    unfold slices_IndexFunc_f68_M1_b2 at H
    refine Sm.seqA h00 mixed hΓ (by kernel_rfl) fun K5 hK5 => ?_
    simp only [rs]
    repeat (refine opsG fun K hK => ?_; simp only [z, seval, slices_IndexFunc_f68_M1_t2]; (repeat (first | refine gcI ?_ | refine fun (_ : _ ≤ _) => ?_)); refine hK _ ?_; clear hK K)
    refine hK5 _ ?_
    refine Sm.seqK fun K6 hK6 => ?_
    refine Sm.condK (by rfl) fun Ka Kb ha hb => ?_
    simp only [wpCond, z, seval, slices_IndexFunc_f68_M1_t2]
    refine ⟨fun h7 => ha ?_, fun h7 => hb ?_⟩
    · first | replace H := bif_t h7 H | replace H := bif_t2 h7 H (by simp only [List.length_append])
      refine Sm.skip ?_
      refine hK6 _ ?_
      refine Sm.seqK fun K8 hK8 => ?_
      refine Sm.block ?_
      refine Sm.seqA h00 mixed hΓ (by kernel_rfl) fun K9 hK9 => ?_
      simp only [rs]
      repeat (refine opsG fun K hK => ?_; simp only [z, seval, slices_IndexFunc_f68_M1_t2]; (repeat (first | refine gcI ?_ | refine fun (_ : _ ≤ _) => ?_)); refine hK _ ?_; clear hK K)
      refine hK9 _ ?_
      obtain ⟨hg13, H⟩ := gd_some H
      obtain ⟨r1, hr1, H⟩ := bind_some H
      refine Sm.seqA h00 mixed hΓ (by kernel_rfl) fun K10 hK10 => ?_
      simp only [rs]
      repeat (refine opsG fun K hK => ?_; simp only [z, seval, slices_IndexFunc_f68_M1_t2, xspool_Tracks_1, hr1]; (repeat (first | refine gcI ?_ | refine fun (_ : _ ≤ _) => ?_)); refine hK _ ?_; clear hK K)
      refine hK10 _ ?_
      refine Sm.condK (by rfl) fun Ka Kb ha hb => ?_
      simp only [wpCond, z, seval, slices_IndexFunc_f68_M1_t2]
      refine ⟨fun h11 => ha ?_, fun h11 => hb ?_⟩
      · first | replace H := bif_t h11 H | replace H := bif_t2 h11 H (by simp only [List.length_append])
        refine Sm.seqA h00 mixed hΓ (by kernel_rfl) fun K12 hK12 => ?_
        simp only [rs]
        repeat (refine opsG fun K hK => ?_; simp only [z, seval, slices_IndexFunc_f68_M1_t2]; (repeat (first | refine gcI ?_ | refine fun (_ : _ ≤ _) => ?_)); refine hK _ ?_; clear hK K)
        refine hK12 _ ?_
        refine Sm.ret ?_
        try simp only [seval, Exit.exit.injEq]
        refine ⟨⟨_, (Option.some.inj H).symm⟩, fun hz => ?_⟩
        have hyy := Sum.inr.inj ((Option.some.inj H).trans hz)
        subst hyy
        have H := Ho4
        try dsimp only at H
        try simp only [seval, Exit.exit.injEq]
        obtain rfl := Option.some.inj H
        refine RetM.mk (.inr rfl) [] rfl ?_
        simp only [z, seval, slices_IndexFunc_f68_M1_t2]
      first | replace H := bif_f h11 H | replace H := bif_f2 h11 H (by simp only [List.length_append])
      refine Sm.skip ?_
      refine hK8 _ ?_
      refine Sm.regA h00 mixed hΓ (by kernel_rfl) ?_
      simp only [rs]
      repeat (refine opsG fun K hK => ?_; simp only [z, seval, slices_IndexFunc_f68_M1_t2]; (repeat (first | refine gcI ?_ | refine fun (_ : _ ≤ _) => ?_)); refine hK _ ?_; clear hK K)
      refine opsG0 ?_
      try simp only [seval, Exit.exit.injEq]
      refine ⟨_, (Option.some.inj H).symm, ?_⟩
      exact weak_b [] rfl rfl rfl (by simp only [wk, z, seval, slices_IndexFunc_f68_M1_t2]) (by simp only [wk, z, seval, slices_IndexFunc_f68_M1_t2])
    first | replace H := bif_f h7 H | replace H := bif_f2 h7 H (by simp only [List.length_append])
    refine Sm.exit ?_
    try simp only [seval, Exit.exit.injEq]
    refine ⟨⟨_, (Option.some.inj H).symm⟩, fun hz => ?_⟩
    have hyy := Sum.inr.inj ((Option.some.inj H).trans hz)
    subst hyy
    have H := Ho4
    try dsimp only at H
    try simp only [seval, Exit.exit.injEq]
    refine ⟨(), H, ?_⟩
    exact weak_b [] rfl rfl rfl (by simp only [wk, z, seval, slices_IndexFunc_f68_M1_t2]) (by simp only [wk, z, seval, slices_IndexFunc_f68_M1_t2])
  rintro ⟨⟩ H
  try dsimp only at H
  unfold slices_IndexFunc_f68_M1_k1 at H
  refine Sm.seqA h00 mixed hΓ (by kernel_rfl) fun K2 hK2 => ?_
  simp only [rs]
  repeat (refine opsG fun K hK => ?_; simp only [z, seval, slices_IndexFunc_f68_M1_s1]; (repeat (first | refine gcI ?_ | refine fun (_ : _ ≤ _) => ?_)); refine hK _ ?_; clear hK K)
  refine hK2 _ ?_
  refine Sm.ret ?_
  try simp only [seval, Exit.exit.injEq]
  obtain rfl := Option.some.inj H
  refine RetM.mk (.inr rfl) [] rfl ?_
  simp only [z, seval, slices_IndexFunc_f68_M1_s1]

def slices_ContainsFunc_f42_M1 (n : Nat) (s : List TLine) : Option Bool :=
  (slices_IndexFunc_f68_M1 n s).bind fun r1 =>
  some (decide (r1 ≥ 0))

theorem cslices_ContainsFunc_f42_M1 (n : Nat) (s : List TLine) (r : Bool) (H : slices_ContainsFunc_f42_M1 n s = some r) : CallsM Try.prog 42 [.dat (false, [.slice 48]) [.slice (List.map e_TLine s)], .ref (.fnv 43 [])] [] [.c .bool (.bool r)] [] := by
  have hΓ : ∀ g, g ∈ ([] : List Go.AE.Fn) → Contract Try.prog g := by simp
  refine callsM_of (Try.f42.body.getD .skip) h00 Try.func42 rfl (by intro args w; exact Try.call42 args w) (Nat.le_of_ble_eq_true rfl) (Nat.le_of_ble_eq_true rfl) ?_
  unfold slices_ContainsFunc_f42_M1 at H
  simp only [Try.f42, Option.getD]
  refine Sm.seqA h00 mixed hΓ (by kernel_rfl) fun K1 hK1 => ?_
  simp only [rs]
  repeat (refine opsG fun K hK => ?_; simp only [z, seval]; (repeat (first | refine gcI ?_ | refine fun (_ : _ ≤ _) => ?_)); refine hK _ ?_; clear hK K)
  refine hK1 _ ?_
  refine Sm.seqX h00 mixed hΓ (by kernel_rfl) fun K2 hK2 => ?_
  simp only [rs]
  obtain ⟨r1, hr1, H⟩ := bind_some H
  iterate 2 (refine opsX fun K hK => ?_; simp only [z, seval]; (repeat (first | refine gcI ?_ | refine fun (_ : _ ≤ _) => ?_)); refine hK _ ?_; clear hK K)
  refine opsM (cslices_IndexFunc_f68_M1 n _ r1 hr1) [] [] (by simp only [z, seval, hr1]; try rfl) (by simp only [z, seval, hr1]) (by simp only [z, seval, hr1]) (by simp only [z, seval, hr1]) (by simp only [z, seval, hr1]) rfl (by simp only [z, seval, hr1]) rfl ?_
  iterate 2 (refine opsX fun K hK => ?_; simp only [z, seval, hr1]; (repeat (first | refine gcI ?_ | refine fun (_ : _ ≤ _) => ?_)); refine hK _ ?_; clear hK K)
  refine hK2 _ ?_
  refine Sm.ret ?_
  try simp only [seval, Exit.exit.injEq]
  obtain rfl := Option.some.inj H
  refine RetM.mk (.inr rfl) [] rfl ?_
  simp only [z, seval]

def spool_Tracks_2 (n : Nat) (x : TLine) : Option Bool :=
  some (if (decide (x.Ctl < 0)) = true then true else (decide (x.Ctl > 255)))

def xspool_Tracks_2 (n : Nat) : Go.AE.Fn := mkFn (A := TLine) (R := Bool) 44 [(true, [.int .i64, .str])] false (fun xs => (⟨(cg (xs.getD 0 []) 0).toInt, (cg (xs.getD 0 []) 1).toStr⟩ : TLine)) (fun a => [[.int a.Ctl, .str a.Text]]) (fun a => spool_Tracks_2 n a) (fun r => [.c .bool (.bool r)]) (fun r => [])

theorem cspool_Tracks_2 (n : Nat) : Contract Try.prog (xspool_Tracks_2 n) := by
  have hΓ : ∀ g, g ∈ ([] : List Go.AE.Fn) → Contract Try.prog g := by simp
  refine contract_f (Try.f44.body.getD .skip) h00 Try.func44 rfl (by intro args w; exact Try.call44 args w) (by decide) (by intro _ r; exact ⟨rfl, by simp⟩) ?_
  rintro x r H
  try dsimp only at H
  unfold spool_Tracks_2 at H
  simp only [Try.f44, Option.getD]
  refine Sm.seqA h00 mixed hΓ (by kernel_rfl) fun K1 hK1 => ?_
  simp only [rs]
  repeat (refine opsG fun K hK => ?_; simp only [z, seval]; (repeat (first | refine gcI ?_ | refine fun (_ : _ ≤ _) => ?_)); refine hK _ ?_; clear hK K)
  refine hK1 _ ?_
  refine Sm.seqA h00 mixed hΓ (by kernel_rfl) fun K2 hK2 => ?_
  simp only [rs]
  repeat (refine opsG fun K hK => ?_; simp only [z, seval]; (repeat (first | refine gcI ?_ | refine fun (_ : _ ≤ _) => ?_)); refine hK _ ?_; clear hK K)
  refine hK2 _ ?_
  refine Sm.ret ?_
  try simp only [seval, Exit.exit.injEq]
  obtain rfl := Option.some.inj H
  refine Ret.ofR [] (.inr rfl) ?_
  simp only [z, seval]

abbrev slices_IndexFunc_f68_M2_s1 : S := stB [] []

def slices_IndexFunc_f68_M2_k1 (n : Nat) : Option Int :=
  some (-1)

abbrev slices_IndexFunc_f68_M2_t2 (s : List TLine) (v7 : Int) (v8 : Int) : S := stB [(0, .c (.slice 48) (.slice (List.map e_TLine s))), (1, .fnv 44 []), (7, .c (.int .i64) (.int v7)), (8, .c (.int .i64) (.int v8))] []

def slices_IndexFunc_f68_M2_b2 (n : Nat) (s : List TLine) (v7 : Int) (v8 : Int) : Option ((Int) ⊕ (((Int) ⊕ (Unit)))) :=
  bif (decide (v8 < v7)) then
    gd ((0 ≤ v8 ∧ v8 < (s.length : Int))) <|
    (spool_Tracks_2 n (gt s (Int.toNat v8))).bind fun r1 =>
    bif r1 then
      some (.inr (.inl v8))
    else
      some (.inl (IntKind.wrap .i64 (v8 + 1)))
  else
    some (.inr (.inr ()))

def slices_IndexFunc_f68_M2 (n : Nat) (s : List TLine) : Option Int :=
  (loopF (fun (x : Int) => slices_IndexFunc_f68_M2_b2 n s (s.length : Int) x) n 0).bind fun y4 =>
  match y4 with
  | .inl v =>
    some v
  | .inr v =>
    slices_IndexFunc_f68_M2_k1 n

theorem cslices_IndexFunc_f68_M2 (n : Nat) (s : List TLine) (r : Int) (H : slices_IndexFunc_f68_M2 n s = some r) : CallsM Try.prog 68 [.dat (false, [.slice 48]) [.slice (List.map e_TLine s)], .ref (.fnv 44 [])] [] [.c (.int .i64) (.int r)] [] := by
  have hΓ : ∀ g, g ∈ ([xspool_Tracks_2 n] : List Go.AE.Fn) → Contract Try.prog g := by
    intro g hg; simp only [List.mem_cons, List.not_mem_nil, or_false] at hg; subst hg; exact cspool_Tracks_2 n
  refine callsM_of (Try.f68.body.getD .skip) h00 Try.func68 rfl (by intro args w; exact Try.call68 args w) (Nat.le_of_ble_eq_true rfl) (Nat.le_of_ble_eq_true rfl) ?_
  unfold slices_IndexFunc_f68_M2 at H
  simp only [Try.f68, Option.getD]
  refine Sm.seqA h00 mixed hΓ (by kernel_rfl) fun K1 hK1 => ?_
  simp only [rs]
  repeat (refine opsG fun K hK => ?_; simp only [z, seval]; (repeat (first | refine gcI ?_ | refine fun (_ : _ ≤ _) => ?_)); refine hK _ ?_; clear hK K)
  refine hK1 _ ?_
  refine Sm.cut (fun (x : Unit) => slices_IndexFunc_f68_M2_s1) (fun x => slices_IndexFunc_f68_M2_k1 n = some r) ?_ ?_
  · refine Sm.seqA h00 mixed hΓ (by kernel_rfl) fun K3 hK3 => ?_
    simp only [rs]
    repeat (refine opsG fun K hK => ?_; simp only [z, seval]; (repeat (first | refine gcI ?_ | refine fun (_ : _ ≤ _) => ?_)); refine hK _ ?_; clear hK K)
    refine hK3 _ ?_
    refine Sm.block ?_
    obtain ⟨y4, hy4, Ho4⟩ := bind_some H
    refine Sm.loopB (fun (x : Int) => slices_IndexFunc_f68_M2_b2 n s (s.length : Int) x) (fun x => slices_IndexFunc_f68_M2_t2 s (s.length : Int) x) hy4 ?_ ?_
    · exact weak_b [] rfl rfl rfl (by simp only [wk, z, seval]) (by simp only [wk, z, seval])
    rintro v8 z4 H
    try dsimp only at H
    unfold slices_IndexFunc_f68_M2_b2 at H
    refine Sm.seqA h00 mixed hΓ (by kernel_rfl) fun K5 hK5 => ?_
    simp only [rs]
    repeat (refine opsG fun K hK => ?_; simp only [z, seval, slices_IndexFunc_f68_M2_t2]; (repeat (first | refine gcI ?_ | refine fun (_ : _ ≤ _) => ?_)); refine hK _ ?_; clear hK K)
    refine hK5 _ ?_
    refine Sm.seqK fun K6 hK6 => ?_
    refine Sm.condK (by rfl) fun Ka Kb ha hb => ?_
    simp only [wpCond, z, seval, slices_IndexFunc_f68_M2_t2]
    refine ⟨fun h7 => ha ?_, fun h7 => hb ?_⟩
    · first | replace H := bif_t h7 H | replace H := bif_t2 h7 H (by simp only [List.length_append])
      refine Sm.skip ?_
      refine hK6 _ ?_
      refine Sm.seqK fun K8 hK8 => ?_
      refine Sm.block ?_
      refine Sm.seqA h00 mixed hΓ (by kernel_rfl) fun K9 hK9 => ?_
      simp only [rs]
      repeat (refine opsG fun K hK => ?_; simp only [z, seval, slices_IndexFunc_f68_M2_t2]; (repeat (first | refine gcI ?_ | refine fun (_ : _ ≤ _) => ?_)); refine hK _ ?_; clear hK K)
      refine hK9 _ ?_
      obtain ⟨hg13, H⟩ := gd_some H
      obtain ⟨r1, hr1, H⟩ := bind_some H
      refine Sm.seqA h00 mixed hΓ (by kernel_rfl) fun K10 hK10 => ?_
      simp only [rs]
      repeat (refine opsG fun K hK => ?_; simp only [z, seval, slices_IndexFunc_f68_M2_t2, xspool_Tracks_2, hr1]; (repeat (first | refine gcI ?_ | refine fun (_ : _ ≤ _) => ?_)); refine hK _ ?_; clear hK K)
      refine hK10 _ ?_
      refine Sm.condK (by rfl) fun Ka Kb ha hb => ?_
      simp only [wpCond, z, seval, slices_IndexFunc_f68_M2_t2]
      refine ⟨fun h11 => ha ?_, fun h11 => hb ?_⟩
      · first | replace H := bif_t h11 H | replace H := bif_t2 h11 H (by simp only [List.length_append])
        refine Sm.seqA h00 mixed hΓ (by kernel_rfl) fun K12 hK12 => ?_
        simp only [rs]
        repeat (refine opsG fun K hK => ?_; simp only [z, seval, slices_IndexFunc_f68_M2_t2]; (repeat (first | refine gcI ?_ | refine fun (_ : _ ≤ _) => ?_)); refine hK _ ?_; clear hK K)
        refine hK12 _ ?_
        refine Sm.ret ?_
        try simp only [seval, Exit.exit.injEq]
        refine ⟨⟨_, (Option.some.inj H).symm⟩, fun hz => ?_⟩
        have hyy := Sum.inr.inj ((Option.some.inj H).trans hz)
        subst hyy
        have H := Ho4
        try dsimp only at H
        try simp only [seval, Exit.exit.injEq]
        obtain rfl := Option.some.inj H
        refine RetM.mk (.inr rfl) [] rfl ?_
        simp only [z, seval, slices_IndexFunc_f68_M2_t2]
      first | replace H := bif_f h11 H | replace H := bif_f2 h11 H (by simp only [List.length_append])
      refine Sm.skip ?_
      refine hK8 _ ?_
      refine Sm.regA h00 mixed hΓ (by kernel_rfl) ?_
      simp only [rs]
      repeat (refine opsG fun K hK => ?_; simp only [z, seval, slices_IndexFunc_f68_M2_t2]; (repeat (first | refine gcI ?_ | refine fun (_ : _ ≤ _) => ?_)); refine hK _ ?_; clear hK K)
      refine opsG0 ?_
      try simp only [seval, Exit.exit.injEq]
      refine ⟨_, (Option.some.inj H).symm, ?_⟩
      exact weak_b [] rfl rfl rfl (by simp only [wk, z, seval, slices_IndexFunc_f68_M2_t2]) (by simp only [wk, z, seval, slices_IndexFunc_f68_M2_t2])
    first | replace H := bif_f h7 H | replace H := bif_f2 h7 H (by simp only [List.length_append])
    refine Sm.exit ?_
    try simp only [seval, Exit.exit.injEq]
    refine ⟨⟨_, (Option.some.inj H).symm⟩, fun hz => ?_⟩
    have hyy := Sum.inr.inj ((Option.some.inj H).trans hz)
    subst hyy
    have H := Ho4
    try dsimp only at H
    try simp only [seval, Exit.exit.injEq]
    refine ⟨(), H, ?_⟩
    exact weak_b [] rfl rfl rfl (by simp only [wk, z, seval, slices_IndexFunc_f68_M2_t2]) (by simp only [wk, z, seval, slices_IndexFunc_f68_M2_t2])
  rintro ⟨⟩ H
  try dsimp only at H
  unfold slices_IndexFunc_f68_M2_k1 at H
  refine Sm.seqA h00 mixed hΓ (by kernel_rfl) fun K2 hK2 => ?_
  simp only [rs]
  repeat (refine opsG fun K hK => ?_; simp only [z, seval, slices_IndexFunc_f68_M2_s1]; (repeat (first | refine gcI ?_ | refine fun (_ : _ ≤ _) => ?_)); refine hK _ ?_; clear hK K)
  refine hK2 _ ?_
  refine Sm.ret ?_
  try simp only [seval, Exit.exit.injEq]
  obtain rfl := Option.some.inj H
  refine RetM.mk (.inr rfl) [] rfl ?_
  simp only [z, seval, slices_IndexFunc_f68_M2_s1]

def slices_ContainsFunc_f42_M2 (n : Nat) (s : List TLine) : Option Bool :=
  (slices_IndexFunc_f68_M2 n s).bind fun r1 =>
  some (decide (r1 ≥ 0))

theorem cslices_ContainsFunc_f42_M2 (n : Nat) (s : List TLine) (r : Bool) (H : slices_ContainsFunc_f42_M2 n s = some r) : CallsM Try.prog 42 [.dat (false, [.slice 48]) [.slice (List.map e_TLine s)], .ref (.fnv 44 [])] [] [.c .bool (.bool r)] [] := by
  have hΓ : ∀ g, g ∈ ([] : List Go.AE.Fn) → Contract Try.prog g := by simp
  refine callsM_of (Try.f42.body.getD .skip) h00 Try.func42 rfl (by intro args w; exact Try.call42 args w) (Nat.le_of_ble_eq_true rfl) (Nat.le_of_ble_eq_true rfl) ?_
  unfold slices_ContainsFunc_f42_M2 at H
  simp only [Try.f42, Option.getD]
  refine Sm.seqA h00 mixed hΓ (by kernel_rfl) fun K1 hK1 => ?_
  simp only [rs]
  repeat (refine opsG fun K hK => ?_; simp only [z, seval]; (repeat (first | refine gcI ?_ | refine fun (_ : _ ≤ _) => ?_)); refine hK _ ?_; clear hK K)
  refine hK1 _ ?_
  refine Sm.seqX h00 mixed hΓ (by kernel_rfl) fun K2 hK2 => ?_
  simp only [rs]
  obtain ⟨r1, hr1, H⟩ := bind_some H
  iterate 2 (refine opsX fun K hK => ?_; simp only [z, seval]; (repeat (first | refine gcI ?_ | refine fun (_ : _ ≤ _) => ?_)); refine hK _ ?_; clear hK K)
  refine opsM (cslices_IndexFunc_f68_M2 n _ r1 hr1) [] [] (by simp only [z, seval, hr1]; try rfl) (by simp only [z, seval, hr1]) (by simp only [z, seval, hr1]) (by simp only [z, seval, hr1]) (by simp only [z, seval, hr1]) rfl (by simp only [z, seval, hr1]) rfl ?_
  iterate 2 (refine opsX fun K hK => ?_; simp only [z, seval, hr1]; (repeat (first | refine gcI ?_ | refine fun (_ : _ ≤ _) => ?_)); refine hK _ ?_; clear hK K)
  refine hK2 _ ?_
  refine Sm.ret ?_
  try simp only [seval, Exit.exit.injEq]
  obtain rfl := Option.some.inj H
  refine RetM.mk (.inr rfl) [] rfl ?_
  simp only [z, seval]

def word_fits (n : Nat) (b : List Int) (at_ : Int) (n_ : Int) : Option Bool :=
  some (if (decide (at_ ≥ 0)) = true then (decide (at_ ≤ (IntKind.wrap .i64 ((b.length : Int) - n_)))) else false)

def xword_fits (n : Nat) : Go.AE.Fn := mkFn (A := (List Int) × Int × Int) (R := Bool) 87 [(false, [.slice 5]), (false, [.int .i64]), (false, [.int .i64])] false (fun xs => (((cg (xs.getD 0 []) 0).toSl.map d_Int), (cg (xs.getD 1 []) 0).toInt, (cg (xs.getD 2 []) 0).toInt)) (fun a => [[.slice (List.map e_Int a.1)], [.int a.2.1], [.int a.2.2]]) (fun a => word_fits n a.1 a.2.1 a.2.2) (fun r => [.c .bool (.bool r)]) (fun r => [])

theorem cword_fits (n : Nat) : Contract Try.prog (xword_fits n) := by
  have hΓ : ∀ g, g ∈ ([] : List Go.AE.Fn) → Contract Try.prog g := by simp
  refine contract_f (Try.f87.body.getD .skip) h00 Try.func87 rfl (by intro args w; exact Try.call87 args w) (by decide) (by intro _ r; exact ⟨rfl, by simp⟩) ?_
  rintro ⟨b, at_, n_⟩ r H
  try dsimp only at H
  unfold word_fits at H
  simp only [Try.f87, Option.getD]
  refine Sm.seqA h00 mixed hΓ (by kernel_rfl) fun K1 hK1 => ?_
  simp only [rs]
  repeat (refine opsG fun K hK => ?_; simp only [z, seval]; (repeat (first | refine gcI ?_ | refine fun (_ : _ ≤ _) => ?_)); refine hK _ ?_; clear hK K)
  refine hK1 _ ?_
  refine Sm.seqA h00 mixed hΓ (by kernel_rfl) fun K2 hK2 => ?_
  simp only [rs]
  repeat (refine opsG fun K hK => ?_; simp only [z, seval]; (repeat (first | refine gcI ?_ | refine fun (_ : _ ≤ _) => ?_)); refine hK _ ?_; clear hK K)
  refine hK2 _ ?_
  refine Sm.ret ?_
  try simp only [seval, Exit.exit.injEq]
  obtain rfl := Option.some.inj H
  refine Ret.ofR [] (.inr rfl) ?_
  simp only [z, seval]

def word_put (n : Nat) (b : List Int) (at_ : Int) (field : List Int) : Option ((List Int) × Bool) :=
  (word_fits n b at_ (field.length : Int)).bind fun r1 =>
  bif (!r1) then
    some ([], false)
  else
    gd (b.length ≤ 2147483648) <|
    gd ((0 ≤ at_ ∧ at_ ≤ (b.length : Int) ∧ (b.length : Int) ≤ (b.length : Int)) ∧ ((Int.toNat at_) + (Int.toNat ((b.length : Int) - at_))) ≤ b.length) <|
    some ((overL b (Int.toNat at_) (List.take (Int.toNat ((b.length : Int) - at_)) field)), true)

def xword_put (n : Nat) : Go.AE.Fn := mkFn (A := (List Int) × Int × (List Int)) (R := (List Int) × Bool) 81 [(false, [.slice 5]), (false, [.int .i64]), (false, [.slice 5])] false (fun xs => (((cg (xs.getD 0 []) 0).toSl.map d_Int), (cg (xs.getD 1 []) 0).toInt, ((cg (xs.getD 2 []) 0).toSl.map d_Int))) (fun a => [[.slice (List.map e_Int a.1)], [.int a.2.1], [.slice (List.map e_Int a.2.2)]]) (fun a => word_put n a.1 a.2.1 a.2.2) (fun r => [.own 0 [.int .u8] 0 r.1.length, .c .bool (.bool r.2)]) (fun r => [.row 5 (List.map e_Int r.1)])

theorem cword_put (n : Nat) : Contract Try.prog (xword_put n) := by
  have hΓ : ∀ g, g ∈ ([xword_fits n] : List Go.AE.Fn) → Contract Try.prog g := by
    intro g hg; simp only [List.mem_cons, List.not_mem_nil, or_false] at hg; subst hg; exact cword_fits n
  refine contract_f (Try.f81.body.getD .skip) h00 Try.func81 rfl (by intro args w; exact Try.call81 args w) (by decide) (by
    intro _ r; refine ⟨rfl, ?_⟩; simp only [List.mem_cons, List.not_mem_nil, or_false]; rintro _ rfl
    · exact ⟨5, _, _, rfl, ty5, rfl⟩) ?_
  rintro ⟨b, at_, field⟩ r H
  try dsimp only at H
  unfold word_put at H
  simp only [Try.f81, Option.getD]
  refine Sm.seqA h00 mixed hΓ (by kernel_rfl) fun K1 hK1 => ?_
  simp only [rs]
  repeat (refine opsG fun K hK => ?_; simp only [z, seval]; (repeat (first | refine gcI ?_ | refine fun (_ : _ ≤ _) => ?_)); refine hK _ ?_; clear hK K)
  refine hK1 _ ?_
  refine Sm.seqK fun K2 hK2 => ?_
  obtain ⟨r1, hr1, H⟩ := bind_some H
  refine Sm.seqA h00 mixed hΓ (by kernel_rfl) fun K3 hK3 => ?_
  simp only [rs]
  repeat (refine opsG fun K hK => ?_; simp only [z, seval, xword_fits, hr1]; (repeat (first | refine gcI ?_ | refine fun (_ : _ ≤ _) => ?_)); refine hK _ ?_; clear hK K)
  refine hK3 _ ?_
  refine Sm.condK (by rfl) fun Ka Kb ha hb => ?_
  simp only [wpCond, z, seval]
  refine ⟨fun h4 => ha ?_, fun h4 => hb ?_⟩
  · first | replace H := bif_t h4 H | replace H := bif_t2 h4 H (by simp only [List.length_append])
    refine Sm.seqA h00 mixed hΓ (by kernel_rfl) fun K5 hK5 => ?_
    simp only [rs]
    repeat (refine opsG fun K hK => ?_; simp only [z, seval]; (repeat (first | refine gcI ?_ | refine fun (_ : _ ≤ _) => ?_)); refine hK _ ?_; clear hK K)
    refine hK5 _ ?_
    refine Sm.ret ?_
    try simp only [seval, Exit.exit.injEq]
    obtain rfl := Option.some.inj H
    refine Ret.ofR [none] (.inr rfl) ?_
    simp only [z, seval]
    try omega
  first | replace H := bif_f h4 H | replace H := bif_f2 h4 H (by simp only [List.length_append])
  refine Sm.skip ?_
  refine hK2 _ ?_
  obtain ⟨hg11, H⟩ := gd_some H
  refine Sm.seqA h00 mixed hΓ (by kernel_rfl) fun K6 hK6 => ?_
  simp only [rs]
  repeat (refine opsG fun K hK => ?_; simp only [z, seval]; (repeat (first | refine gcI ?_ | refine fun (_ : _ ≤ _) => ?_)); refine hK _ ?_; clear hK K)
  refine hK6 _ ?_
  refine Sm.seqX h00 mixed hΓ (by kernel_rfl) fun K7 hK7 => ?_
  simp only [rs]
  obtain ⟨⟨hg8, hg9⟩, H⟩ := gd_some H
  iterate 4 (refine opsX fun K hK => ?_; simp only [z, seval]; (repeat (first | refine gcI ?_ | refine fun (_ : _ ≤ _) => ?_)); refine hK _ ?_; clear hK K)
  refine opsE stepV_ok fun K hK => ?_; simp only [z, seval]; (repeat (first | refine gcI ?_ | refine fun (_ : _ ≤ _) => ?_)); refine hK _ ?_; clear hK K
  refine hK7 _ ?_
  refine Sm.seqA h00 mixed hΓ (by kernel_rfl) fun K10 hK10 => ?_
  simp only [rs]
  repeat (refine opsG fun K hK => ?_; simp only [z, seval]; (repeat (first | refine gcI ?_ | refine fun (_ : _ ≤ _) => ?_)); refine hK _ ?_; clear hK K)
  refine hK10 _ ?_
  refine Sm.ret ?_
  try simp only [seval, Exit.exit.injEq]
  obtain rfl := Option.some.inj H
  refine Ret.ofR [some 256] (.inr rfl) ?_
  simp only [z, seval]
  try omega

def word_PutFull (n : Nat) (b : List Int) (at_ : Int) (v : Int) : Option ((List Int) × Bool) :=
  (word_put n b at_ [(IntKind.wrap .u8 ((Int.fdiv v (2 ^ min 24 (IntKind.bits .u32))))), (IntKind.wrap .u8 ((Int.fdiv v (2 ^ min 16 (IntKind.bits .u32))))), (IntKind.wrap .u8 ((Int.fdiv v (2 ^ min 8 (IntKind.bits .u32))))), (IntKind.wrap .u8 (v))]).bind fun r1 =>
  some (r1.1, r1.2)

def xword_PutFull (n : Nat) : Go.AE.Fn := mkFn (A := (List Int) × Int × Int) (R := (List Int) × Bool) 70 [(false, [.slice 5]), (false, [.int .i64]), (false, [.int .u32])] false (fun xs => (((cg (xs.getD 0 []) 0).toSl.map d_Int), (cg (xs.getD 1 []) 0).toInt, (cg (xs.getD 2 []) 0).toInt)) (fun a => [[.slice (List.map e_Int a.1)], [.int a.2.1], [.int a.2.2]]) (fun a => word_PutFull n a.1 a.2.1 a.2.2) (fun r => [.own 0 [.int .u8] 0 r.1.length, .c .bool (.bool r.2)]) (fun r => [.row 5 (List.map e_Int r.1)])

theorem cword_PutFull (n : Nat) : Contract Try.prog (xword_PutFull n) := by
  have hΓ : ∀ g, g ∈ ([xword_put n] : List Go.AE.Fn) → Contract Try.prog g := by
    intro g hg; simp only [List.mem_cons, List.not_mem_nil, or_false] at hg; subst hg; exact cword_put n
  refine contract_f (Try.f70.body.getD .skip) h00 Try.func70 rfl (by intro args w; exact Try.call70 args w) (by decide) (by
    intro _ r; refine ⟨rfl, ?_⟩; simp only [List.mem_cons, List.not_mem_nil, or_false]; rintro _ rfl
    · exact ⟨5, _, _, rfl, ty5, rfl⟩) ?_
  rintro ⟨b, at_, v⟩ r H
  try dsimp only at H
  unfold word_PutFull at H
  simp only [Try.f70, Option.getD]
  refine Sm.seqA h00 mixed hΓ (by kernel_rfl) fun K1 hK1 => ?_
  simp only [rs]
  repeat (refine opsG fun K hK => ?_; simp only [z, seval]; (repeat (first | refine gcI ?_ | refine fun (_ : _ ≤ _) => ?_)); refine hK _ ?_; clear hK K)
  refine hK1 _ ?_
  refine Sm.seqX h00 mixed hΓ (by kernel_rfl) fun K2 hK2 => ?_
  simp only [rs]
  obtain ⟨r1, hr1, H⟩ := bind_some H
  iterate 3 (refine opsX fun K hK => ?_; simp only [z, seval, xword_put]; (repeat (first | refine gcI ?_ | refine fun (_ : _ ≤ _) => ?_)); refine hK _ ?_; clear hK K)
  refine opsE stepV_ok fun K hK => ?_; simp only [z, seval, xword_put]; (repeat (first | refine gcI ?_ | refine fun (_ : _ ≤ _) => ?_)); refine hK _ ?_; clear hK K
  iterate 2 (refine opsX fun K hK => ?_; simp only [z, seval, xword_put]; (repeat (first | refine gcI ?_ | refine fun (_ : _ ≤ _) => ?_)); refine hK _ ?_; clear hK K)
  refine opsE stepV_ok fun K hK => ?_; simp only [z, seval, xword_put]; (repeat (first | refine gcI ?_ | refine fun (_ : _ ≤ _) => ?_)); refine hK _ ?_; clear hK K
  iterate 2 (refine opsX fun K hK => ?_; simp only [z, seval, xword_put]; (repeat (first | refine gcI ?_ | refine fun (_ : _ ≤ _) => ?_)); refine hK _ ?_; clear hK K)
  refine opsE stepV_ok fun K hK => ?_; simp only [z, seval, xword_put]; (repeat (first | refine gcI ?_ | refine fun (_ : _ ≤ _) => ?_)); refine hK _ ?_; clear hK K
  iterate 4 (refine opsX fun K hK => ?_; simp only [z, seval, xword_put]; (repeat (first | refine gcI ?_ | refine fun (_ : _ ≤ _) => ?_)); refine hK _ ?_; clear hK K)
  iterate 5 (refine opsX fun K hK => ?_; simp only [z, seval, xword_put, hr1]; (repeat (first | refine gcI ?_ | refine fun (_ : _ ≤ _) => ?_)); refine hK _ ?_; clear hK K)
  refine hK2 _ ?_
  refine Sm.ret ?_
  try simp only [seval, Exit.exit.injEq]
  obtain rfl := Option.some.inj H
  refine Ret.ofR [some 352] (.inr rfl) ?_
  simp only [z, seval]
  try omega

def spool_index (n : Nat) (n_ : Int) : Option (List Int) :=
  gd ((0 ≤ 4 ∧ 4 ≤ 4 ∧ 4 ≤ 2147483648)) <|
  (word_PutFull n (zreps 4 0) 0 (IntKind.wrap .u32 (n_))).bind fun r1 =>
  some r1.1

def xspool_index (n : Nat) : Go.AE.Fn := mkFn (A := Int) (R := (List Int)) 47 [(false, [.int .i64])] false (fun xs => (cg (xs.getD 0 []) 0).toInt) (fun a => [[.int a]]) (fun a => spool_index n a) (fun r => [.own 0 [.int .u8] 0 r.length]) (fun r => [.row 5 (List.map e_Int r)])

theorem cspool_index (n : Nat) : Contract Try.prog (xspool_index n) := by
  have hΓ : ∀ g, g ∈ ([xword_PutFull n] : List Go.AE.Fn) → Contract Try.prog g := by
    intro g hg; simp only [List.mem_cons, List.not_mem_nil, or_false] at hg; subst hg; exact cword_PutFull n
  refine contract_f (Try.f47.body.getD .skip) h00 Try.func47 rfl (by intro args w; exact Try.call47 args w) (by decide) (by
    intro _ r; refine ⟨rfl, ?_⟩; simp only [List.mem_cons, List.not_mem_nil, or_false]; rintro _ rfl
    · exact ⟨5, _, _, rfl, ty5, rfl⟩) ?_
  rintro n_ r H
  try dsimp only at H
  unfold spool_index at H
  simp only [Try.f47, Option.getD]
  refine Sm.seqA h00 mixed hΓ (by kernel_rfl) fun K1 hK1 => ?_
  simp only [rs]
  repeat (refine opsG fun K hK => ?_; simp only [z, seval]; (repeat (first | refine gcI ?_ | refine fun (_ : _ ≤ _) => ?_)); refine hK _ ?_; clear hK K)
  refine hK1 _ ?_
  refine Sm.seqX h00 mixed hΓ (by kernel_rfl) fun K2 hK2 => ?_
  simp only [rs]
  obtain ⟨hg3, H⟩ := gd_some H
  obtain ⟨r1, hr1, H⟩ := bind_some H
  refine opsY fun K hK => ?_; simp only [z, seval, xword_PutFull]; (repeat (first | refine gcI ?_ | refine fun (_ : _ ≤ _) => ?_)); refine hK _ ?_; clear hK K
  iterate 2 (refine opsX fun K hK => ?_; simp only [z, seval, xword_PutFull]; (repeat (first | refine gcI ?_ | refine fun (_ : _ ≤ _) => ?_)); refine hK _ ?_; clear hK K)
  iterate 6 (refine opsX fun K hK => ?_; simp only [z, seval, xword_PutFull, hr1]; (repeat (first | refine gcI ?_ | refine fun (_ : _ ≤ _) => ?_)); refine hK _ ?_; clear hK K)
  refine hK2 _ ?_
  refine Sm.seqA h00 mixed hΓ (by kernel_rfl) fun K4 hK4 => ?_
  simp only [rs]
  repeat (refine opsG fun K hK => ?_; simp only [z, seval]; (repeat (first | refine gcI ?_ | refine fun (_ : _ ≤ _) => ?_)); refine hK _ ?_; clear hK K)
  refine hK4 _ ?_
  refine Sm.ret ?_
  try simp only [seval, Exit.exit.injEq]
  obtain rfl := Option.some.inj H
  refine Ret.ofR [some 144] (.inr rfl) ?_
  simp only [z, seval]
  try omega

def slices_Clone_f50_M1 (n : Nat) (s : List TRec) (s_o : Nat) (s_l : Nat) : Option (List TRec) :=
  uniB (List.take s_l (List.drop s_o s)) fun nb1 =>
  bif nb1 then
    some []
  else
    gd ((List.take s_l (List.drop s_o s)).length ≤ 2147483648) <|
    some (List.take s_l (List.drop s_o s))

theorem cslices_Clone_f50_M1 (n : Nat) (s : List TRec) (s_o : Nat) (s_l : Nat) (r : (List TRec)) (H : slices_Clone_f50_M1 n s s_o s_l = some r) : CallsM Try.prog 50 [.ref (.own 0 [.int .i64, .slice 5, .slice 5, .bool] s_o s_l)] [.row 59 (List.map e_TRec s)] [.own 1 [.int .i64, .slice 5, .slice 5, .bool] 0 r.length] [.row 59 (List.map e_TRec s), .row 59 (List.map e_TRec r)] := by
  have hΓ : ∀ g, g ∈ ([] : List Go.AE.Fn) → Contract Try.prog g := by simp
  refine callsM_of (Try.f50.body.getD .skip) h00 Try.func50 rfl (by intro args w; exact Try.call50 args w) (Nat.le_of_ble_eq_true rfl) (Nat.le_of_ble_eq_true rfl) ?_
  unfold slices_Clone_f50_M1 at H
  simp only [Try.f50, Option.getD]
  refine Sm.seqA h00 mixed hΓ (by kernel_rfl) fun K1 hK1 => ?_
  simp only [rs]
  repeat (refine opsG fun K hK => ?_; simp only [z, seval]; (repeat (first | refine gcI ?_ | refine fun (_ : _ ≤ _) => ?_)); refine hK _ ?_; clear hK K)
  refine hK1 _ ?_
  refine Sm.seqK fun K2 hK2 => ?_
  refine Sm.seqX h00 mixed hΓ (by kernel_rfl) fun K3 hK3 => ?_
  simp only [rs]
  (refine opsX fun K hK => ?_; simp only [z, seval]; (repeat (first | refine gcI ?_ | refine fun (_ : _ ≤ _) => ?_)); refine hK _ ?_; clear hK K)
  refine opsN fun K hK => ?_; simp only [z, seval]; (repeat (first | refine gcI ?_ | refine fun (_ : _ ≤ _) => ?_)); intro nb1 hnb1; refine hK _ ?_; clear hK K
  replace H := uniB_some H nb1 (fun hb => by simpa using hnb1 hb)
  refine hK3 _ ?_
  refine Sm.condK (by rfl) fun Ka Kb ha hb => ?_
  simp only [wpCond, z, seval]
  refine ⟨fun h4 => ha ?_, fun h4 => hb ?_⟩
  · first | replace H := bif_t h4 H | replace H := bif_t2 h4 H (by simp only [List.length_append])
    refine Sm.seqA h00 mixed hΓ (by kernel_rfl) fun K5 hK5 => ?_
    simp only [rs]
    repeat (refine opsG fun K hK => ?_; simp only [z, seval]; (repeat (first | refine gcI ?_ | refine fun (_ : _ ≤ _) => ?_)); refine hK _ ?_; clear hK K)
    refine hK5 _ ?_
    refine Sm.ret ?_
    try simp only [seval, Exit.exit.injEq]
    obtain rfl := Option.some.inj H
    refine RetM.mk (.inr rfl) [some 0, none] rfl ?_
    simp only [z, seval]
  first | replace H := bif_f h4 H | replace H := bif_f2 h4 H (by simp only [List.length_append])
  refine Sm.skip ?_
  refine hK2 _ ?_
  obtain ⟨hg7, H⟩ := gd_some H
  refine Sm.seqA h00 mixed hΓ (by kernel_rfl) fun K6 hK6 => ?_
  simp only [rs]
  repeat (refine opsG fun K hK => ?_; simp only [z, seval]; (repeat (first | refine gcI ?_ | refine fun (_ : _ ≤ _) => ?_)); refine hK _ ?_; clear hK K)
  refine hK6 _ ?_
  refine Sm.ret ?_
  try simp only [seval, Exit.exit.injEq]
  obtain rfl := Option.some.inj H
  refine RetM.mk (.inr rfl) [some 0, some 112] rfl ?_
  simp only [z, seval]

abbrev spool_Tracks_s2 (out : List (List TRec)) : S := stB [(10, .box 9002 0)] [(9002, .box [.own 9003 [.slice 59] 0 out.length]), (9003, .row 57 (List.map e_LTRec out))]

def spool_Tracks_k2 (n : Nat) (out : List (List TRec)) : Option ((List (List TRec)) × Int) :=
  some (out, 0)

abbrev spool_Tracks_t3 (out_1 : List (List TRec)) (v55 : List TRec) : S := stB [(10, .box 0 0), (55, .fnv 71 [.box 1 0, .box 2 0, .box 3 0])] [(0, .box [.own 9007 [.slice 59] 0 out_1.length]), (9007, .row 57 (List.map e_LTRec out_1)), (1, .box [.own 9008 [.int .i64, .slice 5, .slice 5, .bool] 0 v55.length]), (9008, .row 59 (List.map e_TRec v55)), (2, .box [.c (.int .i64) (.int 2048)]), (3, .box [.fnv 49 []])]

abbrev spool_Tracks_u3 (out_1 : List (List TRec)) (v55 : List TRec) : S := stB [] [(0, .box [.own 9007 [.slice 59] 0 out_1.length]), (9007, .row 57 (List.map e_LTRec out_1)), (1, .box [.own 9008 [.int .i64, .slice 5, .slice 5, .bool] 0 v55.length]), (9008, .row 59 (List.map e_TRec v55)), (2, .box [.c (.int .i64) (.int 2048)]), (3, .box [.fnv 49 []])]

abbrev spool_Tracks_a3 (out_1 : List (List TRec)) (v55 : List TRec) (t : Nat) (t_1 : Nat) : S := stB [(10, .box 0 0), (12, .own 9010 [.int .i64, .slice 5, .slice 5, .bool] t t_1)] [(0, .box [.own 9009 [.slice 59] 0 out_1.length]), (9009, .row 57 (List.map e_LTRec out_1)), (1, .box [.own 9010 [.int .i64, .slice 5, .slice 5, .bool] 0 v55.length]), (9010, .row 59 (List.map e_TRec v55)), (2, .box [.c (.int .i64) (.int 2048)]), (3, .box [.fnv 49 []])]

abbrev spool_Tracks_s4 (out_1 : List (List TRec)) (b1 : List TRec) (t_2 : Nat) (t_3 : Nat) : S := stB [(10, .box 0 0), (12, .own 9012 [.int .i64, .slice 5, .slice 5, .bool] t_2 t_3)] [(0, .box [.own 9011 [.slice 59] 0 out_1.length]), (9011, .row 57 (List.map e_LTRec out_1)), (1, .box [.own 9012 [.int .i64, .slice 5, .slice 5, .bool] 0 b1.length]), (9012, .row 59 (List.map e_TRec b1)), (2, .box [.c (.int .i64) (.int 2048)]), (3, .box [.fnv 49 []])]

def spool_Tracks_k4 (n : Nat) (out_1 : List (List TRec)) (b1 : List TRec) (t_2 : Nat) (t_3 : Nat) : Option ((List (List TRec)) × (List TRec)) :=
  (slices_Clone_f50_M1 n b1 t_2 t_3).bind fun r3 =>
  gd ((out_1.length + 1) ≤ 2147483648) <|
  some ((out_1 ++ [r3]), b1)

abbrev spool_Tracks_t5 (out_1 : List (List TRec)) (t_4 : Nat) (t_5 : Nat) (v59 : Int) (b1_1 : List TRec) (v60 : Int) : S := stB [(10, .box 0 0), (12, .own 9016 [.int .i64, .slice 5, .slice 5, .bool] t_4 t_5), (59, .c (.int .i64) (.int v59)), (60, .c (.int .i64) (.int v60))] [(0, .box [.own 9015 [.slice 59] 0 out_1.length]), (9015, .row 57 (List.map e_LTRec out_1)), (1, .box [.own 9016 [.int .i64, .slice 5, .slice 5, .bool] 0 b1_1.length]), (9016, .row 59 (List.map e_TRec b1_1)), (2, .box [.c (.int .i64) (.int 2048)]), (3, .box [.fnv 49 []])]

def spool_Tracks_b5 (n : Nat) (out_1 : List (List TRec)) (t_4 : Nat) (t_5 : Nat) (v59 : Int) (b1_1 : List TRec) (v60 : Int) : Option (((List TRec) × Int) ⊕ (((List TRec)))) :=
  bif (decide (v60 < v59)) then
    gd ((0 ≤ v60 ∧ v60 < (t_5 : Int)) ∧ (t_4 + (Int.toNat v60)) < b1_1.length) <|
    some (.inl ((List.set b1_1 (t_4 + (Int.toNat v60)) (⟨(IntKind.wrap .i64 (v60 + 1)), (gt b1_1 (t_4 + (Int.toNat v60))).Key, (gt b1_1 (t_4 + (Int.toNat v60))).Data, (gt b1_1 (t_4 + (Int.toNat v60))).Bad⟩ : TRec)), (IntKind.wrap .i64 (v60 + 1))))
  else
    some (.inr b1_1)

def spool_Tracks_b3 (n : Nat) (out_1 : List (List TRec)) (v55 : List TRec) (t : Nat) (t_1 : Nat) : Option ((List (List TRec)) × (List TRec)) :=
  (loopF (fun (x : (List TRec) × Int) => spool_Tracks_b5 n out_1 t t_1 ((t_1 : Nat) : Int) x.1 x.2) n (v55, 0)).bind fun y21 =>
  spool_Tracks_k4 n out_1 y21 t t_1

abbrev spool_Tracks_s1 (records : List TRec) : S := stB [(4, .box 9000 0)] [(9000, .box [.own 9001 [.int .i64, .slice 5, .slice 5, .bool] 0 records.length]), (9001, .row 59 (List.map e_TRec records))]

def spool_Tracks_k1 (n : Nat) (records : List TRec) : Option ((List (List TRec)) × Int) :=
  gd (List.map szRec records = (List.map szRec records)) <|
  (rangeL (fun (x : (List (List TRec)) × (List TRec)) (e : Nat × Nat) => (spool_Tracks_b3 n x.1 x.2 e.1 (e.2 - e.1)).bind fun x2 => gd (List.map szRec x2.2 = (List.map szRec records)) (some x2)) ([], records) (divP (List.map szRec records) 2048)).bind fun y18 =>
  spool_Tracks_k2 n y18.1

abbrev spool_Tracks_t6 (l : List TLine) (records_1 : List TRec) : S := stB [(4, .box 0 0), (24, .fnv 69 [.box 1 0, .box 2 0, .box 3 0])] [(0, .box [.own 9018 [.int .i64, .slice 5, .slice 5, .bool] 0 records_1.length]), (9018, .row 59 (List.map e_TRec records_1)), (1, .box [.c (.slice 48) (.slice (List.map e_TLine l))]), (2, .box [.c (.int .i64) (.int 1020)]), (3, .box [.fnv 46 []])]

abbrev spool_Tracks_u6 (l : List TLine) (records_1 : List TRec) : S := stB [] [(0, .box [.own 9018 [.int .i64, .slice 5, .slice 5, .bool] 0 records_1.length]), (9018, .row 59 (List.map e_TRec records_1)), (1, .box [.c (.slice 48) (.slice (List.map e_TLine l))]), (2, .box [.c (.int .i64) (.int 1020)]), (3, .box [.fnv 46 []])]

abbrev spool_Tracks_a6 (records_1 : List TRec) (l : List TLine) (at_ : Int) (group : List TLine) : S := stB [(4, .box 0 0), (5, .c (.int .i64) (.int at_)), (6, .c (.slice 48) (.slice (List.map e_TLine group)))] [(0, .box [.own 9019 [.int .i64, .slice 5, .slice 5, .bool] 0 records_1.length]), (9019, .row 59 (List.map e_TRec records_1)), (1, .box [.c (.slice 48) (.slice (List.map e_TLine l))]), (2, .box [.c (.int .i64) (.int 1020)]), (3, .box [.fnv 46 []])]

abbrev spool_Tracks_s7 (records_1 : List TRec) (l : List TLine) (b : List Int) : S := stB [(4, .box 0 0), (7, .own 9021 [.int .u8] 0 b.length)] [(0, .box [.own 9020 [.int .i64, .slice 5, .slice 5, .bool] 0 records_1.length]), (9020, .row 59 (List.map e_TRec records_1)), (1, .box [.c (.slice 48) (.slice (List.map e_TLine l))]), (2, .box [.c (.int .i64) (.int 1020)]), (3, .box [.fnv 46 []]), (9021, .row 5 (List.map e_Int b))]

def spool_Tracks_k7 (n : Nat) (records_1 : List TRec) (l : List TLine) (b : List Int) : Option (List TRec) :=
  gd ((records_1.length + 1) ≤ 2147483648) <|
  some (records_1 ++ [(⟨0, [], b, false⟩ : TRec)])

abbrev spool_Tracks_t8 (records_1 : List TRec) (l : List TLine) (group : List TLine) (v30 : Int) (b_1 : List Int) (v31 : Int) : S := stB [(4, .box 0 0), (7, .own 9025 [.int .u8] 0 b_1.length), (29, .c (.slice 48) (.slice (List.map e_TLine group))), (30, .c (.int .i64) (.int v30)), (31, .c (.int .i64) (.int v31))] [(0, .box [.own 9024 [.int .i64, .slice 5, .slice 5, .bool] 0 records_1.length]), (9024, .row 59 (List.map e_TRec records_1)), (1, .box [.c (.slice 48) (.slice (List.map e_TLine l))]), (2, .box [.c (.int .i64) (.int 1020)]), (3, .box [.fnv 46 []]), (9025, .row 5 (List.map e_Int b_1))]

def spool_Tracks_b8 (n : Nat) (records_1 : List TRec) (l : List TLine) (group : List TLine) (v30 : Int) (b_1 : List Int) (v31 : Int) : Option (((List Int) × Int) ⊕ (((List Int)))) :=
  bif (decide (v31 < v30)) then
    gd ((0 ≤ v31 ∧ v31 < (group.length : Int))) <|
    gd ((b_1.length + 2) ≤ 2147483648 ∧ ((b_1.length + 2) + ((gt group (Int.toNat v31)).Text).length) ≤ 2147483648) <|
    some (.inl (((b_1 ++ [(IntKind.wrap .u8 ((gt group (Int.toNat v31)).Ctl)), (IntKind.wrap .u8 ((((gt group (Int.toNat v31)).Text).length : Int)))]) ++ (fromStr8 ((gt group (Int.toNat v31)).Text))), (IntKind.wrap .i64 (v31 + 1))))
  else
    some (.inr b_1)

def spool_Tracks_b6 (n : Nat) (records_1 : List TRec) (l : List TLine) (at_ : Int) (group : List TLine) : Option (List TRec) :=
  (spool_index n at_).bind fun r4 =>
  (loopF (fun (x : (List Int) × Int) => spool_Tracks_b8 n records_1 l group (group.length : Int) x.1 x.2) n (r4, 0)).bind fun y35 =>
  spool_Tracks_k7 n records_1 l y35

def spool_Tracks (n : Nat) (l : List TLine) : Option ((List (List TRec)) × Int) :=
  bif (decide ((l.length : Int) > 4096)) then
    some ([], 2)
  else
    gd ((!(decide ((l.length : Int) > 4096))) = true) <|
    (slices_ContainsFunc_f42_M1 n l).bind fun r1 =>
    bif r1 then
      some ([], 2)
    else
      (slices_ContainsFunc_f42_M2 n l).bind fun r2 =>
      bif r2 then
        some ([], 1)
      else
        (rangeL (fun (x : (List TRec)) (e_ : Nat × Nat) => spool_Tracks_b6 n x l (e_.1 : Int) (List.take (e_.2 - e_.1) (List.drop e_.1 l))) [] (divP (List.map szLine l) 1020)).bind fun y30 =>
        spool_Tracks_k1 n y30

def xspool_Tracks (n : Nat) : Go.AE.Fn := mkFn (A := (List TLine)) (R := (List (List TRec)) × Int) 21 [(false, [.slice 48])] true (fun xs => ((cg (xs.getD 0 []) 0).toSl.map d_TLine)) (fun a => [[.slice (List.map e_TLine a)]]) (fun a => spool_Tracks n a) (fun r => [.own 0 [.slice 59] 0 r.1.length, .c (.int .i64) (.int r.2)]) (fun r => [.row 57 (List.map e_LTRec r.1)])

theorem cspool_Tracks (n : Nat) : Contract Try.prog (xspool_Tracks n) := by
  have hΓ : ∀ g, g ∈ ([xspool_index n] : List Go.AE.Fn) → Contract Try.prog g := by
    intro g hg; simp only [List.mem_cons, List.not_mem_nil, or_false] at hg; subst hg; exact cspool_index n
  refine contract_f (Try.f21.body.getD .skip) h00 Try.func21 rfl (by intro args w; exact Try.call21 args w) (by decide) (by intro h; cases h) ?_
  rintro l r H
  try dsimp only at H
  unfold spool_Tracks at H
  simp only [Try.f21, Option.getD]
  refine Sm.seqA h00 mixed hΓ (by kernel_rfl) fun K1 hK1 => ?_
  simp only [rs]
  repeat (refine opsG fun K hK => ?_; simp only [z, seval]; (repeat (first | refine gcI ?_ | refine fun (_ : _ ≤ _) => ?_)); refine hK _ ?_; clear hK K)
  refine hK1 _ ?_
  refine Sm.seqK fun K2 hK2 => ?_
  refine Sm.seqX h00 mixed hΓ (by kernel_rfl) fun K3 hK3 => ?_
  simp only [rs]
  iterate 5 (refine opsX fun K hK => ?_; simp only [z, seval]; (repeat (first | refine gcI ?_ | refine fun (_ : _ ≤ _) => ?_)); refine hK _ ?_; clear hK K)
  refine bif_cases H (fun hs4 H => ?_) (fun hs4 H => ?_)
  · refine opsF rfl (by simp only [z, seval, hs4]) ?_
    refine opsP fun K hK => ?_; simp only [z, seval, hs4]; (repeat (first | refine gcI ?_ | refine fun (_ : _ ≤ _) => ?_)); refine Or.inl ?_; (repeat (first | refine gcI ?_ | refine fun (_ : _ ≤ _) => ?_)); refine hK _ ?_; clear hK K
    refine hK3 _ ?_
    refine Sm.condK (by rfl) fun Ka Kb ha hb => ?_
    simp only [wpCond, z, seval]
    refine ha ?_
    refine Sm.seqA h00 mixed hΓ (by kernel_rfl) fun K6 hK6 => ?_
    simp only [rs]
    repeat (refine opsG fun K hK => ?_; simp only [z, seval]; (repeat (first | refine gcI ?_ | refine fun (_ : _ ≤ _) => ?_)); refine hK _ ?_; clear hK K)
    refine hK6 _ ?_
    refine Sm.ret ?_
    try simp only [seval, Exit.exit.injEq]
    obtain rfl := Option.some.inj H
    refine Ret.ofR [none] (.inr rfl) ?_
    simp only [z, seval]
    try omega
  obtain ⟨hg7, H⟩ := gd_some H
  obtain ⟨r1, hr1, H⟩ := bind_some H
  refine opsTM (cslices_ContainsFunc_f42_M1 n _ r1 hr1) [] [] (by simp only [z, seval, hs4, hr1]) (by simp only [z, seval, hs4, hr1]; try rfl) (by simp only [z, seval, hs4, hr1]) (by simp only [z, seval, hs4, hr1]) (by simp only [z, seval, hs4, hr1]) (by simp only [z, seval, hs4, hr1]) rfl (by simp only [z, seval, hs4, hr1]) rfl ?_
  refine opsP fun K hK => ?_; simp only [z, seval, hs4, hr1]; (repeat (first | refine gcI ?_ | refine fun (_ : _ ≤ _) => ?_)); refine Or.inr ?_; (repeat (first | refine gcI ?_ | refine fun (_ : _ ≤ _) => ?_)); refine hK _ ?_; clear hK K
  refine hK3 _ ?_
  refine Sm.condK (by rfl) fun Ka Kb ha hb => ?_
  simp only [wpCond, z, seval]
  refine ⟨fun h8 => ha ?_, fun h8 => hb ?_⟩
  · first | replace H := bif_t h8 H | replace H := bif_t2 h8 H (by simp only [List.length_append])
    refine Sm.seqA h00 mixed hΓ (by kernel_rfl) fun K9 hK9 => ?_
    simp only [rs]
    repeat (refine opsG fun K hK => ?_; simp only [z, seval]; (repeat (first | refine gcI ?_ | refine fun (_ : _ ≤ _) => ?_)); refine hK _ ?_; clear hK K)
    refine hK9 _ ?_
    refine Sm.ret ?_
    try simp only [seval, Exit.exit.injEq]
    obtain rfl := Option.some.inj H
    refine Ret.ofR [none] (.inr rfl) ?_
    simp only [z, seval]
    try omega
  first | replace H := bif_f h8 H | replace H := bif_f2 h8 H (by simp only [List.length_append])
  refine Sm.skip ?_
  refine hK2 _ ?_
  refine Sm.seqK fun K10 hK10 => ?_
  refine Sm.seqX h00 mixed hΓ (by kernel_rfl) fun K11 hK11 => ?_
  simp only [rs]
  obtain ⟨r2, hr2, H⟩ := bind_some H
  (refine opsX fun K hK => ?_; simp only [z, seval]; (repeat (first | refine gcI ?_ | refine fun (_ : _ ≤ _) => ?_)); refine hK _ ?_; clear hK K)
  refine opsM (cslices_ContainsFunc_f42_M2 n _ r2 hr2) [] [] (by simp only [z, seval, hr2]; try rfl) (by simp only [z, seval, hr2]) (by simp only [z, seval, hr2]) (by simp only [z, seval, hr2]) (by simp only [z, seval, hr2]) rfl (by simp only [z, seval, hr2]) rfl ?_
  refine hK11 _ ?_
  refine Sm.condK (by rfl) fun Ka Kb ha hb => ?_
  simp only [wpCond, z, seval]
  refine ⟨fun h12 => ha ?_, fun h12 => hb ?_⟩
  · first | replace H := bif_t h12 H | replace H := bif_t2 h12 H (by simp only [List.length_append])
    refine Sm.seqA h00 mixed hΓ (by kernel_rfl) fun K13 hK13 => ?_
    simp only [rs]
    repeat (refine opsG fun K hK => ?_; simp only [z, seval]; (repeat (first | refine gcI ?_ | refine fun (_ : _ ≤ _) => ?_)); refine hK _ ?_; clear hK K)
    refine hK13 _ ?_
    refine Sm.ret ?_
    try simp only [seval, Exit.exit.injEq]
    obtain rfl := Option.some.inj H
    refine Ret.ofR [none] (.inr rfl) ?_
    simp only [z, seval]
    try omega
  first | replace H := bif_f h12 H | replace H := bif_f2 h12 H (by simp only [List.length_append])
  refine Sm.skip ?_
  refine hK10 _ ?_
  refine Sm.seqA h00 mixed hΓ (by kernel_rfl) fun K14 hK14 => ?_
  simp only [rs]
  repeat (refine opsG fun K hK => ?_; simp only [z, seval]; (repeat (first | refine gcI ?_ | refine fun (_ : _ ≤ _) => ?_)); refine hK _ ?_; clear hK K)
  refine hK14 _ ?_
  refine Sm.cut (fun (x : (List TRec)) => spool_Tracks_s1 x) (fun x => spool_Tracks_k1 n x = some r) ?_ ?_
  · refine Sm.seqX h00 mixed hΓ (by kernel_rfl) fun K29 hK29 => ?_
    simp only [rs]
    (refine opsX fun K hK => ?_; simp only [z, seval]; (repeat (first | refine gcI ?_ | refine fun (_ : _ ≤ _) => ?_)); refine hK _ ?_; clear hK K)
    refine opsE (stepC_ok maker45) fun K hK => ?_; simp only [z, seval]; (repeat (first | refine gcI ?_ | refine fun (_ : _ ≤ _) => ?_)); refine hK _ ?_; clear hK K
    refine hK29 _ ?_
    refine Sm.block ?_
    obtain ⟨y30, hy30, H⟩ := bind_some H
    refine Sm.rangeL 4 (fun (x : (List TRec)) => spool_Tracks_t6 l x) (fun (x : (List TRec)) => spool_Tracks_u6 l x) (fun (x : (List TRec)) (e_ : Nat × Nat) => spool_Tracks_a6 x l (e_.1 : Int) (List.take (e_.2 - e_.1) (List.drop e_.1 l))) (fun (x : (List TRec)) (e_ : Nat × Nat) => spool_Tracks_b6 n x l (e_.1 : Int) (List.take (e_.2 - e_.1) (List.drop e_.1 l))) [] (divP (List.map szLine l) 1020) (fun (e_ : Nat × Nat) => [.c (.int .i64) (.int (e_.1 : Int)), .c (.slice 48) (.slice (List.map e_TLine (List.take (e_.2 - e_.1) (List.drop e_.1 l))))]) (res := y30) hy30 ?_ (by decide) (fun x => ⟨rfl, rfl, rfl⟩) (low_stB (by rfl)) rfl rfl (iter69 1 2 3 l 1020) (fun (x : (List TRec)) => True) trivial ?_ (fun _ => rfl) (by decide) (fun _ => noMap_stB rfl) (fun _ _ => noMap_stB rfl) ?_ ?_ ?_
    · exact weak_b [some 64, none, some 384, some 385, some 386] rfl rfl rfl (by simp only [wk, z, seval]) (by simp only [wk, z, seval])
    · rintro records_1 hox
      refine ⟨?_, ?_, ?_⟩ <;> simp only [z, seval, spool_Tracks_t6]
    · rintro records_1 e_ x2 hox H
      clear H
      refine Sm.seqA h00 mixed hΓ (by kernel_rfl) fun K31 hK31 => ?_
      simp only [rs]
      repeat (refine opsG fun K hK => ?_; simp only [z, seval, spool_Tracks_t6]; (repeat (first | refine gcI ?_ | refine fun (_ : _ ≤ _) => ?_)); refine hK _ ?_; clear hK K)
      refine hK31 _ ?_
      refine Sm.regA h00 mixed hΓ (by kernel_rfl) ?_
      simp only [rs]
      repeat (refine opsG fun K hK => ?_; simp only [z, seval, spool_Tracks_t6]; (repeat (first | refine gcI ?_ | refine fun (_ : _ ≤ _) => ?_)); refine hK _ ?_; clear hK K)
      refine opsG0 ?_
      refine ⟨by first | rfl | trivial, ?_⟩
      exact weak_b [some 0, some 9018, some 1, some 2, some 3] rfl rfl rfl (by simp only [wk, z, seval, spool_Tracks_t6]) (by simp only [wk, z, seval, spool_Tracks_t6])
    · rintro records_1 e_ x2 hox H
      try dsimp only at H
      unfold spool_Tracks_b6 at H
      refine Sm.block ?_
      obtain ⟨r4, hr4, H⟩ := bind_some H
      refine Sm.seqA h00 mixed hΓ (by kernel_rfl) fun K32 hK32 => ?_
      simp only [rs]
      repeat (refine opsG fun K hK => ?_; simp only [z, seval, spool_Tracks_a6, xspool_index, hr4]; (repeat (first | refine gcI ?_ | refine fun (_ : _ ≤ _) => ?_)); refine hK _ ?_; clear hK K)
      refine hK32 _ ?_
      refine Sm.cut (fun (x : (List Int)) => spool_Tracks_s7 records_1 l x) (fun x => spool_Tracks_k7 n records_1 l x = some x2) ?_ ?_
      · refine Sm.seqA h00 mixed hΓ (by kernel_rfl) fun K34 hK34 => ?_
        simp only [rs]
        repeat (refine opsG fun K hK => ?_; simp only [z, seval, spool_Tracks_a6]; (repeat (first | refine gcI ?_ | refine fun (_ : _ ≤ _) => ?_)); refine hK _ ?_; clear hK K)
        refine hK34 _ ?_
        refine Sm.block ?_
        obtain ⟨y35, hy35, Ho35⟩ := bind_some H
        refine Sm.loopB (fun (x : (List Int) × Int) => spool_Tracks_b8 n records_1 l (List.take (e_.2 - e_.1) (List.drop e_.1 l)) ((List.take (e_.2 - e_.1) (List.drop e_.1 l)).length : Int) x.1 x.2) (fun x => spool_Tracks_t8 records_1 l (List.take (e_.2 - e_.1) (List.drop e_.1 l)) ((List.take (e_.2 - e_.1) (List.drop e_.1 l)).length : Int) x.1 x.2) hy35 ?_ ?_
        · exact weak_b [some 0, some 9019, some 1, some 2, some 3, some 448] rfl rfl rfl (by simp only [wk, z, seval, spool_Tracks_a6]) (by simp only [wk, z, seval, spool_Tracks_a6])
        rintro ⟨b_1, v31⟩ z35 H
        try dsimp only at H
        unfold spool_Tracks_b8 at H
        refine Sm.seqA h00 mixed hΓ (by kernel_rfl) fun K36 hK36 => ?_
        simp only [rs]
        repeat (refine opsG fun K hK => ?_; simp only [z, seval, spool_Tracks_t8]; (repeat (first | refine gcI ?_ | refine fun (_ : _ ≤ _) => ?_)); refine hK _ ?_; clear hK K)
        refine hK36 _ ?_
        refine Sm.seqK fun K37 hK37 => ?_
        refine Sm.condK (by rfl) fun Ka Kb ha hb => ?_
        simp only [wpCond, z, seval, spool_Tracks_t8]
        refine ⟨fun h38 => ha ?_, fun h38 => hb ?_⟩
        · first | replace H := bif_t h38 H | replace H := bif_t2 h38 H (by simp only [List.length_append])
          refine Sm.skip ?_
          refine hK37 _ ?_
          refine Sm.seqK fun K39 hK39 => ?_
          refine Sm.block ?_
          obtain ⟨hg43, H⟩ := gd_some H
          refine Sm.seqA h00 mixed hΓ (by kernel_rfl) fun K40 hK40 => ?_
          simp only [rs]
          repeat (refine opsG fun K hK => ?_; simp only [z, seval, spool_Tracks_t8]; (repeat (first | refine gcI ?_ | refine fun (_ : _ ≤ _) => ?_)); refine hK _ ?_; clear hK K)
          refine hK40 _ ?_
          obtain ⟨⟨hg41, hg42⟩, H⟩ := gd_some H
          refine Sm.regQ h00 mixed hΓ [0, 1, 2, 3, 4, 5, 6, 7, 8, 9, 10, 11, 12, 13] [(none, [], []), (none, [144], []), (none, [144], []), (none, [], []), (none, [144], []), (none, [144], []), (none, [], []), (none, [], []), (none, [], [688]), (none, [688, 9025], [704, 9025]), (none, [144], []), (none, [144], []), (none, [1000001, 704], [752, 704]), (none, [], [])] (by kernel_rfl) rfl ?_
          simp only [rs]
          iterate 12 (refine opsQ fun K hK => ?_; simp only [z, seval, spool_Tracks_t8]; (repeat (first | refine gcI ?_ | refine fun (_ : _ ≤ _) => ?_)); refine hK _ ?_; clear hK K)
          iterate 1 (refine opsQV (by rfl) fun K hK => ?_; simp only [z, seval, spool_Tracks_t8]; (repeat (first | refine gcI ?_ | refine fun (_ : _ ≤ _) => ?_)); refine hK _ ?_; clear hK K)
          iterate 1 (refine opsQ fun K hK => ?_; simp only [z, seval, spool_Tracks_t8]; (repeat (first | refine gcI ?_ | refine fun (_ : _ ≤ _) => ?_)); refine hK _ ?_; clear hK K)
          refine opsQ0 ?_
          refine hK39 _ ?_
          refine Sm.regA h00 mixed hΓ (by kernel_rfl) ?_
          simp only [rs]
          repeat (refine opsG fun K hK => ?_; simp only [z, seval, spool_Tracks_t8]; (repeat (first | refine gcI ?_ | refine fun (_ : _ ≤ _) => ?_)); refine hK _ ?_; clear hK K)
          refine opsG0 ?_
          try simp only [seval, Exit.exit.injEq]
          refine ⟨(_, _), (Option.some.inj H).symm, ?_⟩
          exact weak_b [some 0, some 9024, some 1, some 2, some 3, some 752] rfl rfl rfl (by simp only [wk, z, seval, spool_Tracks_t8]) (by simp only [wk, z, seval, spool_Tracks_t8])
        first | replace H := bif_f h38 H | replace H := bif_f2 h38 H (by simp only [List.length_append])
        refine Sm.exit ?_
        try simp only [seval, Exit.exit.injEq]
        refine ⟨⟨_, (Option.some.inj H).symm⟩, fun hz => ?_⟩
        have hyy := Sum.inr.inj ((Option.some.inj H).trans hz)
        subst hyy
        have H := Ho35
        try dsimp only at H
        try simp only [seval, Exit.exit.injEq]
        refine ⟨_, H, ?_⟩
        exact weak_b [some 0, some 9024, some 1, some 2, some 3, some 9025] rfl rfl rfl (by simp only [wk, z, seval, spool_Tracks_t8]) (by simp only [wk, z, seval, spool_Tracks_t8])
      rintro b H
      try dsimp only at H
      unfold spool_Tracks_k7 at H
      obtain ⟨hg33, H⟩ := gd_some H
      refine Sm.regA h00 mixed hΓ (by kernel_rfl) ?_
      simp only [rs]
      repeat (refine opsG fun K hK => ?_; simp only [z, seval, spool_Tracks_s7]; (repeat (first | refine gcI ?_ | refine fun (_ : _ ≤ _) => ?_)); refine hK _ ?_; clear hK K)
      refine opsG0 ?_
      try simp only [seval, Exit.exit.injEq]
      obtain rfl := Option.some.inj H
      refine ⟨by first | rfl | trivial, trivial, ?_⟩
      exact weak_b [some 0, some 848, some 1, some 2, some 3] rfl rfl rfl (by simp only [wk, z, seval, spool_Tracks_s7]) (by simp only [wk, z, seval, spool_Tracks_s7])
    try simp only [seval, Exit.exit.injEq]
    refine ⟨_, H, ?_⟩
    exact weak_b [some 0, some 9018] rfl rfl rfl (by simp only [wk, z, seval]) (by simp only [wk, z, seval])
  rintro records H
  try dsimp only at H
  unfold spool_Tracks_k1 at H
  refine Sm.seqA h00 mixed hΓ (by kernel_rfl) fun K15 hK15 => ?_
  simp only [rs]
  repeat (refine opsG fun K hK => ?_; simp only [z, seval, spool_Tracks_s1]; (repeat (first | refine gcI ?_ | refine fun (_ : _ ≤ _) => ?_)); refine hK _ ?_; clear hK K)
  refine hK15 _ ?_
  refine Sm.cut (fun (x : (List (List TRec))) => spool_Tracks_s2 x) (fun x => spool_Tracks_k2 n x = some r) ?_ ?_
  · refine Sm.seqX h00 mixed hΓ (by kernel_rfl) fun K17 hK17 => ?_
    simp only [rs]
    (refine opsX fun K hK => ?_; simp only [z, seval, spool_Tracks_s1]; (repeat (first | refine gcI ?_ | refine fun (_ : _ ≤ _) => ?_)); refine hK _ ?_; clear hK K)
    refine opsE (stepC_ok maker48) fun K hK => ?_; simp only [z, seval, spool_Tracks_s1]; (repeat (first | refine gcI ?_ | refine fun (_ : _ ≤ _) => ?_)); refine hK _ ?_; clear hK K
    refine hK17 _ ?_
    refine Sm.block ?_
    obtain ⟨hg0, H⟩ := gd_some H
    obtain ⟨y18, hy18, H⟩ := bind_some H
    refine Sm.rangeL 4 (fun (x : (List (List TRec)) × (List TRec)) => spool_Tracks_t3 x.1 x.2) (fun (x : (List (List TRec)) × (List TRec)) => spool_Tracks_u3 x.1 x.2) (fun (x : (List (List TRec)) × (List TRec)) (e : Nat × Nat) => spool_Tracks_a3 x.1 x.2 e.1 (e.2 - e.1)) (fun (x : (List (List TRec)) × (List TRec)) (e : Nat × Nat) => (spool_Tracks_b3 n x.1 x.2 e.1 (e.2 - e.1)).bind fun x2 => gd (List.map szRec x2.2 = (List.map szRec records)) (some x2)) ([], records) (divP (List.map szRec records) 2048) (fun (e : Nat × Nat) => [.c (.int .i64) (.int (e.1 : Int)), .own 9008 [.int .i64, .slice 5, .slice 5, .bool] e.1 (e.2 - e.1)]) (res := y18) hy18 ?_ (by decide) (fun x => ⟨rfl, rfl, rfl⟩) (low_stB (by rfl)) rfl rfl (iter71 1 2 3 9008 (List.map szRec records) 2048) (fun (x : (List (List TRec)) × (List TRec)) => List.map szRec x.2 = (List.map szRec records)) hg0 ?_ (fun _ => rfl) (by decide) (fun _ => noMap_stB rfl) (fun _ _ => noMap_stB rfl) ?_ ?_ ?_
    · exact weak_b [some 160, none, some 880, some 9001, some 881, some 882] rfl rfl rfl (by simp only [wk, z, seval, spool_Tracks_s1]) (by simp only [wk, z, seval, spool_Tracks_s1])
    · rintro ⟨out_1, v55⟩ hox
      refine ⟨?_, ?_, v55, ?_, ?_, hox⟩ <;> simp only [z, seval, spool_Tracks_t3]
    · rintro ⟨out_1, v55⟩ e x2 hox H
      clear H
      refine Sm.regA h00 mixed hΓ (by kernel_rfl) ?_
      simp only [rs]
      repeat (refine opsG fun K hK => ?_; simp only [z, seval, spool_Tracks_t3]; (repeat (first | refine gcI ?_ | refine fun (_ : _ ≤ _) => ?_)); refine hK _ ?_; clear hK K)
      refine opsG0 ?_
      refine ⟨by first | rfl | trivial, ?_⟩
      exact weak_b [some 0, some 9007, some 1, some 9008, some 2, some 3] rfl rfl rfl (by simp only [wk, z, seval, spool_Tracks_t3]) (by simp only [wk, z, seval, spool_Tracks_t3])
    · rintro ⟨out_1, v55⟩ e x2 hox H
      try dsimp only at H
      obtain ⟨H, hga⟩ := bind_gd H
      unfold spool_Tracks_b3 at H
      refine Sm.block ?_
      refine Sm.cut (fun (x : (List TRec) × Nat × Nat) => spool_Tracks_s4 out_1 x.1 x.2.1 x.2.2) (fun x => spool_Tracks_k4 n out_1 x.1 x.2.1 x.2.2 = some x2) ?_ ?_
      · refine Sm.seqA h00 mixed hΓ (by kernel_rfl) fun K20 hK20 => ?_
        simp only [rs]
        repeat (refine opsG fun K hK => ?_; simp only [z, seval, spool_Tracks_a3]; (repeat (first | refine gcI ?_ | refine fun (_ : _ ≤ _) => ?_)); refine hK _ ?_; clear hK K)
        refine hK20 _ ?_
        refine Sm.block ?_
        obtain ⟨y21, hy21, Ho21⟩ := bind_some H
        refine Sm.loopB (fun (x : (List TRec) × Int) => spool_Tracks_b5 n out_1 e.1 (e.2 - e.1) (((e.2 - e.1) : Nat) : Int) x.1 x.2) (fun x => spool_Tracks_t5 out_1 e.1 (e.2 - e.1) (((e.2 - e.1) : Nat) : Int) x.1 x.2) hy21 ?_ ?_
        · exact weak_b [some 0, some 9009, some 1, some 9010, some 2, some 3] rfl rfl rfl (by simp only [wk, z, seval, spool_Tracks_a3]) (by simp only [wk, z, seval, spool_Tracks_a3])
        rintro ⟨b1_1, v60⟩ z21 H
        try dsimp only at H
        unfold spool_Tracks_b5 at H
        refine Sm.seqA h00 mixed hΓ (by kernel_rfl) fun K22 hK22 => ?_
        simp only [rs]
        repeat (refine opsG fun K hK => ?_; simp only [z, seval, spool_Tracks_t5]; (repeat (first | refine gcI ?_ | refine fun (_ : _ ≤ _) => ?_)); refine hK _ ?_; clear hK K)
        refine hK22 _ ?_
        refine Sm.seqK fun K23 hK23 => ?_
        refine Sm.condK (by rfl) fun Ka Kb ha hb => ?_
        simp only [wpCond, z, seval, spool_Tracks_t5]
        refine ⟨fun h24 => ha ?_, fun h24 => hb ?_⟩
        · first | replace H := bif_t h24 H | replace H := bif_t2 h24 H (by simp only [List.length_append])
          refine Sm.skip ?_
          refine hK23 _ ?_
          refine Sm.seqK fun K25 hK25 => ?_
          refine Sm.block ?_
          refine Sm.seqA h00 mixed hΓ (by kernel_rfl) fun K26 hK26 => ?_
          simp only [rs]
          repeat (refine opsG fun K hK => ?_; simp only [z, seval, spool_Tracks_t5]; (repeat (first | refine gcI ?_ | refine fun (_ : _ ≤ _) => ?_)); refine hK _ ?_; clear hK K)
          refine hK26 _ ?_
          obtain ⟨⟨hg27, hg28⟩, H⟩ := gd_some H
          refine Sm.regA h00 mixed hΓ (by kernel_rfl) ?_
          simp only [rs]
          repeat (refine opsG fun K hK => ?_; simp only [z, seval, spool_Tracks_t5]; (repeat (first | refine gcI ?_ | refine fun (_ : _ ≤ _) => ?_)); refine hK _ ?_; clear hK K)
          refine opsG0 ?_
          refine hK25 _ ?_
          refine Sm.regA h00 mixed hΓ (by kernel_rfl) ?_
          simp only [rs]
          repeat (refine opsG fun K hK => ?_; simp only [z, seval, spool_Tracks_t5]; (repeat (first | refine gcI ?_ | refine fun (_ : _ ≤ _) => ?_)); refine hK _ ?_; clear hK K)
          refine opsG0 ?_
          try simp only [seval, Exit.exit.injEq]
          refine ⟨(_, _), (Option.some.inj H).symm, ?_⟩
          exact weak_b [some 0, some 9015, some 1, some 9016, some 2, some 3] rfl rfl rfl (by simp only [wk, z, seval, spool_Tracks_t5]) (by simp only [wk, z, seval, spool_Tracks_t5])
        first | replace H := bif_f h24 H | replace H := bif_f2 h24 H (by simp only [List.length_append])
        refine Sm.exit ?_
        try simp only [seval, Exit.exit.injEq]
        refine ⟨⟨_, (Option.some.inj H).symm⟩, fun hz => ?_⟩
        have hyy := Sum.inr.inj ((Option.some.inj H).trans hz)
        subst hyy
        have H := Ho21
        try dsimp only at H
        try simp only [seval, Exit.exit.injEq]
        refine ⟨(b1_1, e.1, (e.2 - e.1)), H, ?_⟩
        exact weak_b [some 0, some 9015, some 1, some 9016, some 2, some 3] rfl rfl rfl (by simp only [wk, z, seval, spool_Tracks_t5]) (by simp only [wk, z, seval, spool_Tracks_t5])
      rintro ⟨b1, t_2, t_3⟩ H
      try dsimp only at H
      unfold spool_Tracks_k4 at H
      obtain ⟨r3, hr3, H⟩ := bind_some H
      obtain ⟨hg19, H⟩ := gd_some H
      refine Sm.regT h00 mixed hΓ (by kernel_rfl) ?_
      refine wpT_node 0 [1] (by kernel_rfl) ?_
      simp only [rs]
      refine ⟨?_, ?_, trivial⟩
      · refine opsX fun K hK => ?_; simp only [z, seval, spool_Tracks_s4, hr3]; (repeat (first | refine gcI ?_ | refine fun (_ : _ ≤ _) => ?_)); refine hK _ ?_; clear hK K
        refine opsX0 ?_
        refine wpT_node 1 [] (by kernel_rfl) ?_
        simp only [rs]
        refine ⟨?_, trivial⟩
        refine opsX fun K hK => ?_; simp only [z, seval, spool_Tracks_s4, hr3]; (repeat (first | refine gcI ?_ | refine fun (_ : _ ≤ _) => ?_)); refine hK _ ?_; clear hK K
        refine opsX0 ?_
        refine wpT_node 2 [] (by kernel_rfl) ?_
        simp only [rs]
        refine ⟨?_, trivial⟩
        refine opsM (cslices_Clone_f50_M1 n _ _ _ r3 hr3) [9012] [1152] (by simp only [z, seval, spool_Tracks_s4, hr3]; try rfl) (by simp only [z, seval, spool_Tracks_s4, hr3]) (by simp only [z, seval, spool_Tracks_s4, hr3]) (by simp only [z, seval, spool_Tracks_s4, hr3]) (by simp only [z, seval, spool_Tracks_s4, hr3]) rfl (by simp only [z, seval, spool_Tracks_s4, hr3]) rfl ?_
        refine opsX0 ?_
        refine wpT_node 3 [] (by kernel_rfl) ?_
        simp only [rs]
        refine ⟨?_, trivial⟩
        refine opsX fun K hK => ?_; simp only [z, seval, spool_Tracks_s4, hr3]; (repeat (first | refine gcI ?_ | refine fun (_ : _ ≤ _) => ?_)); refine hK _ ?_; clear hK K
        refine opsX0 ?_
        refine wpT_node 4 [] (by kernel_rfl) ?_
        simp only [rs]
        refine ⟨?_, trivial⟩
        refine opsX fun K hK => ?_; simp only [z, seval, spool_Tracks_s4, hr3]; (repeat (first | refine gcI ?_ | refine fun (_ : _ ≤ _) => ?_)); refine hK _ ?_; clear hK K
        refine opsX0 ?_
        refine wpT_node 5 [] (by kernel_rfl) ?_
        simp only [rs]
        refine ⟨?_, trivial⟩
        refine opsX fun K hK => ?_; simp only [z, seval, spool_Tracks_s4, hr3]; (repeat (first | refine gcI ?_ | refine fun (_ : _ ≤ _) => ?_)); refine hK _ ?_; clear hK K
        refine opsX0 ?_
        refine ⟨by kernel_rfl, ?_⟩
        try simp only [seval, Exit.exit.injEq]
        obtain rfl := Option.some.inj H
        refine ⟨by first | rfl | trivial, hga, ?_⟩
        exact weak_b [some 0, some 1184, some 1, some 9012, some 2, some 3] rfl rfl rfl (by simp only [wk, z, seval, spool_Tracks_s4]) (by simp only [wk, z, seval, spool_Tracks_s4])
      · refine opsX fun K hK => ?_; simp only [z, seval, spool_Tracks_s4, hr3]; (repeat (first | refine gcI ?_ | refine fun (_ : _ ≤ _) => ?_)); refine hK _ ?_; clear hK K
        refine opsX0 ?_
        refine wpT_node 0 [2] (by kernel_rfl) ?_
        simp only [rs]
        refine ⟨?_, ?_, trivial⟩
        · refine opsX fun K hK => ?_; simp only [z, seval, spool_Tracks_s4, hr3]; (repeat (first | refine gcI ?_ | refine fun (_ : _ ≤ _) => ?_)); refine hK _ ?_; clear hK K
          refine opsX0 ?_
          refine wpT_node 2 [] (by kernel_rfl) ?_
          simp only [rs]
          refine ⟨?_, trivial⟩
          refine opsM (cslices_Clone_f50_M1 n _ _ _ r3 hr3) [9012] [1152] (by simp only [z, seval, spool_Tracks_s4, hr3]; try rfl) (by simp only [z, seval, spool_Tracks_s4, hr3]) (by simp only [z, seval, spool_Tracks_s4, hr3]) (by simp only [z, seval, spool_Tracks_s4, hr3]) (by simp only [z, seval, spool_Tracks_s4, hr3]) rfl (by simp only [z, seval, spool_Tracks_s4, hr3]) rfl ?_
          refine opsX0 ?_
          refine wpT_node 3 [] (by kernel_rfl) ?_
          simp only [rs]
          refine ⟨?_, trivial⟩
          refine opsX fun K hK => ?_; simp only [z, seval, spool_Tracks_s4, hr3]; (repeat (first | refine gcI ?_ | refine fun (_ : _ ≤ _) => ?_)); refine hK _ ?_; clear hK K
          refine opsX0 ?_
          refine wpT_node 4 [] (by kernel_rfl) ?_
          simp only [rs]
          refine ⟨?_, trivial⟩
          refine opsX fun K hK => ?_; simp only [z, seval, spool_Tracks_s4, hr3]; (repeat (first | refine gcI ?_ | refine fun (_ : _ ≤ _) => ?_)); refine hK _ ?_; clear hK K
          refine opsX0 ?_
          refine wpT_node 5 [] (by kernel_rfl) ?_
          simp only [rs]
          refine ⟨?_, trivial⟩
          refine opsX fun K hK => ?_; simp only [z, seval, spool_Tracks_s4, hr3]; (repeat (first | refine gcI ?_ | refine fun (_ : _ ≤ _) => ?_)); refine hK _ ?_; clear hK K
          refine opsX0 ?_
          refine ⟨by kernel_rfl, ?_⟩
          try simp only [seval, Exit.exit.injEq]
          obtain rfl := Option.some.inj H
          refine ⟨by first | rfl | trivial, hga, ?_⟩
          exact weak_b [some 0, some 1184, some 1, some 9012, some 2, some 3] rfl rfl rfl (by simp only [wk, z, seval, spool_Tracks_s4]) (by simp only [wk, z, seval, spool_Tracks_s4])
        · refine opsM (cslices_Clone_f50_M1 n _ _ _ r3 hr3) [9012] [1152] (by simp only [z, seval, spool_Tracks_s4, hr3]; try rfl) (by simp only [z, seval, spool_Tracks_s4, hr3]) (by simp only [z, seval, spool_Tracks_s4, hr3]) (by simp only [z, seval, spool_Tracks_s4, hr3]) (by simp only [z, seval, spool_Tracks_s4, hr3]) rfl (by simp only [z, seval, spool_Tracks_s4, hr3]) rfl ?_
          refine opsX0 ?_
          refine wpT_node 0 [3] (by kernel_rfl) ?_
          simp only [rs]
          refine ⟨?_, ?_, trivial⟩
          · refine opsX fun K hK => ?_; simp only [z, seval, spool_Tracks_s4, hr3]; (repeat (first | refine gcI ?_ | refine fun (_ : _ ≤ _) => ?_)); refine hK _ ?_; clear hK K
            refine opsX0 ?_
            refine wpT_node 3 [] (by kernel_rfl) ?_
            simp only [rs]
            refine ⟨?_, trivial⟩
            refine opsX fun K hK => ?_; simp only [z, seval, spool_Tracks_s4, hr3]; (repeat (first | refine gcI ?_ | refine fun (_ : _ ≤ _) => ?_)); refine hK _ ?_; clear hK K
            refine opsX0 ?_
            refine wpT_node 4 [] (by kernel_rfl) ?_
            simp only [rs]
            refine ⟨?_, trivial⟩
            refine opsX fun K hK => ?_; simp only [z, seval, spool_Tracks_s4, hr3]; (repeat (first | refine gcI ?_ | refine fun (_ : _ ≤ _) => ?_)); refine hK _ ?_; clear hK K
            refine opsX0 ?_
            refine wpT_node 5 [] (by kernel_rfl) ?_
            simp only [rs]
            refine ⟨?_, trivial⟩
            refine opsX fun K hK => ?_; simp only [z, seval, spool_Tracks_s4, hr3]; (repeat (first | refine gcI ?_ | refine fun (_ : _ ≤ _) => ?_)); refine hK _ ?_; clear hK K
            refine opsX0 ?_
            refine ⟨by kernel_rfl, ?_⟩
            try simp only [seval, Exit.exit.injEq]
            obtain rfl := Option.some.inj H
            refine ⟨by first | rfl | trivial, hga, ?_⟩
            exact weak_b [some 0, some 1184, some 1, some 9012, some 2, some 3] rfl rfl rfl (by simp only [wk, z, seval, spool_Tracks_s4]) (by simp only [wk, z, seval, spool_Tracks_s4])
          · refine opsX fun K hK => ?_; simp only [z, seval, spool_Tracks_s4, hr3]; (repeat (first | refine gcI ?_ | refine fun (_ : _ ≤ _) => ?_)); refine hK _ ?_; clear hK K
            refine opsX0 ?_
            refine wpT_node 0 [] (by kernel_rfl) ?_
            simp only [rs]
            refine ⟨?_, trivial⟩
            refine opsX fun K hK => ?_; simp only [z, seval, spool_Tracks_s4, hr3]; (repeat (first | refine gcI ?_ | refine fun (_ : _ ≤ _) => ?_)); refine hK _ ?_; clear hK K
            refine opsX0 ?_
            refine wpT_node 4 [] (by kernel_rfl) ?_
            simp only [rs]
            refine ⟨?_, trivial⟩
            refine opsX fun K hK => ?_; simp only [z, seval, spool_Tracks_s4, hr3]; (repeat (first | refine gcI ?_ | refine fun (_ : _ ≤ _) => ?_)); refine hK _ ?_; clear hK K
            refine opsX0 ?_
            refine wpT_node 5 [] (by kernel_rfl) ?_
            simp only [rs]
            refine ⟨?_, trivial⟩
            refine opsX fun K hK => ?_; simp only [z, seval, spool_Tracks_s4, hr3]; (repeat (first | refine gcI ?_ | refine fun (_ : _ ≤ _) => ?_)); refine hK _ ?_; clear hK K
            refine opsX0 ?_
            refine ⟨by kernel_rfl, ?_⟩
            try simp only [seval, Exit.exit.injEq]
            obtain rfl := Option.some.inj H
            refine ⟨by first | rfl | trivial, hga, ?_⟩
            exact weak_b [some 0, some 1184, some 1, some 9012, some 2, some 3] rfl rfl rfl (by simp only [wk, z, seval, spool_Tracks_s4]) (by simp only [wk, z, seval, spool_Tracks_s4])
    try simp only [seval, Exit.exit.injEq]
    refine ⟨_, H, ?_⟩
    exact weak_b [some 0, some 9007] rfl rfl rfl (by simp only [wk, z, seval, spool_Tracks_s1]) (by simp only [wk, z, seval, spool_Tracks_s1])
  rintro out H
  try dsimp only at H
  unfold spool_Tracks_k2 at H
  refine Sm.seqA h00 mixed hΓ (by kernel_rfl) fun K16 hK16 => ?_
  simp only [rs]
  repeat (refine opsG fun K hK => ?_; simp only [z, seval, spool_Tracks_s2]; (repeat (first | refine gcI ?_ | refine fun (_ : _ ≤ _) => ?_)); refine hK _ ?_; clear hK K)
  refine hK16 _ ?_
  refine Sm.ret ?_
  try simp only [seval, Exit.exit.injEq]
  obtain rfl := Option.some.inj H
  refine Ret.ofR [some 9003] (.inr rfl) ?_
  simp only [z, seval, spool_Tracks_s2]
  try omega

def extent_valid (n : Nat) (x : TExtent) : Option Bool :=
  some (if (if (if (decide (x.At ≥ 0)) = true then (decide (x.Len ≥ 1)) else false) = true then (decide (x.At < 512)) else false) = true then (decide (x.Len ≤ (IntKind.wrap .i64 (512 - x.At)))) else false)

def xextent_valid (n : Nat) : Go.AE.Fn := mkFn (A := TExtent) (R := Bool) 64 [(true, [.int .i64, .int .i64])] false (fun xs => (⟨(cg (xs.getD 0 []) 0).toInt, (cg (xs.getD 0 []) 1).toInt⟩ : TExtent)) (fun a => [[.int a.At, .int a.Len]]) (fun a => extent_valid n a) (fun r => [.c .bool (.bool r)]) (fun r => [])

theorem cextent_valid (n : Nat) : Contract Try.prog (xextent_valid n) := by
  have hΓ : ∀ g, g ∈ ([] : List Go.AE.Fn) → Contract Try.prog g := by simp
  refine contract_f (Try.f64.body.getD .skip) h00 Try.func64 rfl (by intro args w; exact Try.call64 args w) (by decide) (by intro _ r; exact ⟨rfl, by simp⟩) ?_
  rintro x r H
  try dsimp only at H
  unfold extent_valid at H
  simp only [Try.f64, Option.getD]
  refine Sm.seqA h00 mixed hΓ (by kernel_rfl) fun K1 hK1 => ?_
  simp only [rs]
  repeat (refine opsG fun K hK => ?_; simp only [z, seval]; (repeat (first | refine gcI ?_ | refine fun (_ : _ ≤ _) => ?_)); refine hK _ ?_; clear hK K)
  refine hK1 _ ?_
  refine Sm.seqA h00 mixed hΓ (by kernel_rfl) fun K2 hK2 => ?_
  simp only [rs]
  repeat (refine opsG fun K hK => ?_; simp only [z, seval]; (repeat (first | refine gcI ?_ | refine fun (_ : _ ≤ _) => ?_)); refine hK _ ?_; clear hK K)
  refine hK2 _ ?_
  refine Sm.ret ?_
  try simp only [seval, Exit.exit.injEq]
  obtain rfl := Option.some.inj H
  refine Ret.ofR [] (.inr rfl) ?_
  simp only [z, seval]

abbrev extent_Check_s1 : S := stB [] []

def extent_Check_k1 (n : Nat) : Option Bool :=
  some true

abbrev extent_Check_t2 (n_ : Int) (l : List TExtent) (v9 : Int) (end_ : Int) (v10 : Int) : S := stB [(1, .c (.int .i64) (.int n_)), (5, .c (.int .i64) (.int end_)), (8, .c (.slice 52) (.slice (List.map e_TExtent l))), (9, .c (.int .i64) (.int v9)), (10, .c (.int .i64) (.int v10))] []

def extent_Check_b2 (n : Nat) (n_ : Int) (l : List TExtent) (v9 : Int) (end_ : Int) (v10 : Int) : Option ((Int × Int) ⊕ (((Bool) ⊕ (Unit)))) :=
  bif (decide (v10 < v9)) then
    gd ((0 ≤ v10 ∧ v10 < (l.length : Int))) <|
    (extent_valid n (gt l (Int.toNat v10))).bind fun r1 =>
    bif (if (if (!r1) = true then true else (decide (((gt l (Int.toNat v10)).At) ≤ end_))) = true then true else (decide ((IntKind.wrap .i64 (((gt l (Int.toNat v10)).At) + ((gt l (Int.toNat v10)).Len))) > n_))) then
      some (.inr (.inl false))
    else
      some (.inl ((IntKind.wrap .i64 (((gt l (Int.toNat v10)).At) + ((gt l (Int.toNat v10)).Len))), (IntKind.wrap .i64 (v10 + 1))))
  else
    some (.inr (.inr ()))

def extent_Check (n : Nat) (l : List TExtent) (n_ : Int) : Option Bool :=
  (loopF (fun (x : Int × Int) => extent_Check_b2 n n_ l (l.length : Int) x.1 x.2) n ((-1), 0)).bind fun y5 =>
  match y5 with
  | .inl v =>
    some v
  | .inr v =>
    extent_Check_k1 n

def xextent_Check (n : Nat) : Go.AE.Fn := mkFn (A := (List TExtent) × Int) (R := Bool) 63 [(false, [.slice 52]), (false, [.int .i64])] false (fun xs => (((cg (xs.getD 0 []) 0).toSl.map d_TExtent), (cg (xs.getD 1 []) 0).toInt)) (fun a => [[.slice (List.map e_TExtent a.1)], [.int a.2]]) (fun a => extent_Check n a.1 a.2) (fun r => [.c .bool (.bool r)]) (fun r => [])

theorem cextent_Check (n : Nat) : Contract Try.prog (xextent_Check n) := by
  have hΓ : ∀ g, g ∈ ([xextent_valid n] : List Go.AE.Fn) → Contract Try.prog g := by
    intro g hg; simp only [List.mem_cons, List.not_mem_nil, or_false] at hg; subst hg; exact cextent_valid n
  refine contract_f (Try.f63.body.getD .skip) h00 Try.func63 rfl (by intro args w; exact Try.call63 args w) (by decide) (by intro _ r; exact ⟨rfl, by simp⟩) ?_
  rintro ⟨l, n_⟩ r H
  try dsimp only at H
  unfold extent_Check at H
  simp only [Try.f63, Option.getD]
  refine Sm.seqA h00 mixed hΓ (by kernel_rfl) fun K1 hK1 => ?_
  simp only [rs]
  repeat (refine opsG fun K hK => ?_; simp only [z, seval]; (repeat (first | refine gcI ?_ | refine fun (_ : _ ≤ _) => ?_)); refine hK _ ?_; clear hK K)
  refine hK1 _ ?_
  refine Sm.seqA h00 mixed hΓ (by kernel_rfl) fun K2 hK2 => ?_
  simp only [rs]
  repeat (refine opsG fun K hK => ?_; simp only [z, seval]; (repeat (first | refine gcI ?_ | refine fun (_ : _ ≤ _) => ?_)); refine hK _ ?_; clear hK K)
  refine hK2 _ ?_
  refine Sm.cut (fun (x : Unit) => extent_Check_s1) (fun x => extent_Check_k1 n = some r) ?_ ?_
  · refine Sm.seqA h00 mixed hΓ (by kernel_rfl) fun K4 hK4 => ?_
    simp only [rs]
    repeat (refine opsG fun K hK => ?_; simp only [z, seval]; (repeat (first | refine gcI ?_ | refine fun (_ : _ ≤ _) => ?_)); refine hK _ ?_; clear hK K)
    refine hK4 _ ?_
    refine Sm.block ?_
    obtain ⟨y5, hy5, Ho5⟩ := bind_some H
    refine Sm.loopB (fun (x : Int × Int) => extent_Check_b2 n n_ l (l.length : Int) x.1 x.2) (fun x => extent_Check_t2 n_ l (l.length : Int) x.1 x.2) hy5 ?_ ?_
    · exact weak_b [] rfl rfl rfl (by simp only [wk, z, seval]) (by simp only [wk, z, seval])
    rintro ⟨end_, v10⟩ z5 H
    try dsimp only at H
    unfold extent_Check_b2 at H
    refine Sm.seqA h00 mixed hΓ (by kernel_rfl) fun K6 hK6 => ?_
    simp only [rs]
    repeat (refine opsG fun K hK => ?_; simp only [z, seval, extent_Check_t2]; (repeat (first | refine gcI ?_ | refine fun (_ : _ ≤ _) => ?_)); refine hK _ ?_; clear hK K)
    refine hK6 _ ?_
    refine Sm.seqK fun K7 hK7 => ?_
    refine Sm.condK (by rfl) fun Ka Kb ha hb => ?_
    simp only [wpCond, z, seval, extent_Check_t2]
    refine ⟨fun h8 => ha ?_, fun h8 => hb ?_⟩
    · first | replace H := bif_t h8 H | replace H := bif_t2 h8 H (by simp only [List.length_append])
      refine Sm.skip ?_
      refine hK7 _ ?_
      refine Sm.seqK fun K9 hK9 => ?_
      refine Sm.block ?_
      obtain ⟨hg15, H⟩ := gd_some H
      refine Sm.seqA h00 mixed hΓ (by kernel_rfl) fun K10 hK10 => ?_
      simp only [rs]
      repeat (refine opsG fun K hK => ?_; simp only [z, seval, extent_Check_t2]; (repeat (first | refine gcI ?_ | refine fun (_ : _ ≤ _) => ?_)); refine hK _ ?_; clear hK K)
      refine hK10 _ ?_
      refine Sm.seqK fun K11 hK11 => ?_
      obtain ⟨r1, hr1, H⟩ := bind_some H
      refine Sm.seqA h00 mixed hΓ (by kernel_rfl) fun K12 hK12 => ?_
      simp only [rs]
      repeat (refine opsG fun K hK => ?_; simp only [z, seval, extent_Check_t2, xextent_valid, hr1]; (repeat (first | refine gcI ?_ | refine fun (_ : _ ≤ _) => ?_)); refine hK _ ?_; clear hK K)
      refine hK12 _ ?_
      refine Sm.condK (by rfl) fun Ka Kb ha hb => ?_
      simp only [wpCond, z, seval, extent_Check_t2]
      refine ⟨fun h13 => ha ?_, fun h13 => hb ?_⟩
      · first | replace H := bif_t h13 H | replace H := bif_t2 h13 H (by simp only [List.length_append])
        refine Sm.seqA h00 mixed hΓ (by kernel_rfl) fun K14 hK14 => ?_
        simp only [rs]
        repeat (refine opsG fun K hK => ?_; simp only [z, seval, extent_Check_t2]; (repeat (first | refine gcI ?_ | refine fun (_ : _ ≤ _) => ?_)); refine hK _ ?_; clear hK K)
        refine hK14 _ ?_
        refine Sm.ret ?_
        try simp only [seval, Exit.exit.injEq]
        refine ⟨⟨_, (Option.some.inj H).symm⟩, fun hz => ?_⟩
        have hyy := Sum.inr.inj ((Option.some.inj H).trans hz)
        subst hyy
        have H := Ho5
        try dsimp only at H
        try simp only [seval, Exit.exit.injEq]
        obtain rfl := Option.some.inj H
        refine Ret.ofR [] (.inr rfl) ?_
        simp only [z, seval, extent_Check_t2]
      first | replace H := bif_f h13 H | replace H := bif_f2 h13 H (by simp only [List.length_append])
      refine Sm.skip ?_
      refine hK11 _ ?_
      refine Sm.regA h00 mixed hΓ (by kernel_rfl) ?_
      simp only [rs]
      repeat (refine opsG fun K hK => ?_; simp only [z, seval, extent_Check_t2]; (repeat (first | refine gcI ?_ | refine fun (_ : _ ≤ _) => ?_)); refine hK _ ?_; clear hK K)
      refine opsG0 ?_
      refine hK9 _ ?_
      refine Sm.regA h00 mixed hΓ (by kernel_rfl) ?_
      simp only [rs]
      repeat (refine opsG fun K hK => ?_; simp only [z, seval, extent_Check_t2]; (repeat (first | refine gcI ?_ | refine fun (_ : _ ≤ _) => ?_)); refine hK _ ?_; clear hK K)
      refine opsG0 ?_
      try simp only [seval, Exit.exit.injEq]
      refine ⟨(_, _), (Option.some.inj H).symm, ?_⟩
      exact weak_b [] rfl rfl rfl (by simp only [wk, z, seval, extent_Check_t2]) (by simp only [wk, z, seval, extent_Check_t2])
    first | replace H := bif_f h8 H | replace H := bif_f2 h8 H (by simp only [List.length_append])
    refine Sm.exit ?_
    try simp only [seval, Exit.exit.injEq]
    refine ⟨⟨_, (Option.some.inj H).symm⟩, fun hz => ?_⟩
    have hyy := Sum.inr.inj ((Option.some.inj H).trans hz)
    subst hyy
    have H := Ho5
    try dsimp only at H
    try simp only [seval, Exit.exit.injEq]
    refine ⟨(), H, ?_⟩
    exact weak_b [] rfl rfl rfl (by simp only [wk, z, seval, extent_Check_t2]) (by simp only [wk, z, seval, extent_Check_t2])
  rintro ⟨⟩ H
  try dsimp only at H
  unfold extent_Check_k1 at H
  refine Sm.seqA h00 mixed hΓ (by kernel_rfl) fun K3 hK3 => ?_
  simp only [rs]
  repeat (refine opsG fun K hK => ?_; simp only [z, seval, extent_Check_s1]; (repeat (first | refine gcI ?_ | refine fun (_ : _ ≤ _) => ?_)); refine hK _ ?_; clear hK K)
  refine hK3 _ ?_
  refine Sm.ret ?_
  try simp only [seval, Exit.exit.injEq]
  obtain rfl := Option.some.inj H
  refine Ret.ofR [] (.inr rfl) ?_
  simp only [z, seval, extent_Check_s1]

def spool_Check (n : Nat) (s : TSpace) : Option Int :=
  gd (((!(if (decide (s.Tracks < 0)) = true then true else (decide (s.Tracks > 512)))) = true → (extent_Check n s.Free s.Tracks).isSome = true)) <|
  bif (if (if (decide (s.Tracks < 0)) = true then true else (decide (s.Tracks > 512))) = true then true else (!((extent_Check n s.Free s.Tracks).getD default))) then
    some 1
  else
    some 0

def xspool_Check (n : Nat) : Go.AE.Fn := mkFn (A := TSpace) (R := Int) 35 [(true, [.int .i64, .slice 52])] false (fun xs => (⟨(cg (xs.getD 0 []) 0).toInt, ((cg (xs.getD 0 []) 1).toSl.map d_TExtent)⟩ : TSpace)) (fun a => [[.int a.Tracks, .slice (List.map e_TExtent a.Free)]]) (fun a => spool_Check n a) (fun r => [.c (.int .i64) (.int r)]) (fun r => [])

theorem cspool_Check (n : Nat) : Contract Try.prog (xspool_Check n) := by
  have hΓ : ∀ g, g ∈ ([xextent_Check n] : List Go.AE.Fn) → Contract Try.prog g := by
    intro g hg; simp only [List.mem_cons, List.not_mem_nil, or_false] at hg; subst hg; exact cextent_Check n
  refine contract_f (Try.f35.body.getD .skip) h00 Try.func35 rfl (by intro args w; exact Try.call35 args w) (by decide) (by intro _ r; exact ⟨rfl, by simp⟩) ?_
  rintro s r H
  try dsimp only at H
  unfold spool_Check at H
  simp only [Try.f35, Option.getD]
  refine Sm.seqA h00 mixed hΓ (by kernel_rfl) fun K1 hK1 => ?_
  simp only [rs]
  repeat (refine opsG fun K hK => ?_; simp only [z, seval]; (repeat (first | refine gcI ?_ | refine fun (_ : _ ≤ _) => ?_)); refine hK _ ?_; clear hK K)
  refine hK1 _ ?_
  refine Sm.seqK fun K2 hK2 => ?_
  obtain ⟨hg7, H⟩ := gd_some H
  refine Sm.seqA h00 mixed hΓ (by kernel_rfl) fun K3 hK3 => ?_
  simp only [rs]
  repeat (refine opsG fun K hK => ?_; simp only [z, seval, xextent_Check]; (repeat (first | refine gcI ?_ | refine fun (_ : _ ≤ _) => ?_)); refine hK _ ?_; clear hK K)
  refine hK3 _ ?_
  refine Sm.condK (by rfl) fun Ka Kb ha hb => ?_
  simp only [wpCond, z, seval]
  refine ⟨fun h4 => ha ?_, fun h4 => hb ?_⟩
  · first | replace H := bif_t h4 H | replace H := bif_t2 h4 H (by simp only [List.length_append])
    refine Sm.seqA h00 mixed hΓ (by kernel_rfl) fun K5 hK5 => ?_
    simp only [rs]
    repeat (refine opsG fun K hK => ?_; simp only [z, seval]; (repeat (first | refine gcI ?_ | refine fun (_ : _ ≤ _) => ?_)); refine hK _ ?_; clear hK K)
    refine hK5 _ ?_
    refine Sm.ret ?_
    try simp only [seval, Exit.exit.injEq]
    obtain rfl := Option.some.inj H
    refine Ret.ofR [] (.inr rfl) ?_
    simp only [z, seval]
  first | replace H := bif_f h4 H | replace H := bif_f2 h4 H (by simp only [List.length_append])
  refine Sm.skip ?_
  refine hK2 _ ?_
  refine Sm.seqA h00 mixed hΓ (by kernel_rfl) fun K6 hK6 => ?_
  simp only [rs]
  repeat (refine opsG fun K hK => ?_; simp only [z, seval]; (repeat (first | refine gcI ?_ | refine fun (_ : _ ≤ _) => ?_)); refine hK _ ?_; clear hK K)
  refine hK6 _ ?_
  refine Sm.ret ?_
  try simp only [seval, Exit.exit.injEq]
  obtain rfl := Option.some.inj H
  refine Ret.ofR [] (.inr rfl) ?_
  simp only [z, seval]

def slices_Clone_f40 (n : Nat) (s : List TExtent) : Option (List TExtent) :=
  uniB s fun nb1 =>
  bif nb1 then
    some []
  else
    gd (s.length ≤ 2147483648) <|
    some s

def xslices_Clone_f40 (n : Nat) : Go.AE.Fn := mkFn (A := (List TExtent)) (R := (List TExtent)) 40 [(false, [.slice 52])] false (fun xs => ((cg (xs.getD 0 []) 0).toSl.map d_TExtent)) (fun a => [[.slice (List.map e_TExtent a)]]) (fun a => slices_Clone_f40 n a) (fun r => [.own 0 [.int .i64, .int .i64] 0 r.length]) (fun r => [.row 52 (List.map e_TExtent r)])

theorem cslices_Clone_f40 (n : Nat) : Contract Try.prog (xslices_Clone_f40 n) := by
  have hΓ : ∀ g, g ∈ ([] : List Go.AE.Fn) → Contract Try.prog g := by simp
  refine contract_f (Try.f40.body.getD .skip) h00 Try.func40 rfl (by intro args w; exact Try.call40 args w) (by decide) (by
    intro _ r; refine ⟨rfl, ?_⟩; simp only [List.mem_cons, List.not_mem_nil, or_false]; rintro _ rfl
    · exact ⟨52, _, _, rfl, ty52, rfl⟩) ?_
  rintro s r H
  try dsimp only at H
  unfold slices_Clone_f40 at H
  simp only [Try.f40, Option.getD]
  refine Sm.seqA h00 mixed hΓ (by kernel_rfl) fun K1 hK1 => ?_
  simp only [rs]
  repeat (refine opsG fun K hK => ?_; simp only [z, seval]; (repeat (first | refine gcI ?_ | refine fun (_ : _ ≤ _) => ?_)); refine hK _ ?_; clear hK K)
  refine hK1 _ ?_
  refine Sm.seqK fun K2 hK2 => ?_
  refine Sm.seqX h00 mixed hΓ (by kernel_rfl) fun K3 hK3 => ?_
  simp only [rs]
  (refine opsX fun K hK => ?_; simp only [z, seval]; (repeat (first | refine gcI ?_ | refine fun (_ : _ ≤ _) => ?_)); refine hK _ ?_; clear hK K)
  refine opsN fun K hK => ?_; simp only [z, seval]; (repeat (first | refine gcI ?_ | refine fun (_ : _ ≤ _) => ?_)); intro nb1 hnb1; refine hK _ ?_; clear hK K
  replace H := uniB_some H nb1 (fun hb => by simpa using hnb1 hb)
  refine hK3 _ ?_
  refine Sm.condK (by rfl) fun Ka Kb ha hb => ?_
  simp only [wpCond, z, seval]
  refine ⟨fun h4 => ha ?_, fun h4 => hb ?_⟩
  · first | replace H := bif_t h4 H | replace H := bif_t2 h4 H (by simp only [List.length_append])
    refine Sm.seqA h00 mixed hΓ (by kernel_rfl) fun K5 hK5 => ?_
    simp only [rs]
    repeat (refine opsG fun K hK => ?_; simp only [z, seval]; (repeat (first | refine gcI ?_ | refine fun (_ : _ ≤ _) => ?_)); refine hK _ ?_; clear hK K)
    refine hK5 _ ?_
    refine Sm.ret ?_
    try simp only [seval, Exit.exit.injEq]
    obtain rfl := Option.some.inj H
    refine Ret.ofR [none] (.inr rfl) ?_
    simp only [z, seval]
    try omega
  first | replace H := bif_f h4 H | replace H := bif_f2 h4 H (by simp only [List.length_append])
  refine Sm.skip ?_
  refine hK2 _ ?_
  obtain ⟨hg7, H⟩ := gd_some H
  refine Sm.seqA h00 mixed hΓ (by kernel_rfl) fun K6 hK6 => ?_
  simp only [rs]
  repeat (refine opsG fun K hK => ?_; simp only [z, seval]; (repeat (first | refine gcI ?_ | refine fun (_ : _ ≤ _) => ?_)); refine hK _ ?_; clear hK K)
  refine hK6 _ ?_
  refine Sm.ret ?_
  try simp only [seval, Exit.exit.injEq]
  obtain rfl := Option.some.inj H
  refine Ret.ofR [some 112] (.inr rfl) ?_
  simp only [z, seval]
  try omega

def slices_Delete_f67_M1 (n : Nat) (s : List TExtent) (i : Int) (j : Int) : Option (Nat × (List TExtent)) :=
  gd ((0 ≤ i ∧ i ≤ j ∧ j ≤ ((s.length : Nat) : Int) ∧ ((s.length : Nat) : Int) ≤ (s.length : Int))) <|
  bif (i == j) then
    some (s.length, s)
  else
    gd ((0 ≤ i ∧ i ≤ (s.length : Int)) ∧ (0 ≤ j ∧ j ≤ (s.length : Int) ∧ (s.length : Int) ≤ (s.length : Int)) ∧ ((Int.toNat (i - 0)) + (List.take (Int.toNat ((s.length : Int) - j)) (List.drop (Int.toNat j) s)).length) ≤ s.length) <|
    gd ((0 ≤ ((((Int.toNat (i - 0)) + (List.take (Int.toNat ((s.length : Int) - j)) (List.drop (Int.toNat j) s)).length) : Nat) : Int) ∧ ((((Int.toNat (i - 0)) + (List.take (Int.toNat ((s.length : Int) - j)) (List.drop (Int.toNat j) s)).length) : Nat) : Int) ≤ ((s.length : Nat) : Int) ∧ ((s.length : Nat) : Int) ≤ (s.length : Int)) ∧ (((Int.toNat (i - 0)) + (List.take (Int.toNat ((s.length : Int) - j)) (List.drop (Int.toNat j) s)).length) + (Int.toNat (((s.length : Nat) : Int) - ((((Int.toNat (i - 0)) + (List.take (Int.toNat ((s.length : Int) - j)) (List.drop (Int.toNat j) s)).length) : Nat) : Int)))) ≤ s.length) <|
    some (((Int.toNat (i - 0)) + (List.take (Int.toNat ((s.length : Int) - j)) (List.drop (Int.toNat j) s)).length), (overL (overL s (Int.toNat (i - 0)) (List.take (Int.toNat ((s.length : Int) - j)) (List.drop (Int.toNat j) s))) ((Int.toNat (i - 0)) + (List.take (Int.toNat ((s.length : Int) - j)) (List.drop (Int.toNat j) s)).length) (zreps (Int.toNat (((s.length : Nat) : Int) - ((((Int.toNat (i - 0)) + (List.take (Int.toNat ((s.length : Int) - j)) (List.drop (Int.toNat j) s)).length) : Nat) : Int))) (⟨0, 0⟩ : TExtent))))

theorem cslices_Delete_f67_M1 (n : Nat) (s : List TExtent) (i : Int) (j : Int) (r : Nat × (List TExtent)) (H : slices_Delete_f67_M1 n s i j = some r) : CallsM Try.prog 67 [.ref (.own 0 [.int .i64, .int .i64] 0 s.length), .dat (false, [.int .i64]) [.int i], .dat (false, [.int .i64]) [.int j]] [.row 52 (List.map e_TExtent s)] [.own 0 [.int .i64, .int .i64] 0 r.1] [.row 52 (List.map e_TExtent r.2)] := by
  have hΓ : ∀ g, g ∈ ([] : List Go.AE.Fn) → Contract Try.prog g := by simp
  refine callsM_of (Try.f67.body.getD .skip) h00 Try.func67 rfl (by intro args w; exact Try.call67 args w) (Nat.le_of_ble_eq_true rfl) (Nat.le_of_ble_eq_true rfl) ?_
  unfold slices_Delete_f67_M1 at H
  simp only [Try.f67, Option.getD]
  refine Sm.seqA h00 mixed hΓ (by kernel_rfl) fun K1 hK1 => ?_
  simp only [rs]
  repeat (refine opsG fun K hK => ?_; simp only [z, seval]; (repeat (first | refine gcI ?_ | refine fun (_ : _ ≤ _) => ?_)); refine hK _ ?_; clear hK K)
  refine hK1 _ ?_
  refine Sm.seqX h00 mixed hΓ (by kernel_rfl) fun K2 hK2 => ?_
  simp only [rs]
  obtain ⟨hg3, H⟩ := gd_some H
  iterate 5 (refine opsX fun K hK => ?_; simp only [z, seval]; (repeat (first | refine gcI ?_ | refine fun (_ : _ ≤ _) => ?_)); refine hK _ ?_; clear hK K)
  refine opsY fun K hK => ?_; simp only [z, seval]; (repeat (first | refine gcI ?_ | refine fun (_ : _ ≤ _) => ?_)); refine hK _ ?_; clear hK K
  refine hK2 _ ?_
  refine Sm.seqK fun K4 hK4 => ?_
  refine Sm.seqA h00 mixed hΓ (by kernel_rfl) fun K5 hK5 => ?_
  simp only [rs]
  repeat (refine opsG fun K hK => ?_; simp only [z, seval]; (repeat (first | refine gcI ?_ | refine fun (_ : _ ≤ _) => ?_)); refine hK _ ?_; clear hK K)
  refine hK5 _ ?_
  refine Sm.condK (by rfl) fun Ka Kb ha hb => ?_
  simp only [wpCond, z, seval]
  refine ⟨fun h6 => ha ?_, fun h6 => hb ?_⟩
  · first | replace H := bif_t h6 H | replace H := bif_t2 h6 H (by simp only [List.length_append])
    refine Sm.seqA h00 mixed hΓ (by kernel_rfl) fun K7 hK7 => ?_
    simp only [rs]
    repeat (refine opsG fun K hK => ?_; simp only [z, seval]; (repeat (first | refine gcI ?_ | refine fun (_ : _ ≤ _) => ?_)); refine hK _ ?_; clear hK K)
    refine hK7 _ ?_
    refine Sm.ret ?_
    try simp only [seval, Exit.exit.injEq]
    obtain rfl := Option.some.inj H
    refine RetM.mk (.inr rfl) [some 0] rfl ?_
    simp only [z, seval]
  first | replace H := bif_f h6 H | replace H := bif_f2 h6 H (by simp only [List.length_append])
  refine Sm.skip ?_
  refine hK4 _ ?_
  refine Sm.seqA h00 mixed hΓ (by kernel_rfl) fun K8 hK8 => ?_
  simp only [rs]
  repeat (refine opsG fun K hK => ?_; simp only [z, seval]; (repeat (first | refine gcI ?_ | refine fun (_ : _ ≤ _) => ?_)); refine hK _ ?_; clear hK K)
  refine hK8 _ ?_
  obtain ⟨⟨hg14, hg15, hg16⟩, H⟩ := gd_some H
  refine Sm.seqD h00 mixed hΓ (by kernel_rfl) fun K9 hK9 => ?_
  simp only [rs]
  repeat (refine opsH fun K hK => ?_; simp only [z, seval]; (repeat (first | refine gcI ?_ | refine fun (_ : _ ≤ _) => ?_)); refine hK _ ?_; clear hK K)
  refine hK9 _ ?_
  refine Sm.seqX h00 mixed hΓ (by kernel_rfl) fun K10 hK10 => ?_
  simp only [rs]
  obtain ⟨⟨hg11, hg12⟩, H⟩ := gd_some H
  iterate 5 (refine opsX fun K hK => ?_; simp only [z, seval]; (repeat (first | refine gcI ?_ | refine fun (_ : _ ≤ _) => ?_)); refine hK _ ?_; clear hK K)
  refine opsY fun K hK => ?_; simp only [z, seval]; (repeat (first | refine gcI ?_ | refine fun (_ : _ ≤ _) => ?_)); refine hK _ ?_; clear hK K
  refine hK10 _ ?_
  refine Sm.seqA h00 mixed hΓ (by kernel_rfl) fun K13 hK13 => ?_
  simp only [rs]
  repeat (refine opsG fun K hK => ?_; simp only [z, seval]; (repeat (first | refine gcI ?_ | refine fun (_ : _ ≤ _) => ?_)); refine hK _ ?_; clear hK K)
  refine hK13 _ ?_
  refine Sm.ret ?_
  try simp only [seval, Exit.exit.injEq]
  obtain rfl := Option.some.inj H
  refine RetM.mk (.inr rfl) [some 0] rfl ?_
  simp only [z, seval]

def slices_Delete_f67_M2 (n : Nat) (s : List TExtent) (s_l : Nat) (i : Int) (j : Int) : Option (Nat × (List TExtent)) :=
  gd ((0 ≤ i ∧ i ≤ j ∧ j ≤ ((s_l : Nat) : Int) ∧ ((s_l : Nat) : Int) ≤ (s_l : Int))) <|
  bif (i == j) then
    some (s_l, s)
  else
    gd ((0 ≤ i ∧ i ≤ (s.length : Int)) ∧ (0 ≤ j ∧ j ≤ (s_l : Int) ∧ (s_l : Int) ≤ (s.length : Int)) ∧ ((Int.toNat (i - 0)) + (List.take (Int.toNat ((s_l : Int) - j)) (List.drop (Int.toNat j) s)).length) ≤ s.length) <|
    gd ((0 ≤ ((((Int.toNat (i - 0)) + (List.take (Int.toNat ((s_l : Int) - j)) (List.drop (Int.toNat j) s)).length) : Nat) : Int) ∧ ((((Int.toNat (i - 0)) + (List.take (Int.toNat ((s_l : Int) - j)) (List.drop (Int.toNat j) s)).length) : Nat) : Int) ≤ ((s_l : Nat) : Int) ∧ ((s_l : Nat) : Int) ≤ (s.length : Int)) ∧ (((Int.toNat (i - 0)) + (List.take (Int.toNat ((s_l : Int) - j)) (List.drop (Int.toNat j) s)).length) + (Int.toNat (((s_l : Nat) : Int) - ((((Int.toNat (i - 0)) + (List.take (Int.toNat ((s_l : Int) - j)) (List.drop (Int.toNat j) s)).length) : Nat) : Int)))) ≤ s.length) <|
    some (((Int.toNat (i - 0)) + (List.take (Int.toNat ((s_l : Int) - j)) (List.drop (Int.toNat j) s)).length), (overL (overL s (Int.toNat (i - 0)) (List.take (Int.toNat ((s_l : Int) - j)) (List.drop (Int.toNat j) s))) ((Int.toNat (i - 0)) + (List.take (Int.toNat ((s_l : Int) - j)) (List.drop (Int.toNat j) s)).length) (zreps (Int.toNat (((s_l : Nat) : Int) - ((((Int.toNat (i - 0)) + (List.take (Int.toNat ((s_l : Int) - j)) (List.drop (Int.toNat j) s)).length) : Nat) : Int))) (⟨0, 0⟩ : TExtent))))

theorem cslices_Delete_f67_M2 (n : Nat) (s : List TExtent) (s_l : Nat) (i : Int) (j : Int) (r : Nat × (List TExtent)) (H : slices_Delete_f67_M2 n s s_l i j = some r) : CallsM Try.prog 67 [.ref (.own 0 [.int .i64, .int .i64] 0 s_l), .dat (false, [.int .i64]) [.int i], .dat (false, [.int .i64]) [.int j]] [.row 52 (List.map e_TExtent s)] [.own 0 [.int .i64, .int .i64] 0 r.1] [.row 52 (List.map e_TExtent r.2)] := by
  have hΓ : ∀ g, g ∈ ([] : List Go.AE.Fn) → Contract Try.prog g := by simp
  refine callsM_of (Try.f67.body.getD .skip) h00 Try.func67 rfl (by intro args w; exact Try.call67 args w) (Nat.le_of_ble_eq_true rfl) (Nat.le_of_ble_eq_true rfl) ?_
  unfold slices_Delete_f67_M2 at H
  simp only [Try.f67, Option.getD]
  refine Sm.seqA h00 mixed hΓ (by kernel_rfl) fun K1 hK1 => ?_
  simp only [rs]
  repeat (refine opsG fun K hK => ?_; simp only [z, seval]; (repeat (first | refine gcI ?_ | refine fun (_ : _ ≤ _) => ?_)); refine hK _ ?_; clear hK K)
  refine hK1 _ ?_
  refine Sm.seqX h00 mixed hΓ (by kernel_rfl) fun K2 hK2 => ?_
  simp only [rs]
  obtain ⟨hg3, H⟩ := gd_some H
  iterate 5 (refine opsX fun K hK => ?_; simp only [z, seval]; (repeat (first | refine gcI ?_ | refine fun (_ : _ ≤ _) => ?_)); refine hK _ ?_; clear hK K)
  refine opsY fun K hK => ?_; simp only [z, seval]; (repeat (first | refine gcI ?_ | refine fun (_ : _ ≤ _) => ?_)); refine hK _ ?_; clear hK K
  refine hK2 _ ?_
  refine Sm.seqK fun K4 hK4 => ?_
  refine Sm.seqA h00 mixed hΓ (by kernel_rfl) fun K5 hK5 => ?_
  simp only [rs]
  repeat (refine opsG fun K hK => ?_; simp only [z, seval]; (repeat (first | refine gcI ?_ | refine fun (_ : _ ≤ _) => ?_)); refine hK _ ?_; clear hK K)
  refine hK5 _ ?_
  refine Sm.condK (by rfl) fun Ka Kb ha hb => ?_
  simp only [wpCond, z, seval]
  refine ⟨fun h6 => ha ?_, fun h6 => hb ?_⟩
  · first | replace H := bif_t h6 H | replace H := bif_t2 h6 H (by simp only [List.length_append])
    refine Sm.seqA h00 mixed hΓ (by kernel_rfl) fun K7 hK7 => ?_
    simp only [rs]
    repeat (refine opsG fun K hK => ?_; simp only [z, seval]; (repeat (first | refine gcI ?_ | refine fun (_ : _ ≤ _) => ?_)); refine hK _ ?_; clear hK K)
    refine hK7 _ ?_
    refine Sm.ret ?_
    try simp only [seval, Exit.exit.injEq]
    obtain rfl := Option.some.inj H
    refine RetM.mk (.inr rfl) [some 0] rfl ?_
    simp only [z, seval]
  first | replace H := bif_f h6 H | replace H := bif_f2 h6 H (by simp only [List.length_append])
  refine Sm.skip ?_
  refine hK4 _ ?_
  refine Sm.seqA h00 mixed hΓ (by kernel_rfl) fun K8 hK8 => ?_
  simp only [rs]
  repeat (refine opsG fun K hK => ?_; simp only [z, seval]; (repeat (first | refine gcI ?_ | refine fun (_ : _ ≤ _) => ?_)); refine hK _ ?_; clear hK K)
  refine hK8 _ ?_
  obtain ⟨⟨hg14, hg15, hg16⟩, H⟩ := gd_some H
  refine Sm.seqD h00 mixed hΓ (by kernel_rfl) fun K9 hK9 => ?_
  simp only [rs]
  repeat (refine opsH fun K hK => ?_; simp only [z, seval]; (repeat (first | refine gcI ?_ | refine fun (_ : _ ≤ _) => ?_)); refine hK _ ?_; clear hK K)
  refine hK9 _ ?_
  refine Sm.seqX h00 mixed hΓ (by kernel_rfl) fun K10 hK10 => ?_
  simp only [rs]
  obtain ⟨⟨hg11, hg12⟩, H⟩ := gd_some H
  iterate 5 (refine opsX fun K hK => ?_; simp only [z, seval]; (repeat (first | refine gcI ?_ | refine fun (_ : _ ≤ _) => ?_)); refine hK _ ?_; clear hK K)
  refine opsY fun K hK => ?_; simp only [z, seval]; (repeat (first | refine gcI ?_ | refine fun (_ : _ ≤ _) => ?_)); refine hK _ ?_; clear hK K
  refine hK10 _ ?_
  refine Sm.seqA h00 mixed hΓ (by kernel_rfl) fun K13 hK13 => ?_
  simp only [rs]
  repeat (refine opsG fun K hK => ?_; simp only [z, seval]; (repeat (first | refine gcI ?_ | refine fun (_ : _ ≤ _) => ?_)); refine hK _ ?_; clear hK K)
  refine hK13 _ ?_
  refine Sm.ret ?_
  try simp only [seval, Exit.exit.injEq]
  obtain rfl := Option.some.inj H
  refine RetM.mk (.inr rfl) [some 0] rfl ?_
  simp only [z, seval]

abbrev extent_Take_s1 : S := stB [] []

def extent_Take_k1 (n : Nat) : Option ((List TExtent) × (List TExtent) × Int) :=
  some ([], [], 200)

abbrev extent_Take_s3 (want_1 : Int) (most : Int) (got : List TExtent) (rest : List TExtent) (rest_2 : Nat) (longest : Int) : S := stB [(1, .c (.int .i64) (.int want_1)), (2, .c (.int .i64) (.int most)), (6, .own 9005 [.int .i64, .int .i64] 0 got.length), (7, .own 9006 [.int .i64, .int .i64] 0 rest_2), (9, .c (.int .i64) (.int longest))] [(9005, .row 52 (List.map e_TExtent got)), (9006, .row 52 (List.map e_TExtent rest))]

def extent_Take_k3 (n : Nat) (want_1 : Int) (most : Int) (got : List TExtent) (rest : List TExtent) (rest_2 : Nat) (longest : Int) : Option ((Int × (List TExtent) × (List TExtent) × Nat) ⊕ ((((List TExtent) × (List TExtent) × Int) ⊕ (Unit)))) :=
  gd ((0 ≤ longest ∧ longest < (rest_2 : Int)) ∧ (Int.toNat longest) < rest.length ∧ (got.length + 1) ≤ 2147483648) <|
  gd ((0 ≤ longest ∧ longest < (rest_2 : Int)) ∧ (Int.toNat longest) < rest.length) <|
  (slices_Delete_f67_M2 n rest rest_2 longest (IntKind.wrap .i64 (longest + 1))).bind fun r3 =>
  some (.inl ((IntKind.wrap .i64 (want_1 - ((gt rest (Int.toNat longest)).Len))), (got ++ [(gt rest (Int.toNat longest))]), r3.2, r3.1))

abbrev extent_Take_s5 (want_1 : Int) (most : Int) (got : List TExtent) (rest : List TExtent) (rest_4 : Nat) (longest_2 : Int) (v35 : Int) (v36 : Int) : S := stB [(1, .c (.int .i64) (.int want_1)), (2, .c (.int .i64) (.int most)), (6, .own 9013 [.int .i64, .int .i64] 0 got.length), (7, .own 9014 [.int .i64, .int .i64] 0 rest_4), (9, .c (.int .i64) (.int longest_2)), (34, .own 9014 [.int .i64, .int .i64] 0 rest_4), (35, .c (.int .i64) (.int v35)), (36, .c (.int .i64) (.int v36))] [(9013, .row 52 (List.map e_TExtent got)), (9014, .row 52 (List.map e_TExtent rest))]

def extent_Take_k5 (n : Nat) (want_1 : Int) (most : Int) (got : List TExtent) (rest : List TExtent) (rest_4 : Nat) (longest_2 : Int) (v35 : Int) (v36 : Int) : Option ((Nat × Int × Int) ⊕ ((((List TExtent) × (List TExtent) × Int) ⊕ (Nat × Int)))) :=
  some (.inl (rest_4, longest_2, (IntKind.wrap .i64 (v36 + 1))))

abbrev extent_Take_t4 (want_1 : Int) (most : Int) (got : List TExtent) (rest : List TExtent) (v35 : Int) (rest_3 : Nat) (longest_1 : Int) (v36 : Int) : S := stB [(1, .c (.int .i64) (.int want_1)), (2, .c (.int .i64) (.int most)), (6, .own 9011 [.int .i64, .int .i64] 0 got.length), (7, .own 9012 [.int .i64, .int .i64] 0 rest_3), (9, .c (.int .i64) (.int longest_1)), (34, .own 9012 [.int .i64, .int .i64] 0 rest_3), (35, .c (.int .i64) (.int v35)), (36, .c (.int .i64) (.int v36))] [(9011, .row 52 (List.map e_TExtent got)), (9012, .row 52 (List.map e_TExtent rest))]

def extent_Take_b4 (n : Nat) (want_1 : Int) (most : Int) (got : List TExtent) (rest : List TExtent) (v35 : Int) (rest_3 : Nat) (longest_1 : Int) (v36 : Int) : Option ((Nat × Int × Int) ⊕ ((((List TExtent) × (List TExtent) × Int) ⊕ (Nat × Int)))) :=
  bif (decide (v36 < v35)) then
    gd ((0 ≤ v36 ∧ v36 < (rest_3 : Int)) ∧ (Int.toNat v36) < rest.length) <|
    bif (decide (((gt rest (Int.toNat v36)).Len) > want_1)) then
      gd ((got.length + 1) ≤ 2147483648) <|
      gd ((0 ≤ v36 ∧ v36 < (rest_3 : Int)) ∧ (Int.toNat v36) < rest.length) <|
      some (.inr (.inl ((got ++ [(⟨(gt rest (Int.toNat v36)).At, want_1⟩ : TExtent)]), (List.take rest_3 (List.set rest (Int.toNat v36) (⟨(IntKind.wrap .i64 (((gt rest (Int.toNat v36)).At) + want_1)), (IntKind.wrap .i64 (((gt rest (Int.toNat v36)).Len) - want_1))⟩ : TExtent))), 0)))
    else
      bif (((gt rest (Int.toNat v36)).Len) == want_1) then
        gd ((got.length + 1) ≤ 2147483648) <|
        (slices_Delete_f67_M2 n rest rest_3 v36 (IntKind.wrap .i64 (v36 + 1))).bind fun r4 =>
        some (.inr (.inl ((got ++ [(gt rest (Int.toNat v36))]), (List.take r4.1 r4.2), 0)))
      else
        gd ((0 ≤ longest_1 ∧ longest_1 < (rest_3 : Int)) ∧ (Int.toNat longest_1) < rest.length) <|
        bif (decide (((gt rest (Int.toNat v36)).Len) > ((gt rest (Int.toNat longest_1)).Len))) then
          extent_Take_k5 n want_1 most got rest rest_3 v36 v35 v36
        else
          extent_Take_k5 n want_1 most got rest rest_3 longest_1 v35 v36
  else
    some (.inr (.inr (rest_3, longest_1)))

abbrev extent_Take_t2 (most : Int) (want_1 : Int) (got : List TExtent) (rest : List TExtent) (rest_1 : Nat) : S := stB [(1, .c (.int .i64) (.int want_1)), (2, .c (.int .i64) (.int most)), (6, .own 9003 [.int .i64, .int .i64] 0 got.length), (7, .own 9004 [.int .i64, .int .i64] 0 rest_1)] [(9003, .row 52 (List.map e_TExtent got)), (9004, .row 52 (List.map e_TExtent rest))]

def extent_Take_b2 (n : Nat) (most : Int) (want_1 : Int) (got : List TExtent) (rest : List TExtent) (rest_1 : Nat) : Option ((Int × (List TExtent) × (List TExtent) × Nat) ⊕ ((((List TExtent) × (List TExtent) × Int) ⊕ (Unit)))) :=
  bif (if (decide (((got.length : Nat) : Int) < most)) = true then (decide (((rest_1 : Nat) : Int) > 0)) else false) then
    (loopF (fun (x : Nat × Int × Int) => extent_Take_b4 n want_1 most got rest ((rest_1 : Nat) : Int) x.1 x.2.1 x.2.2) n (rest_1, 0, 0)).bind fun y23 =>
    match y23 with
    | .inl v =>
      some (.inr (.inl (v.1, v.2.1, v.2.2)))
    | .inr v =>
      extent_Take_k3 n want_1 most got rest v.1 v.2
  else
    some (.inr (.inr ()))

def extent_Take (n : Nat) (free : List TExtent) (want : Int) (most : Int) : Option ((List TExtent) × (List TExtent) × Int) :=
  (extent_Check n free 512).bind fun r1 =>
  bif (if (if (!r1) = true then true else (decide (want < 1))) = true then true else (decide (most < 1))) then
    some ([], [], 1)
  else
    (slices_Clone_f40 n free).bind fun r2 =>
    (loopF (fun (x : Int × (List TExtent) × (List TExtent) × Nat) => extent_Take_b2 n most x.1 x.2.1 x.2.2.1 x.2.2.2) n (want, [], r2, r2.length)).bind fun y9 =>
    match y9 with
    | .inl v =>
      some (v.1, v.2.1, v.2.2)
    | .inr v =>
      extent_Take_k1 n

def xextent_Take (n : Nat) : Go.AE.Fn := mkFn (A := (List TExtent) × Int × Int) (R := (List TExtent) × (List TExtent) × Int) 41 [(false, [.slice 52]), (false, [.int .i64]), (false, [.int .i64])] true (fun xs => (((cg (xs.getD 0 []) 0).toSl.map d_TExtent), (cg (xs.getD 1 []) 0).toInt, (cg (xs.getD 2 []) 0).toInt)) (fun a => [[.slice (List.map e_TExtent a.1)], [.int a.2.1], [.int a.2.2]]) (fun a => extent_Take n a.1 a.2.1 a.2.2) (fun r => [.own 0 [.int .i64, .int .i64] 0 r.1.length, .c (.slice 52) (.slice (List.map e_TExtent r.2.1)), .c (.int .i64) (.int r.2.2)]) (fun r => [.row 52 (List.map e_TExtent r.1)])

theorem cextent_Take (n : Nat) : Contract Try.prog (xextent_Take n) := by
  have hΓ : ∀ g, g ∈ ([xextent_Check n, xslices_Clone_f40 n] : List Go.AE.Fn) → Contract Try.prog g := by
    intro g hg; simp only [List.mem_cons, List.not_mem_nil, or_false] at hg; rcases hg with rfl | rfl; exact cextent_Check n; exact cslices_Clone_f40 n
  refine contract_f (Try.f41.body.getD .skip) h00 Try.func41 rfl (by intro args w; exact Try.call41 args w) (by decide) (by intro h; cases h) ?_
  rintro ⟨free, want, most⟩ r H
  try dsimp only at H
  unfold extent_Take at H
  simp only [Try.f41, Option.getD]
  refine Sm.seqA h00 mixed hΓ (by kernel_rfl) fun K1 hK1 => ?_
  simp only [rs]
  repeat (refine opsG fun K hK => ?_; simp only [z, seval]; (repeat (first | refine gcI ?_ | refine fun (_ : _ ≤ _) => ?_)); refine hK _ ?_; clear hK K)
  refine hK1 _ ?_
  refine Sm.scope ?_
  refine Sm.seqK fun K2 hK2 => ?_
  obtain ⟨r1, hr1, H⟩ := bind_some H
  refine Sm.seqA h00 mixed hΓ (by kernel_rfl) fun K3 hK3 => ?_
  simp only [rs]
  repeat (refine opsG fun K hK => ?_; simp only [z, seval, xextent_Check, hr1]; (repeat (first | refine gcI ?_ | refine fun (_ : _ ≤ _) => ?_)); refine hK _ ?_; clear hK K)
  refine hK3 _ ?_
  refine Sm.condK (by rfl) fun Ka Kb ha hb => ?_
  simp only [wpCond, z, seval]
  refine ⟨fun h4 => ha ?_, fun h4 => hb ?_⟩
  · first | replace H := bif_t h4 H | replace H := bif_t2 h4 H (by simp only [List.length_append])
    refine Sm.seqA h00 mixed hΓ (by kernel_rfl) fun K5 hK5 => ?_
    simp only [rs]
    repeat (refine opsG fun K hK => ?_; simp only [z, seval]; (repeat (first | refine gcI ?_ | refine fun (_ : _ ≤ _) => ?_)); refine hK _ ?_; clear hK K)
    refine hK5 _ ?_
    refine Sm.ret ?_
    try simp only [seval, Exit.exit.injEq]
    obtain rfl := Option.some.inj H
    refine Ret.ofR [none] (.inr rfl) ?_
    simp only [z, seval]
    try omega
  first | replace H := bif_f h4 H | replace H := bif_f2 h4 H (by simp only [List.length_append])
  refine Sm.skip ?_
  refine hK2 _ ?_
  obtain ⟨r2, hr2, H⟩ := bind_some H
  refine Sm.seqA h00 mixed hΓ (by kernel_rfl) fun K6 hK6 => ?_
  simp only [rs]
  repeat (refine opsG fun K hK => ?_; simp only [z, seval, xextent_Check, xslices_Clone_f40, hr2]; (repeat (first | refine gcI ?_ | refine fun (_ : _ ≤ _) => ?_)); refine hK _ ?_; clear hK K)
  refine hK6 _ ?_
  refine Sm.seqK fun K7 hK7 => ?_
  refine Sm.of (Γ := []) h00 mixed (by simp) rfl ?_
  refine hK7 _ ?_
  refine Sm.cut (fun (x : Unit) => extent_Take_s1) (fun x => extent_Take_k1 n = some r) ?_ ?_
  · refine Sm.block ?_
    obtain ⟨y9, hy9, Ho9⟩ := bind_some H
    refine Sm.loopB (fun (x : Int × (List TExtent) × (List TExtent) × Nat) => extent_Take_b2 n most x.1 x.2.1 x.2.2.1 x.2.2.2) (fun x => extent_Take_t2 most x.1 x.2.1 x.2.2.1 x.2.2.2) hy9 ?_ ?_
    · exact weak_b [none, some 384] rfl rfl rfl (by simp only [wk, z, seval]) (by simp only [wk, z, seval])
    rintro ⟨want_1, got, rest, rest_1⟩ z9 H
    try dsimp only at H
    unfold extent_Take_b2 at H
    refine Sm.seqK fun K10 hK10 => ?_
    refine Sm.seqA h00 mixed hΓ (by kernel_rfl) fun K11 hK11 => ?_
    simp only [rs]
    repeat (refine opsG fun K hK => ?_; simp only [z, seval, extent_Take_t2]; (repeat (first | refine gcI ?_ | refine fun (_ : _ ≤ _) => ?_)); refine hK _ ?_; clear hK K)
    refine hK11 _ ?_
    refine Sm.condK (by rfl) fun Ka Kb ha hb => ?_
    simp only [wpCond, z, seval, extent_Take_t2]
    refine ⟨fun h12 => ha ?_, fun h12 => hb ?_⟩
    · first | replace H := bif_t h12 H | replace H := bif_t2 h12 H (by simp only [List.length_append])
      refine Sm.skip ?_
      refine hK10 _ ?_
      refine Sm.block ?_
      refine Sm.seqA h00 mixed hΓ (by kernel_rfl) fun K13 hK13 => ?_
      simp only [rs]
      repeat (refine opsG fun K hK => ?_; simp only [z, seval, extent_Take_t2]; (repeat (first | refine gcI ?_ | refine fun (_ : _ ≤ _) => ?_)); refine hK _ ?_; clear hK K)
      refine hK13 _ ?_
      refine Sm.cut (fun (x : Nat × Int) => extent_Take_s3 want_1 most got rest x.1 x.2) (fun x => extent_Take_k3 n want_1 most got rest x.1 x.2 = some z9) ?_ ?_
      · refine Sm.seqA h00 mixed hΓ (by kernel_rfl) fun K22 hK22 => ?_
        simp only [rs]
        repeat (refine opsG fun K hK => ?_; simp only [z, seval, extent_Take_t2]; (repeat (first | refine gcI ?_ | refine fun (_ : _ ≤ _) => ?_)); refine hK _ ?_; clear hK K)
        refine hK22 _ ?_
        refine Sm.block ?_
        obtain ⟨y23, hy23, Ho23⟩ := bind_some H
        refine Sm.loopB (fun (x : Nat × Int × Int) => extent_Take_b4 n want_1 most got rest ((rest_1 : Nat) : Int) x.1 x.2.1 x.2.2) (fun x => extent_Take_t4 want_1 most got rest ((rest_1 : Nat) : Int) x.1 x.2.1 x.2.2) hy23 ?_ ?_
        · exact weak_b [some 9003, some 9004] rfl rfl rfl (by simp only [wk, z, seval, extent_Take_t2]) (by simp only [wk, z, seval, extent_Take_t2])
        rintro ⟨rest_3, longest_1, v36⟩ z23 H
        try dsimp only at H
        unfold extent_Take_b4 at H
        refine Sm.seqA h00 mixed hΓ (by kernel_rfl) fun K24 hK24 => ?_
        simp only [rs]
        repeat (refine opsG fun K hK => ?_; simp only [z, seval, extent_Take_t4]; (repeat (first | refine gcI ?_ | refine fun (_ : _ ≤ _) => ?_)); refine hK _ ?_; clear hK K)
        refine hK24 _ ?_
        refine Sm.seqK fun K25 hK25 => ?_
        refine Sm.condK (by rfl) fun Ka Kb ha hb => ?_
        simp only [wpCond, z, seval, extent_Take_t4]
        refine ⟨fun h26 => ha ?_, fun h26 => hb ?_⟩
        · first | replace H := bif_t h26 H | replace H := bif_t2 h26 H (by simp only [List.length_append])
          refine Sm.skip ?_
          refine hK25 _ ?_
          refine Sm.cut (fun (x : Int) => extent_Take_s5 want_1 most got rest rest_3 x ((rest_1 : Nat) : Int) v36) (fun x => extent_Take_k5 n want_1 most got rest rest_3 x ((rest_1 : Nat) : Int) v36 = some z23) ?_ ?_
          · refine Sm.block ?_
            obtain ⟨⟨hg47, hg48⟩, H⟩ := gd_some H
            refine Sm.seqA h00 mixed hΓ (by kernel_rfl) fun K27 hK27 => ?_
            simp only [rs]
            repeat (refine opsG fun K hK => ?_; simp only [z, seval, extent_Take_t4]; (repeat (first | refine gcI ?_ | refine fun (_ : _ ≤ _) => ?_)); refine hK _ ?_; clear hK K)
            refine hK27 _ ?_
            refine Sm.seqK fun K28 hK28 => ?_
            refine Sm.seqA h00 mixed hΓ (by kernel_rfl) fun K29 hK29 => ?_
            simp only [rs]
            repeat (refine opsG fun K hK => ?_; simp only [z, seval, extent_Take_t4]; (repeat (first | refine gcI ?_ | refine fun (_ : _ ≤ _) => ?_)); refine hK _ ?_; clear hK K)
            refine hK29 _ ?_
            refine Sm.condK (by rfl) fun Ka Kb ha hb => ?_
            simp only [wpCond, z, seval, extent_Take_t4]
            refine ⟨fun h30 => ha ?_, fun h30 => hb ?_⟩
            · first | replace H := bif_t h30 H | replace H := bif_t2 h30 H (by simp only [List.length_append])
              obtain ⟨hg36, H⟩ := gd_some H
              refine Sm.seqA h00 mixed hΓ (by kernel_rfl) fun K31 hK31 => ?_
              simp only [rs]
              repeat (refine opsG fun K hK => ?_; simp only [z, seval, extent_Take_t4]; (repeat (first | refine gcI ?_ | refine fun (_ : _ ≤ _) => ?_)); refine hK _ ?_; clear hK K)
              refine hK31 _ ?_
              obtain ⟨⟨hg34, hg35⟩, H⟩ := gd_some H
              refine Sm.seqA h00 mixed hΓ (by kernel_rfl) fun K32 hK32 => ?_
              simp only [rs]
              repeat (refine opsG fun K hK => ?_; simp only [z, seval, extent_Take_t4]; (repeat (first | refine gcI ?_ | refine fun (_ : _ ≤ _) => ?_)); refine hK _ ?_; clear hK K)
              refine hK32 _ ?_
              refine Sm.seqA h00 mixed hΓ (by kernel_rfl) fun K33 hK33 => ?_
              simp only [rs]
              repeat (refine opsG fun K hK => ?_; simp only [z, seval, extent_Take_t4]; (repeat (first | refine gcI ?_ | refine fun (_ : _ ≤ _) => ?_)); refine hK _ ?_; clear hK K)
              refine hK33 _ ?_
              refine Sm.ret ?_
              try simp only [seval, Exit.exit.injEq]
              refine ⟨⟨_, (Option.some.inj H).symm⟩, fun hz => ?_⟩
              have hyy := Sum.inr.inj ((Option.some.inj H).trans hz)
              subst hyy
              have H := Ho23
              try dsimp only at H
              try simp only [seval, Exit.exit.injEq]
              refine ⟨⟨_, (Option.some.inj H).symm⟩, fun hz => ?_⟩
              have hyy := Sum.inr.inj ((Option.some.inj H).trans hz)
              subst hyy
              have H := Ho9
              try dsimp only at H
              try simp only [seval, Exit.exit.injEq]
              obtain rfl := Option.some.inj H
              refine Ret.ofR [some 816] (.inr rfl) ?_
              simp only [z, seval, extent_Take_t4]
              try omega
            first | replace H := bif_f h30 H | replace H := bif_f2 h30 H (by simp only [List.length_append])
            refine Sm.skip ?_
            refine hK28 _ ?_
            refine Sm.seqK fun K37 hK37 => ?_
            refine Sm.seqA h00 mixed hΓ (by kernel_rfl) fun K38 hK38 => ?_
            simp only [rs]
            repeat (refine opsG fun K hK => ?_; simp only [z, seval, extent_Take_t4]; (repeat (first | refine gcI ?_ | refine fun (_ : _ ≤ _) => ?_)); refine hK _ ?_; clear hK K)
            refine hK38 _ ?_
            refine Sm.condK (by rfl) fun Ka Kb ha hb => ?_
            simp only [wpCond, z, seval, extent_Take_t4]
            refine ⟨fun h39 => ha ?_, fun h39 => hb ?_⟩
            · first | replace H := bif_t h39 H | replace H := bif_t2 h39 H (by simp only [List.length_append])
              obtain ⟨hg42, H⟩ := gd_some H
              refine Sm.seqA h00 mixed hΓ (by kernel_rfl) fun K40 hK40 => ?_
              simp only [rs]
              repeat (refine opsG fun K hK => ?_; simp only [z, seval, extent_Take_t4]; (repeat (first | refine gcI ?_ | refine fun (_ : _ ≤ _) => ?_)); refine hK _ ?_; clear hK K)
              refine hK40 _ ?_
              refine Sm.seqX h00 mixed hΓ (by kernel_rfl) fun K41 hK41 => ?_
              simp only [rs]
              obtain ⟨r4, hr4, H⟩ := bind_some H
              iterate 5 (refine opsX fun K hK => ?_; simp only [z, seval, extent_Take_t4]; (repeat (first | refine gcI ?_ | refine fun (_ : _ ≤ _) => ?_)); refine hK _ ?_; clear hK K)
              refine opsM (cslices_Delete_f67_M2 n _ _ _ _ r4 hr4) [9012] [] (by simp only [z, seval, extent_Take_t4, hr4]; try rfl) (by simp only [z, seval, extent_Take_t4, hr4]) (by simp only [z, seval, extent_Take_t4, hr4]) (by simp only [z, seval, extent_Take_t4, hr4]) (by simp only [z, seval, extent_Take_t4, hr4]) rfl (by simp only [z, seval, extent_Take_t4, hr4]) rfl ?_
              iterate 3 (refine opsX fun K hK => ?_; simp only [z, seval, extent_Take_t4, hr4]; (repeat (first | refine gcI ?_ | refine fun (_ : _ ≤ _) => ?_)); refine hK _ ?_; clear hK K)
              refine hK41 _ ?_
              refine Sm.ret ?_
              try simp only [seval, Exit.exit.injEq]
              refine ⟨⟨_, (Option.some.inj H).symm⟩, fun hz => ?_⟩
              have hyy := Sum.inr.inj ((Option.some.inj H).trans hz)
              subst hyy
              have H := Ho23
              try dsimp only at H
              try simp only [seval, Exit.exit.injEq]
              refine ⟨⟨_, (Option.some.inj H).symm⟩, fun hz => ?_⟩
              have hyy := Sum.inr.inj ((Option.some.inj H).trans hz)
              subst hyy
              have H := Ho9
              try dsimp only at H
              try simp only [seval, Exit.exit.injEq]
              obtain rfl := Option.some.inj H
              refine Ret.ofR [some 1168] (.inr rfl) ?_
              simp only [z, seval, extent_Take_t4]
              try omega
            first | replace H := bif_f h39 H | replace H := bif_f2 h39 H (by simp only [List.length_append])
            refine Sm.skip ?_
            refine hK37 _ ?_
            obtain ⟨⟨hg45, hg46⟩, H⟩ := gd_some H
            refine Sm.seqD h00 mixed hΓ (by kernel_rfl) fun K43 hK43 => ?_
            simp only [rs]
            repeat (refine opsH fun K hK => ?_; simp only [z, seval, extent_Take_t4]; (repeat (first | refine gcI ?_ | refine fun (_ : _ ≤ _) => ?_)); refine hK _ ?_; clear hK K)
            refine hK43 _ ?_
            refine Sm.condK (by rfl) fun Ka Kb ha hb => ?_
            simp only [wpCond, z, seval, extent_Take_t4]
            refine ⟨fun h44 => ha ?_, fun h44 => hb ?_⟩
            · first | replace H := bif_t h44 H | replace H := bif_t2 h44 H (by simp only [List.length_append])
              refine Sm.regA h00 mixed hΓ (by kernel_rfl) ?_
              simp only [rs]
              repeat (refine opsG fun K hK => ?_; simp only [z, seval, extent_Take_t4]; (repeat (first | refine gcI ?_ | refine fun (_ : _ ≤ _) => ?_)); refine hK _ ?_; clear hK K)
              refine opsG0 ?_
              try simp only [seval, Exit.exit.injEq]
              refine ⟨_, H, ?_⟩
              exact weak_b [some 9011, some 9012] rfl rfl rfl (by simp only [wk, z, seval, extent_Take_t4]) (by simp only [wk, z, seval, extent_Take_t4])
            first | replace H := bif_f h44 H | replace H := bif_f2 h44 H (by simp only [List.length_append])
            refine Sm.skip ?_
            try simp only [seval, Exit.exit.injEq]
            refine ⟨_, H, ?_⟩
            exact weak_b [some 9011, some 9012] rfl rfl rfl (by simp only [wk, z, seval, extent_Take_t4]) (by simp only [wk, z, seval, extent_Take_t4])
          rintro longest_2 H
          try dsimp only at H
          unfold extent_Take_k5 at H
          refine Sm.regA h00 mixed hΓ (by kernel_rfl) ?_
          simp only [rs]
          repeat (refine opsG fun K hK => ?_; simp only [z, seval, extent_Take_s5]; (repeat (first | refine gcI ?_ | refine fun (_ : _ ≤ _) => ?_)); refine hK _ ?_; clear hK K)
          refine opsG0 ?_
          try simp only [seval, Exit.exit.injEq]
          refine ⟨(_, _, _), (Option.some.inj H).symm, ?_⟩
          exact weak_b [some 9013, some 9014] rfl rfl rfl (by simp only [wk, z, seval, extent_Take_s5]) (by simp only [wk, z, seval, extent_Take_s5])
        first | replace H := bif_f h26 H | replace H := bif_f2 h26 H (by simp only [List.length_append])
        refine Sm.exit ?_
        try simp only [seval, Exit.exit.injEq]
        refine ⟨⟨_, (Option.some.inj H).symm⟩, fun hz => ?_⟩
        have hyy := Sum.inr.inj ((Option.some.inj H).trans hz)
        subst hyy
        have H := Ho23
        try dsimp only at H
        try simp only [seval, Exit.exit.injEq]
        refine ⟨(rest_3, longest_1), H, ?_⟩
        exact weak_b [some 9011, some 9012] rfl rfl rfl (by simp only [wk, z, seval, extent_Take_t4]) (by simp only [wk, z, seval, extent_Take_t4])
      rintro ⟨rest_2, longest⟩ H
      try dsimp only at H
      unfold extent_Take_k3 at H
      obtain ⟨⟨hg19, hg20, hg21⟩, H⟩ := gd_some H
      refine Sm.seqA h00 mixed hΓ (by kernel_rfl) fun K14 hK14 => ?_
      simp only [rs]
      repeat (refine opsG fun K hK => ?_; simp only [z, seval, extent_Take_s3]; (repeat (first | refine gcI ?_ | refine fun (_ : _ ≤ _) => ?_)); refine hK _ ?_; clear hK K)
      refine hK14 _ ?_
      obtain ⟨⟨hg17, hg18⟩, H⟩ := gd_some H
      refine Sm.seqA h00 mixed hΓ (by kernel_rfl) fun K15 hK15 => ?_
      simp only [rs]
      repeat (refine opsG fun K hK => ?_; simp only [z, seval, extent_Take_s3]; (repeat (first | refine gcI ?_ | refine fun (_ : _ ≤ _) => ?_)); refine hK _ ?_; clear hK K)
      refine hK15 _ ?_
      refine Sm.seqX h00 mixed hΓ (by kernel_rfl) fun K16 hK16 => ?_
      simp only [rs]
      obtain ⟨r3, hr3, H⟩ := bind_some H
      iterate 4 (refine opsX fun K hK => ?_; simp only [z, seval, extent_Take_s3]; (repeat (first | refine gcI ?_ | refine fun (_ : _ ≤ _) => ?_)); refine hK _ ?_; clear hK K)
      refine opsM (cslices_Delete_f67_M2 n _ _ _ _ r3 hr3) [9006] [] (by simp only [z, seval, extent_Take_s3, hr3]; try rfl) (by simp only [z, seval, extent_Take_s3, hr3]) (by simp only [z, seval, extent_Take_s3, hr3]) (by simp only [z, seval, extent_Take_s3, hr3]) (by simp only [z, seval, extent_Take_s3, hr3]) rfl (by simp only [z, seval, extent_Take_s3, hr3]) rfl ?_
      (refine opsX fun K hK => ?_; simp only [z, seval, extent_Take_s3, hr3]; (repeat (first | refine gcI ?_ | refine fun (_ : _ ≤ _) => ?_)); refine hK _ ?_; clear hK K)
      refine hK16 _ ?_
      refine Sm.exit ?_
      try simp only [seval, Exit.exit.injEq]
      refine ⟨(_, _, _, _), (Option.some.inj H).symm, ?_⟩
      exact weak_b [some 1536, some 9006] rfl rfl rfl (by simp only [wk, z, seval, extent_Take_s3]) (by simp only [wk, z, seval, extent_Take_s3])
    first | replace H := bif_f h12 H | replace H := bif_f2 h12 H (by simp only [List.length_append])
    refine Sm.exit ?_
    try simp only [seval, Exit.exit.injEq]
    refine ⟨⟨_, (Option.some.inj H).symm⟩, fun hz => ?_⟩
    have hyy := Sum.inr.inj ((Option.some.inj H).trans hz)
    subst hyy
    have H := Ho9
    try dsimp only at H
    try simp only [seval, Exit.exit.injEq]
    refine ⟨(), H, ?_⟩
    exact weak_b [] rfl rfl rfl (by simp only [wk, z, seval, extent_Take_t2]) (by simp only [wk, z, seval, extent_Take_t2])
  rintro ⟨⟩ H
  try dsimp only at H
  unfold extent_Take_k1 at H
  refine Sm.seqA h00 mixed hΓ (by kernel_rfl) fun K8 hK8 => ?_
  simp only [rs]
  repeat (refine opsG fun K hK => ?_; simp only [z, seval, extent_Take_s1]; (repeat (first | refine gcI ?_ | refine fun (_ : _ ≤ _) => ?_)); refine hK _ ?_; clear hK K)
  refine hK8 _ ?_
  refine Sm.ret ?_
  try simp only [seval, Exit.exit.injEq]
  obtain rfl := Option.some.inj H
  refine Ret.ofR [none] (.inr rfl) ?_
  simp only [z, seval, extent_Take_s1]
  try omega

def spool_Put (n : Nat) (s : TSpace) (l : List TLine) : Option (TSpace × TFile × (List (List TRec)) × Int) :=
  (spool_Check n s).bind fun r1 =>
  bif (r1 != 0) then
    some ((⟨0, []⟩ : TSpace), (⟨[], 0⟩ : TFile), [], 1)
  else
    (spool_Tracks n l).bind fun r2 =>
    bif (r2.2 != 0) then
      some ((⟨0, []⟩ : TSpace), (⟨[], 0⟩ : TFile), [], r2.2)
    else
      bif (((r2.1.length : Nat) : Int) == 0) then
        (slices_Clone_f40 n s.Free).bind fun r3 =>
        some ((⟨s.Tracks, r3⟩ : TSpace), (⟨[], 0⟩ : TFile), [], 0)
      else
        (extent_Take n s.Free ((r2.1.length : Nat) : Int) 8).bind fun r4 =>
        bif (r4.2.2 != 0) then
          some ((⟨0, []⟩ : TSpace), (⟨[], 0⟩ : TFile), [], 7)
        else
          some ((⟨s.Tracks, r4.2.1⟩ : TSpace), (⟨r4.1, (l.length : Int)⟩ : TFile), r2.1, 0)

def xspool_Put (n : Nat) : Go.AE.Fn := mkFn (A := TSpace × (List TLine)) (R := TSpace × TFile × (List (List TRec)) × Int) 19 [(true, [.int .i64, .slice 52]), (false, [.slice 48])] true (fun xs => ((⟨(cg (xs.getD 0 []) 0).toInt, ((cg (xs.getD 0 []) 1).toSl.map d_TExtent)⟩ : TSpace), ((cg (xs.getD 1 []) 0).toSl.map d_TLine))) (fun a => [[.int a.1.Tracks, .slice (List.map e_TExtent a.1.Free)], [.slice (List.map e_TLine a.2)]]) (fun a => spool_Put n a.1 a.2) (fun r => [.agg [.c (.int .i64) (.int r.1.Tracks), .c (.slice 52) (.slice (List.map e_TExtent r.1.Free))], .agg [.own 0 [.int .i64, .int .i64] 0 r.2.1.Extents.length, .c (.int .i64) (.int r.2.1.Lines)], .own 1 [.slice 59] 0 r.2.2.1.length, .c (.int .i64) (.int r.2.2.2)]) (fun r => [.row 52 (List.map e_TExtent r.2.1.Extents), .row 57 (List.map e_LTRec r.2.2.1)])

theorem cspool_Put (n : Nat) : Contract Try.prog (xspool_Put n) := by
  have hΓ : ∀ g, g ∈ ([xspool_Check n, xspool_Tracks n, xslices_Clone_f40 n, xextent_Take n] : List Go.AE.Fn) → Contract Try.prog g := by
    intro g hg; simp only [List.mem_cons, List.not_mem_nil, or_false] at hg; rcases hg with rfl | rfl | rfl | rfl; exact cspool_Check n; exact cspool_Tracks n; exact cslices_Clone_f40 n; exact cextent_Take n
  refine contract_f (Try.f19.body.getD .skip) h00 Try.func19 rfl (by intro args w; exact Try.call19 args w) (by decide) (by intro h; cases h) ?_
  rintro ⟨s, l⟩ r H
  try dsimp only at H
  unfold spool_Put at H
  simp only [Try.f19, Option.getD]
  refine Sm.seqA h00 mixed hΓ (by kernel_rfl) fun K1 hK1 => ?_
  simp only [rs]
  repeat (refine opsG fun K hK => ?_; simp only [z, seval]; (repeat (first | refine gcI ?_ | refine fun (_ : _ ≤ _) => ?_)); refine hK _ ?_; clear hK K)
  refine hK1 _ ?_
  refine Sm.seqK fun K2 hK2 => ?_
  obtain ⟨r1, hr1, H⟩ := bind_some H
  refine Sm.seqA h00 mixed hΓ (by kernel_rfl) fun K3 hK3 => ?_
  simp only [rs]
  repeat (refine opsG fun K hK => ?_; simp only [z, seval, xspool_Check, hr1]; (repeat (first | refine gcI ?_ | refine fun (_ : _ ≤ _) => ?_)); refine hK _ ?_; clear hK K)
  refine hK3 _ ?_
  refine Sm.condK (by rfl) fun Ka Kb ha hb => ?_
  simp only [wpCond, z, seval]
  refine ⟨fun h4 => ha ?_, fun h4 => hb ?_⟩
  · first | replace H := bif_t h4 H | replace H := bif_t2 h4 H (by simp only [List.length_append])
    refine Sm.seqA h00 mixed hΓ (by kernel_rfl) fun K5 hK5 => ?_
    simp only [rs]
    repeat (refine opsG fun K hK => ?_; simp only [z, seval]; (repeat (first | refine gcI ?_ | refine fun (_ : _ ≤ _) => ?_)); refine hK _ ?_; clear hK K)
    refine hK5 _ ?_
    refine Sm.ret ?_
    try simp only [seval, Exit.exit.injEq]
    obtain rfl := Option.some.inj H
    refine Ret.ofR [none, none] (.inr rfl) ?_
    simp only [z, seval]
    try omega
  first | replace H := bif_f h4 H | replace H := bif_f2 h4 H (by simp only [List.length_append])
  refine Sm.skip ?_
  refine hK2 _ ?_
  obtain ⟨r2, hr2, H⟩ := bind_some H
  refine Sm.seqA h00 mixed hΓ (by kernel_rfl) fun K6 hK6 => ?_
  simp only [rs]
  repeat (refine opsG fun K hK => ?_; simp only [z, seval, xspool_Check, xspool_Tracks, hr2]; (repeat (first | refine gcI ?_ | refine fun (_ : _ ≤ _) => ?_)); refine hK _ ?_; clear hK K)
  refine hK6 _ ?_
  refine Sm.seqK fun K7 hK7 => ?_
  refine Sm.seqA h00 mixed hΓ (by kernel_rfl) fun K8 hK8 => ?_
  simp only [rs]
  repeat (refine opsG fun K hK => ?_; simp only [z, seval]; (repeat (first | refine gcI ?_ | refine fun (_ : _ ≤ _) => ?_)); refine hK _ ?_; clear hK K)
  refine hK8 _ ?_
  refine Sm.condK (by rfl) fun Ka Kb ha hb => ?_
  simp only [wpCond, z, seval]
  refine ⟨fun h9 => ha ?_, fun h9 => hb ?_⟩
  · first | replace H := bif_t h9 H | replace H := bif_t2 h9 H (by simp only [List.length_append])
    refine Sm.seqA h00 mixed hΓ (by kernel_rfl) fun K10 hK10 => ?_
    simp only [rs]
    repeat (refine opsG fun K hK => ?_; simp only [z, seval]; (repeat (first | refine gcI ?_ | refine fun (_ : _ ≤ _) => ?_)); refine hK _ ?_; clear hK K)
    refine hK10 _ ?_
    refine Sm.ret ?_
    try simp only [seval, Exit.exit.injEq]
    obtain rfl := Option.some.inj H
    refine Ret.ofR [none, none] (.inr rfl) ?_
    simp only [z, seval]
    try omega
  first | replace H := bif_f h9 H | replace H := bif_f2 h9 H (by simp only [List.length_append])
  refine Sm.skip ?_
  refine hK7 _ ?_
  refine Sm.seqK fun K11 hK11 => ?_
  refine Sm.seqA h00 mixed hΓ (by kernel_rfl) fun K12 hK12 => ?_
  simp only [rs]
  repeat (refine opsG fun K hK => ?_; simp only [z, seval]; (repeat (first | refine gcI ?_ | refine fun (_ : _ ≤ _) => ?_)); refine hK _ ?_; clear hK K)
  refine hK12 _ ?_
  refine Sm.condK (by rfl) fun Ka Kb ha hb => ?_
  simp only [wpCond, z, seval]
  refine ⟨fun h13 => ha ?_, fun h13 => hb ?_⟩
  · first | replace H := bif_t h13 H | replace H := bif_t2 h13 H (by simp only [List.length_append])
    obtain ⟨r3, hr3, H⟩ := bind_some H
    refine Sm.seqQ h00 mixed hΓ [0, 1, 2, 3, 4, 5, 6, 7, 8, 9, 10] [(none, [32], []), (none, [32], []), (none, [32], []), (none, [32], []), (none, [], [559, 558, 557, 556, 555, 554, 553, 552, 551, 550, 549, 548, 547, 546, 545, 544]), (none, [544], []), (none, [], []), (none, [64, 544], [64]), (none, [80], [80]), (none, [], []), (none, [], [])] (by kernel_rfl) rfl fun K14 hK14 => ?_
    simp only [rs]
    iterate 11 (refine opsQ fun K hK => ?_; simp only [z, seval, xspool_Check, xspool_Tracks, xslices_Clone_f40, hr3]; (repeat (first | refine gcI ?_ | refine fun (_ : _ ≤ _) => ?_)); refine hK _ ?_; clear hK K)
    refine opsQ0 ?_
    refine hK14 _ ?_
    refine Sm.ret ?_
    try simp only [seval, Exit.exit.injEq]
    obtain rfl := Option.some.inj H
    refine Ret.ofR [none, none] (.inr rfl) ?_
    simp only [z, seval]
    try omega
  first | replace H := bif_f h13 H | replace H := bif_f2 h13 H (by simp only [List.length_append])
  refine Sm.skip ?_
  refine hK11 _ ?_
  obtain ⟨r4, hr4, H⟩ := bind_some H
  refine Sm.seqA h00 mixed hΓ (by kernel_rfl) fun K15 hK15 => ?_
  simp only [rs]
  repeat (refine opsG fun K hK => ?_; simp only [z, seval, xspool_Check, xspool_Tracks, xslices_Clone_f40, xextent_Take, hr4]; (repeat (first | refine gcI ?_ | refine fun (_ : _ ≤ _) => ?_)); refine hK _ ?_; clear hK K)
  refine hK15 _ ?_
  refine Sm.seqK fun K16 hK16 => ?_
  refine Sm.seqA h00 mixed hΓ (by kernel_rfl) fun K17 hK17 => ?_
  simp only [rs]
  repeat (refine opsG fun K hK => ?_; simp only [z, seval]; (repeat (first | refine gcI ?_ | refine fun (_ : _ ≤ _) => ?_)); refine hK _ ?_; clear hK K)
  refine hK17 _ ?_
  refine Sm.condK (by rfl) fun Ka Kb ha hb => ?_
  simp only [wpCond, z, seval]
  refine ⟨fun h18 => ha ?_, fun h18 => hb ?_⟩
  · first | replace H := bif_t h18 H | replace H := bif_t2 h18 H (by simp only [List.length_append])
    refine Sm.seqA h00 mixed hΓ (by kernel_rfl) fun K19 hK19 => ?_
    simp only [rs]
    repeat (refine opsG fun K hK => ?_; simp only [z, seval]; (repeat (first | refine gcI ?_ | refine fun (_ : _ ≤ _) => ?_)); refine hK _ ?_; clear hK K)
    refine hK19 _ ?_
    refine Sm.ret ?_
    try simp only [seval, Exit.exit.injEq]
    obtain rfl := Option.some.inj H
    refine Ret.ofR [none, none] (.inr rfl) ?_
    simp only [z, seval]
    try omega
  first | replace H := bif_f h18 H | replace H := bif_f2 h18 H (by simp only [List.length_append])
  refine Sm.skip ?_
  refine hK16 _ ?_
  refine Sm.seqA h00 mixed hΓ (by kernel_rfl) fun K20 hK20 => ?_
  simp only [rs]
  repeat (refine opsG fun K hK => ?_; simp only [z, seval]; (repeat (first | refine gcI ?_ | refine fun (_ : _ ≤ _) => ?_)); refine hK _ ?_; clear hK K)
  refine hK20 _ ?_
  refine Sm.ret ?_
  try simp only [seval, Exit.exit.injEq]
  obtain rfl := Option.some.inj H
  refine Ret.ofR [some 672, some 304] (.inr rfl) ?_
  simp only [z, seval]
  try omega

def cmp_isNaN_f86 (n : Nat) (x : Int) : Option Bool :=
  some (x != x)

def xcmp_isNaN_f86 (n : Nat) : Go.AE.Fn := mkFn (A := Int) (R := Bool) 86 [(false, [.int .i64])] false (fun xs => (cg (xs.getD 0 []) 0).toInt) (fun a => [[.int a]]) (fun a => cmp_isNaN_f86 n a) (fun r => [.c .bool (.bool r)]) (fun r => [])

theorem ccmp_isNaN_f86 (n : Nat) : Contract Try.prog (xcmp_isNaN_f86 n) := by
  have hΓ : ∀ g, g ∈ ([] : List Go.AE.Fn) → Contract Try.prog g := by simp
  refine contract_f (Try.f86.body.getD .skip) h00 Try.func86 rfl (by intro args w; exact Try.call86 args w) (by decide) (by intro _ r; exact ⟨rfl, by simp⟩) ?_
  rintro x r H
  try dsimp only at H
  unfold cmp_isNaN_f86 at H
  simp only [Try.f86, Option.getD]
  refine Sm.seqA h00 mixed hΓ (by kernel_rfl) fun K1 hK1 => ?_
  simp only [rs]
  repeat (refine opsG fun K hK => ?_; simp only [z, seval]; (repeat (first | refine gcI ?_ | refine fun (_ : _ ≤ _) => ?_)); refine hK _ ?_; clear hK K)
  refine hK1 _ ?_
  refine Sm.seqA h00 mixed hΓ (by kernel_rfl) fun K2 hK2 => ?_
  simp only [rs]
  repeat (refine opsG fun K hK => ?_; simp only [z, seval]; (repeat (first | refine gcI ?_ | refine fun (_ : _ ≤ _) => ?_)); refine hK _ ?_; clear hK K)
  refine hK2 _ ?_
  refine Sm.ret ?_
  try simp only [seval, Exit.exit.injEq]
  obtain rfl := Option.some.inj H
  refine Ret.ofR [] (.inr rfl) ?_
  simp only [z, seval]

def cmp_Compare_f80 (n : Nat) (x : Int) (y : Int) : Option Int :=
  (cmp_isNaN_f86 n x).bind fun r1 =>
  (cmp_isNaN_f86 n y).bind fun r2 =>
  bif r1 then
    bif r2 then
      some 0
    else
      some (-1)
  else
    bif r2 then
      some 1
    else
      bif (decide (x < y)) then
        some (-1)
      else
        bif (decide (x > y)) then
          some 1
        else
          some 0

def xcmp_Compare_f80 (n : Nat) : Go.AE.Fn := mkFn (A := Int × Int) (R := Int) 80 [(false, [.int .i64]), (false, [.int .i64])] false (fun xs => ((cg (xs.getD 0 []) 0).toInt, (cg (xs.getD 1 []) 0).toInt)) (fun a => [[.int a.1], [.int a.2]]) (fun a => cmp_Compare_f80 n a.1 a.2) (fun r => [.c (.int .i64) (.int r)]) (fun r => [])

theorem ccmp_Compare_f80 (n : Nat) : Contract Try.prog (xcmp_Compare_f80 n) := by
  have hΓ : ∀ g, g ∈ ([xcmp_isNaN_f86 n] : List Go.AE.Fn) → Contract Try.prog g := by
    intro g hg; simp only [List.mem_cons, List.not_mem_nil, or_false] at hg; subst hg; exact ccmp_isNaN_f86 n
  refine contract_f (Try.f80.body.getD .skip) h00 Try.func80 rfl (by intro args w; exact Try.call80 args w) (by decide) (by intro _ r; exact ⟨rfl, by simp⟩) ?_
  rintro ⟨x, y⟩ r H
  try dsimp only at H
  unfold cmp_Compare_f80 at H
  simp only [Try.f80, Option.getD]
  refine Sm.seqA h00 mixed hΓ (by kernel_rfl) fun K1 hK1 => ?_
  simp only [rs]
  repeat (refine opsG fun K hK => ?_; simp only [z, seval]; (repeat (first | refine gcI ?_ | refine fun (_ : _ ≤ _) => ?_)); refine hK _ ?_; clear hK K)
  refine hK1 _ ?_
  obtain ⟨r1, hr1, H⟩ := bind_some H
  refine Sm.seqA h00 mixed hΓ (by kernel_rfl) fun K2 hK2 => ?_
  simp only [rs]
  repeat (refine opsG fun K hK => ?_; simp only [z, seval, xcmp_isNaN_f86, hr1]; (repeat (first | refine gcI ?_ | refine fun (_ : _ ≤ _) => ?_)); refine hK _ ?_; clear hK K)
  refine hK2 _ ?_
  obtain ⟨r2, hr2, H⟩ := bind_some H
  refine Sm.seqA h00 mixed hΓ (by kernel_rfl) fun K3 hK3 => ?_
  simp only [rs]
  repeat (refine opsG fun K hK => ?_; simp only [z, seval, xcmp_isNaN_f86, hr2]; (repeat (first | refine gcI ?_ | refine fun (_ : _ ≤ _) => ?_)); refine hK _ ?_; clear hK K)
  refine hK3 _ ?_
  refine Sm.seqK fun K4 hK4 => ?_
  refine Sm.seqA h00 mixed hΓ (by kernel_rfl) fun K5 hK5 => ?_
  simp only [rs]
  repeat (refine opsG fun K hK => ?_; simp only [z, seval]; (repeat (first | refine gcI ?_ | refine fun (_ : _ ≤ _) => ?_)); refine hK _ ?_; clear hK K)
  refine hK5 _ ?_
  refine Sm.condK (by rfl) fun Ka Kb ha hb => ?_
  simp only [wpCond, z, seval]
  refine ⟨fun h6 => ha ?_, fun h6 => hb ?_⟩
  · first | replace H := bif_t h6 H | replace H := bif_t2 h6 H (by simp only [List.length_append])
    refine Sm.seqK fun K7 hK7 => ?_
    refine Sm.seqA h00 mixed hΓ (by kernel_rfl) fun K8 hK8 => ?_
    simp only [rs]
    repeat (refine opsG fun K hK => ?_; simp only [z, seval]; (repeat (first | refine gcI ?_ | refine fun (_ : _ ≤ _) => ?_)); refine hK _ ?_; clear hK K)
    refine hK8 _ ?_
    refine Sm.condK (by rfl) fun Ka Kb ha hb => ?_
    simp only [wpCond, z, seval]
    refine ⟨fun h9 => ha ?_, fun h9 => hb ?_⟩
    · first | replace H := bif_t h9 H | replace H := bif_t2 h9 H (by simp only [List.length_append])
      refine Sm.seqA h00 mixed hΓ (by kernel_rfl) fun K10 hK10 => ?_
      simp only [rs]
      repeat (refine opsG fun K hK => ?_; simp only [z, seval]; (repeat (first | refine gcI ?_ | refine fun (_ : _ ≤ _) => ?_)); refine hK _ ?_; clear hK K)
      refine hK10 _ ?_
      refine Sm.ret ?_
      try simp only [seval, Exit.exit.injEq]
      obtain rfl := Option.some.inj H
      refine Ret.ofR [] (.inr rfl) ?_
      simp only [z, seval]
    first | replace H := bif_f h9 H | replace H := bif_f2 h9 H (by simp only [List.length_append])
    refine Sm.skip ?_
    refine hK7 _ ?_
    refine Sm.seqA h00 mixed hΓ (by kernel_rfl) fun K11 hK11 => ?_
    simp only [rs]
    repeat (refine opsG fun K hK => ?_; simp only [z, seval]; (repeat (first | refine gcI ?_ | refine fun (_ : _ ≤ _) => ?_)); refine hK _ ?_; clear hK K)
    refine hK11 _ ?_
    refine Sm.ret ?_
    try simp only [seval, Exit.exit.injEq]
    obtain rfl := Option.some.inj H
    refine Ret.ofR [] (.inr rfl) ?_
    simp only [z, seval]
  first | replace H := bif_f h6 H | replace H := bif_f2 h6 H (by simp only [List.length_append])
  refine Sm.skip ?_
  refine hK4 _ ?_
  refine Sm.seqK fun K12 hK12 => ?_
  refine Sm.seqA h00 mixed hΓ (by kernel_rfl) fun K13 hK13 => ?_
  simp only [rs]
  repeat (refine opsG fun K hK => ?_; simp only [z, seval]; (repeat (first | refine gcI ?_ | refine fun (_ : _ ≤ _) => ?_)); refine hK _ ?_; clear hK K)
  refine hK13 _ ?_
  refine Sm.condK (by rfl) fun Ka Kb ha hb => ?_
  simp only [wpCond, z, seval]
  refine ⟨fun h14 => ha ?_, fun h14 => hb ?_⟩
  · first | replace H := bif_t h14 H | replace H := bif_t2 h14 H (by simp only [List.length_append])
    refine Sm.seqA h00 mixed hΓ (by kernel_rfl) fun K15 hK15 => ?_
    simp only [rs]
    repeat (refine opsG fun K hK => ?_; simp only [z, seval]; (repeat (first | refine gcI ?_ | refine fun (_ : _ ≤ _) => ?_)); refine hK _ ?_; clear hK K)
    refine hK15 _ ?_
    refine Sm.ret ?_
    try simp only [seval, Exit.exit.injEq]
    obtain rfl := Option.some.inj H
    refine Ret.ofR [] (.inr rfl) ?_
    simp only [z, seval]
  first | replace H := bif_f h14 H | replace H := bif_f2 h14 H (by simp only [List.length_append])
  refine Sm.skip ?_
  refine hK12 _ ?_
  refine Sm.seqK fun K16 hK16 => ?_
  refine Sm.seqA h00 mixed hΓ (by kernel_rfl) fun K17 hK17 => ?_
  simp only [rs]
  repeat (refine opsG fun K hK => ?_; simp only [z, seval]; (repeat (first | refine gcI ?_ | refine fun (_ : _ ≤ _) => ?_)); refine hK _ ?_; clear hK K)
  refine hK17 _ ?_
  refine Sm.condK (by rfl) fun Ka Kb ha hb => ?_
  simp only [wpCond, z, seval]
  refine ⟨fun h18 => ha ?_, fun h18 => hb ?_⟩
  · first | replace H := bif_t h18 H | replace H := bif_t2 h18 H (by simp only [List.length_append])
    refine Sm.seqA h00 mixed hΓ (by kernel_rfl) fun K19 hK19 => ?_
    simp only [rs]
    repeat (refine opsG fun K hK => ?_; simp only [z, seval]; (repeat (first | refine gcI ?_ | refine fun (_ : _ ≤ _) => ?_)); refine hK _ ?_; clear hK K)
    refine hK19 _ ?_
    refine Sm.ret ?_
    try simp only [seval, Exit.exit.injEq]
    obtain rfl := Option.some.inj H
    refine Ret.ofR [] (.inr rfl) ?_
    simp only [z, seval]
  first | replace H := bif_f h18 H | replace H := bif_f2 h18 H (by simp only [List.length_append])
  refine Sm.skip ?_
  refine hK16 _ ?_
  refine Sm.seqK fun K20 hK20 => ?_
  refine Sm.seqA h00 mixed hΓ (by kernel_rfl) fun K21 hK21 => ?_
  simp only [rs]
  repeat (refine opsG fun K hK => ?_; simp only [z, seval]; (repeat (first | refine gcI ?_ | refine fun (_ : _ ≤ _) => ?_)); refine hK _ ?_; clear hK K)
  refine hK21 _ ?_
  refine Sm.condK (by rfl) fun Ka Kb ha hb => ?_
  simp only [wpCond, z, seval]
  refine ⟨fun h22 => ha ?_, fun h22 => hb ?_⟩
  · first | replace H := bif_t h22 H | replace H := bif_t2 h22 H (by simp only [List.length_append])
    refine Sm.seqA h00 mixed hΓ (by kernel_rfl) fun K23 hK23 => ?_
    simp only [rs]
    repeat (refine opsG fun K hK => ?_; simp only [z, seval]; (repeat (first | refine gcI ?_ | refine fun (_ : _ ≤ _) => ?_)); refine hK _ ?_; clear hK K)
    refine hK23 _ ?_
    refine Sm.ret ?_
    try simp only [seval, Exit.exit.injEq]
    obtain rfl := Option.some.inj H
    refine Ret.ofR [] (.inr rfl) ?_
    simp only [z, seval]
  first | replace H := bif_f h22 H | replace H := bif_f2 h22 H (by simp only [List.length_append])
  refine Sm.skip ?_
  refine hK20 _ ?_
  refine Sm.seqA h00 mixed hΓ (by kernel_rfl) fun K24 hK24 => ?_
  simp only [rs]
  repeat (refine opsG fun K hK => ?_; simp only [z, seval]; (repeat (first | refine gcI ?_ | refine fun (_ : _ ≤ _) => ?_)); refine hK _ ?_; clear hK K)
  refine hK24 _ ?_
  refine Sm.ret ?_
  try simp only [seval, Exit.exit.injEq]
  obtain rfl := Option.some.inj H
  refine Ret.ofR [] (.inr rfl) ?_
  simp only [z, seval]

def extent_sorted_1 (n : Nat) (a : TExtent) (b : TExtent) : Option Int :=
  (cmp_Compare_f80 n a.At b.At).bind fun r1 =>
  some r1

def xextent_sorted_1 (n : Nat) : Go.AE.Fn := mkFn (A := TExtent × TExtent) (R := Int) 79 [(true, [.int .i64, .int .i64]), (true, [.int .i64, .int .i64])] false (fun xs => ((⟨(cg (xs.getD 0 []) 0).toInt, (cg (xs.getD 0 []) 1).toInt⟩ : TExtent), (⟨(cg (xs.getD 1 []) 0).toInt, (cg (xs.getD 1 []) 1).toInt⟩ : TExtent))) (fun a => [[.int a.1.At, .int a.1.Len], [.int a.2.At, .int a.2.Len]]) (fun a => extent_sorted_1 n a.1 a.2) (fun r => [.c (.int .i64) (.int r)]) (fun r => [])

theorem cextent_sorted_1 (n : Nat) : Contract Try.prog (xextent_sorted_1 n) := by
  have hΓ : ∀ g, g ∈ ([xcmp_Compare_f80 n] : List Go.AE.Fn) → Contract Try.prog g := by
    intro g hg; simp only [List.mem_cons, List.not_mem_nil, or_false] at hg; subst hg; exact ccmp_Compare_f80 n
  refine contract_f (Try.f79.body.getD .skip) h00 Try.func79 rfl (by intro args w; exact Try.call79 args w) (by decide) (by intro _ r; exact ⟨rfl, by simp⟩) ?_
  rintro ⟨a, b⟩ r H
  try dsimp only at H
  unfold extent_sorted_1 at H
  simp only [Try.f79, Option.getD]
  refine Sm.seqA h00 mixed hΓ (by kernel_rfl) fun K1 hK1 => ?_
  simp only [rs]
  repeat (refine opsG fun K hK => ?_; simp only [z, seval]; (repeat (first | refine gcI ?_ | refine fun (_ : _ ≤ _) => ?_)); refine hK _ ?_; clear hK K)
  refine hK1 _ ?_
  obtain ⟨r1, hr1, H⟩ := bind_some H
  refine Sm.seqA h00 mixed hΓ (by kernel_rfl) fun K2 hK2 => ?_
  simp only [rs]
  repeat (refine opsG fun K hK => ?_; simp only [z, seval, xcmp_Compare_f80, hr1]; (repeat (first | refine gcI ?_ | refine fun (_ : _ ≤ _) => ?_)); refine hK _ ?_; clear hK K)
  refine hK2 _ ?_
  refine Sm.ret ?_
  try simp only [seval, Exit.exit.injEq]
  obtain rfl := Option.some.inj H
  refine Ret.ofR [] (.inr rfl) ?_
  simp only [z, seval]

def slices_SortFunc_f78_c79 (n : Nat) (s : List TExtent) : Option (List TExtent) := sortG (fun x y => extent_sorted_1 n x y) s

theorem cslices_SortFunc_f78_c79 (n : Nat) (s : List TExtent) (r : List TExtent) (H : slices_SortFunc_f78_c79 n s = some r) : CallsM Try.prog 78 [.ref (.own 0 [.int .i64, .int .i64] 0 s.length), .ref (.fnv 79 [])] [.row 52 (List.map e_TExtent s)] [] [.row 52 (List.map e_TExtent r)] :=
  callsM_sortG lay78 ty52 Try.isAgg52 Try.sizeOf52 (by decide) (by decide) (by intro args w; exact Try.call79 args w) e_TExtent (fun _ => rfl) (fun x y => extent_sorted_1 n x y) (fun x y c h => raw79 _ _ _ _ _ (by
    simp only [extent_sorted_1, cmp_Compare_f80, cmp_isNaN_f86, Option.bind_some, bne_self_eq_false, cond_false, gt_iff_lt] at h
    by_cases h1 : x.At < y.At <;> by_cases h2 : y.At < x.At <;> simp [h1, h2] at h ⊢ <;> first | exact h.symm | omega)) s r H

def extent_sorted (n : Nat) (l : List TExtent) : Option (List TExtent) :=
  (slices_Clone_f40 n l).bind fun r1 =>
  (slices_SortFunc_f78_c79 n r1).bind fun r2 =>
  some (List.take r1.length r2)

def xextent_sorted (n : Nat) : Go.AE.Fn := mkFn (A := (List TExtent)) (R := (List TExtent)) 62 [(false, [.slice 52])] true (fun xs => ((cg (xs.getD 0 []) 0).toSl.map d_TExtent)) (fun a => [[.slice (List.map e_TExtent a)]]) (fun a => extent_sorted n a) (fun r => [.c (.slice 52) (.slice (List.map e_TExtent r))]) (fun r => [])

theorem cextent_sorted (n : Nat) : Contract Try.prog (xextent_sorted n) := by
  have hΓ : ∀ g, g ∈ ([xslices_Clone_f40 n] : List Go.AE.Fn) → Contract Try.prog g := by
    intro g hg; simp only [List.mem_cons, List.not_mem_nil, or_false] at hg; subst hg; exact cslices_Clone_f40 n
  refine contract_f (Try.f62.body.getD .skip) h00 Try.func62 rfl (by intro args w; exact Try.call62 args w) (by decide) (by intro h; cases h) ?_
  rintro l r H
  try dsimp only at H
  unfold extent_sorted at H
  simp only [Try.f62, Option.getD]
  refine Sm.seqA h00 mixed hΓ (by kernel_rfl) fun K1 hK1 => ?_
  simp only [rs]
  repeat (refine opsG fun K hK => ?_; simp only [z, seval]; (repeat (first | refine gcI ?_ | refine fun (_ : _ ≤ _) => ?_)); refine hK _ ?_; clear hK K)
  refine hK1 _ ?_
  obtain ⟨r1, hr1, H⟩ := bind_some H
  refine Sm.seqA h00 mixed hΓ (by kernel_rfl) fun K2 hK2 => ?_
  simp only [rs]
  repeat (refine opsG fun K hK => ?_; simp only [z, seval, xslices_Clone_f40, hr1]; (repeat (first | refine gcI ?_ | refine fun (_ : _ ≤ _) => ?_)); refine hK _ ?_; clear hK K)
  refine hK2 _ ?_
  refine Sm.seqX h00 mixed hΓ (by kernel_rfl) fun K3 hK3 => ?_
  simp only [rs]
  obtain ⟨r2, hr2, H⟩ := bind_some H
  (refine opsX fun K hK => ?_; simp only [z, seval]; (repeat (first | refine gcI ?_ | refine fun (_ : _ ≤ _) => ?_)); refine hK _ ?_; clear hK K)
  refine opsM (cslices_SortFunc_f78_c79 n _ r2 hr2) [80] [] (by simp only [z, seval, hr2]; try rfl) (by simp only [z, seval, hr2]) (by simp only [z, seval, hr2]) (by simp only [z, seval, hr2]) (by simp only [z, seval, hr2]) rfl (by simp only [z, seval, hr2]) rfl ?_
  refine hK3 _ ?_
  refine Sm.seqA h00 mixed hΓ (by kernel_rfl) fun K4 hK4 => ?_
  simp only [rs]
  repeat (refine opsG fun K hK => ?_; simp only [z, seval]; (repeat (first | refine gcI ?_ | refine fun (_ : _ ≤ _) => ?_)); refine hK _ ?_; clear hK K)
  refine hK4 _ ?_
  refine Sm.ret ?_
  try simp only [seval, Exit.exit.injEq]
  obtain rfl := Option.some.inj H
  refine Ret.ofR [] (.inr rfl) ?_
  simp only [z, seval]

abbrev extent_Valid_s2 : S := stB [] []

def extent_Valid_k2 (n : Nat) : Option Bool :=
  some true

abbrev extent_Valid_t3 (s : List TExtent) (i : Int) : S := stB [(5, .c (.slice 52) (.slice (List.map e_TExtent s))), (6, .c (.int .i64) (.int i))] []

def extent_Valid_b3 (n : Nat) (s : List TExtent) (i : Int) : Option ((Int) ⊕ (((Bool) ⊕ (Unit)))) :=
  bif (decide (i < (s.length : Int))) then
    gd ((0 ≤ i ∧ i < (s.length : Int)) ∧ (0 ≤ (IntKind.wrap .i64 (i - 1)) ∧ (IntKind.wrap .i64 (i - 1)) < (s.length : Int)) ∧ (0 ≤ (IntKind.wrap .i64 (i - 1)) ∧ (IntKind.wrap .i64 (i - 1)) < (s.length : Int))) <|
    bif (decide (((gt s (Int.toNat i)).At) < (IntKind.wrap .i64 (((gt s (Int.toNat (IntKind.wrap .i64 (i - 1)))).At) + ((gt s (Int.toNat (IntKind.wrap .i64 (i - 1)))).Len))))) then
      some (.inr (.inl false))
    else
      some (.inl (IntKind.wrap .i64 (i + 1)))
  else
    some (.inr (.inr ()))

abbrev extent_Valid_s1 (l : List TExtent) : S := stB [(0, .c (.slice 52) (.slice (List.map e_TExtent l)))] []

def extent_Valid_k1 (n : Nat) (l : List TExtent) : Option Bool :=
  (extent_sorted n l).bind fun r1 =>
  (loopF (fun (x : Int) => extent_Valid_b3 n r1 x) n 1).bind fun y9 =>
  match y9 with
  | .inl v =>
    some v
  | .inr v =>
    extent_Valid_k2 n

abbrev extent_Valid_t4 (l : List TExtent) (v11 : Int) (v12 : Int) : S := stB [(0, .c (.slice 52) (.slice (List.map e_TExtent l))), (10, .c (.slice 52) (.slice (List.map e_TExtent l))), (11, .c (.int .i64) (.int v11)), (12, .c (.int .i64) (.int v12))] []

def extent_Valid_b4 (n : Nat) (l : List TExtent) (v11 : Int) (v12 : Int) : Option ((Int) ⊕ (((Bool) ⊕ (Unit)))) :=
  bif (decide (v12 < v11)) then
    gd ((0 ≤ v12 ∧ v12 < (l.length : Int))) <|
    (extent_valid n (gt l (Int.toNat v12))).bind fun r2 =>
    bif (!r2) then
      some (.inr (.inl false))
    else
      some (.inl (IntKind.wrap .i64 (v12 + 1)))
  else
    some (.inr (.inr ()))

def extent_Valid (n : Nat) (l : List TExtent) : Option Bool :=
  bif (decide ((l.length : Int) > 512)) then
    some false
  else
    (loopF (fun (x : Int) => extent_Valid_b4 n l (l.length : Int) x) n 0).bind fun y21 =>
    match y21 with
    | .inl v =>
      some v
    | .inr v =>
      extent_Valid_k1 n l

def xextent_Valid (n : Nat) : Go.AE.Fn := mkFn (A := (List TExtent)) (R := Bool) 36 [(false, [.slice 52])] false (fun xs => ((cg (xs.getD 0 []) 0).toSl.map d_TExtent)) (fun a => [[.slice (List.map e_TExtent a)]]) (fun a => extent_Valid n a) (fun r => [.c .bool (.bool r)]) (fun r => [])

theorem cextent_Valid (n : Nat) : Contract Try.prog (xextent_Valid n) := by
  have hΓ : ∀ g, g ∈ ([xextent_valid n, xextent_sorted n] : List Go.AE.Fn) → Contract Try.prog g := by
    intro g hg; simp only [List.mem_cons, List.not_mem_nil, or_false] at hg; rcases hg with rfl | rfl; exact cextent_valid n; exact cextent_sorted n
  refine contract_f (Try.f36.body.getD .skip) h00 Try.func36 rfl (by intro args w; exact Try.call36 args w) (by decide) (by intro _ r; exact ⟨rfl, by simp⟩) ?_
  rintro l r H
  try dsimp only at H
  unfold extent_Valid at H
  simp only [Try.f36, Option.getD]
  refine Sm.seqA h00 mixed hΓ (by kernel_rfl) fun K1 hK1 => ?_
  simp only [rs]
  repeat (refine opsG fun K hK => ?_; simp only [z, seval]; (repeat (first | refine gcI ?_ | refine fun (_ : _ ≤ _) => ?_)); refine hK _ ?_; clear hK K)
  refine hK1 _ ?_
  refine Sm.seqK fun K2 hK2 => ?_
  refine Sm.seqA h00 mixed hΓ (by kernel_rfl) fun K3 hK3 => ?_
  simp only [rs]
  repeat (refine opsG fun K hK => ?_; simp only [z, seval]; (repeat (first | refine gcI ?_ | refine fun (_ : _ ≤ _) => ?_)); refine hK _ ?_; clear hK K)
  refine hK3 _ ?_
  refine Sm.condK (by rfl) fun Ka Kb ha hb => ?_
  simp only [wpCond, z, seval]
  refine ⟨fun h4 => ha ?_, fun h4 => hb ?_⟩
  · first | replace H := bif_t h4 H | replace H := bif_t2 h4 H (by simp only [List.length_append])
    refine Sm.seqA h00 mixed hΓ (by kernel_rfl) fun K5 hK5 => ?_
    simp only [rs]
    repeat (refine opsG fun K hK => ?_; simp only [z, seval]; (repeat (first | refine gcI ?_ | refine fun (_ : _ ≤ _) => ?_)); refine hK _ ?_; clear hK K)
    refine hK5 _ ?_
    refine Sm.ret ?_
    try simp only [seval, Exit.exit.injEq]
    obtain rfl := Option.some.inj H
    refine Ret.ofR [] (.inr rfl) ?_
    simp only [z, seval]
  first | replace H := bif_f h4 H | replace H := bif_f2 h4 H (by simp only [List.length_append])
  refine Sm.skip ?_
  refine hK2 _ ?_
  refine Sm.cut (fun (x : Unit) => extent_Valid_s1 l) (fun x => extent_Valid_k1 n l = some r) ?_ ?_
  · refine Sm.seqA h00 mixed hΓ (by kernel_rfl) fun K20 hK20 => ?_
    simp only [rs]
    repeat (refine opsG fun K hK => ?_; simp only [z, seval]; (repeat (first | refine gcI ?_ | refine fun (_ : _ ≤ _) => ?_)); refine hK _ ?_; clear hK K)
    refine hK20 _ ?_
    refine Sm.block ?_
    obtain ⟨y21, hy21, Ho21⟩ := bind_some H
    refine Sm.loopB (fun (x : Int) => extent_Valid_b4 n l (l.length : Int) x) (fun x => extent_Valid_t4 l (l.length : Int) x) hy21 ?_ ?_
    · exact weak_b [] rfl rfl rfl (by simp only [wk, z, seval]) (by simp only [wk, z, seval])
    rintro v12 z21 H
    try dsimp only at H
    unfold extent_Valid_b4 at H
    refine Sm.seqA h00 mixed hΓ (by kernel_rfl) fun K22 hK22 => ?_
    simp only [rs]
    repeat (refine opsG fun K hK => ?_; simp only [z, seval, extent_Valid_t4]; (repeat (first | refine gcI ?_ | refine fun (_ : _ ≤ _) => ?_)); refine hK _ ?_; clear hK K)
    refine hK22 _ ?_
    refine Sm.seqK fun K23 hK23 => ?_
    refine Sm.condK (by rfl) fun Ka Kb ha hb => ?_
    simp only [wpCond, z, seval, extent_Valid_t4]
    refine ⟨fun h24 => ha ?_, fun h24 => hb ?_⟩
    · first | replace H := bif_t h24 H | replace H := bif_t2 h24 H (by simp only [List.length_append])
      refine Sm.skip ?_
      refine hK23 _ ?_
      refine Sm.seqK fun K25 hK25 => ?_
      refine Sm.block ?_
      obtain ⟨hg30, H⟩ := gd_some H
      refine Sm.seqA h00 mixed hΓ (by kernel_rfl) fun K26 hK26 => ?_
      simp only [rs]
      repeat (refine opsG fun K hK => ?_; simp only [z, seval, extent_Valid_t4]; (repeat (first | refine gcI ?_ | refine fun (_ : _ ≤ _) => ?_)); refine hK _ ?_; clear hK K)
      refine hK26 _ ?_
      obtain ⟨r2, hr2, H⟩ := bind_some H
      refine Sm.seqA h00 mixed hΓ (by kernel_rfl) fun K27 hK27 => ?_
      simp only [rs]
      repeat (refine opsG fun K hK => ?_; simp only [z, seval, extent_Valid_t4, xextent_valid, hr2]; (repeat (first | refine gcI ?_ | refine fun (_ : _ ≤ _) => ?_)); refine hK _ ?_; clear hK K)
      refine hK27 _ ?_
      refine Sm.condK (by rfl) fun Ka Kb ha hb => ?_
      simp only [wpCond, z, seval, extent_Valid_t4]
      refine ⟨fun h28 => ha ?_, fun h28 => hb ?_⟩
      · first | replace H := bif_t h28 H | replace H := bif_t2 h28 H (by simp only [List.length_append])
        refine Sm.seqA h00 mixed hΓ (by kernel_rfl) fun K29 hK29 => ?_
        simp only [rs]
        repeat (refine opsG fun K hK => ?_; simp only [z, seval, extent_Valid_t4]; (repeat (first | refine gcI ?_ | refine fun (_ : _ ≤ _) => ?_)); refine hK _ ?_; clear hK K)
        refine hK29 _ ?_
        refine Sm.ret ?_
        try simp only [seval, Exit.exit.injEq]
        refine ⟨⟨_, (Option.some.inj H).symm⟩, fun hz => ?_⟩
        have hyy := Sum.inr.inj ((Option.some.inj H).trans hz)
        subst hyy
        have H := Ho21
        try dsimp only at H
        try simp only [seval, Exit.exit.injEq]
        obtain rfl := Option.some.inj H
        refine Ret.ofR [] (.inr rfl) ?_
        simp only [z, seval, extent_Valid_t4]
      first | replace H := bif_f h28 H | replace H := bif_f2 h28 H (by simp only [List.length_append])
      refine Sm.skip ?_
      refine hK25 _ ?_
      refine Sm.regA h00 mixed hΓ (by kernel_rfl) ?_
      simp only [rs]
      repeat (refine opsG fun K hK => ?_; simp only [z, seval, extent_Valid_t4]; (repeat (first | refine gcI ?_ | refine fun (_ : _ ≤ _) => ?_)); refine hK _ ?_; clear hK K)
      refine opsG0 ?_
      try simp only [seval, Exit.exit.injEq]
      refine ⟨_, (Option.some.inj H).symm, ?_⟩
      exact weak_b [] rfl rfl rfl (by simp only [wk, z, seval, extent_Valid_t4]) (by simp only [wk, z, seval, extent_Valid_t4])
    first | replace H := bif_f h24 H | replace H := bif_f2 h24 H (by simp only [List.length_append])
    refine Sm.exit ?_
    try simp only [seval, Exit.exit.injEq]
    refine ⟨⟨_, (Option.some.inj H).symm⟩, fun hz => ?_⟩
    have hyy := Sum.inr.inj ((Option.some.inj H).trans hz)
    subst hyy
    have H := Ho21
    try dsimp only at H
    try simp only [seval, Exit.exit.injEq]
    refine ⟨(), H, ?_⟩
    exact weak_b [] rfl rfl rfl (by simp only [wk, z, seval, extent_Valid_t4]) (by simp only [wk, z, seval, extent_Valid_t4])
  rintro ⟨⟩ H
  try dsimp only at H
  unfold extent_Valid_k1 at H
  obtain ⟨r1, hr1, H⟩ := bind_some H
  refine Sm.seqA h00 mixed hΓ (by kernel_rfl) fun K6 hK6 => ?_
  simp only [rs]
  repeat (refine opsG fun K hK => ?_; simp only [z, seval, extent_Valid_s1, xextent_valid, xextent_sorted, hr1]; (repeat (first | refine gcI ?_ | refine fun (_ : _ ≤ _) => ?_)); refine hK _ ?_; clear hK K)
  refine hK6 _ ?_
  refine Sm.cut (fun (x : Unit) => extent_Valid_s2) (fun x => extent_Valid_k2 n = some r) ?_ ?_
  · refine Sm.seqA h00 mixed hΓ (by kernel_rfl) fun K8 hK8 => ?_
    simp only [rs]
    repeat (refine opsG fun K hK => ?_; simp only [z, seval, extent_Valid_s1]; (repeat (first | refine gcI ?_ | refine fun (_ : _ ≤ _) => ?_)); refine hK _ ?_; clear hK K)
    refine hK8 _ ?_
    refine Sm.block ?_
    obtain ⟨y9, hy9, Ho9⟩ := bind_some H
    refine Sm.loopB (fun (x : Int) => extent_Valid_b3 n r1 x) (fun x => extent_Valid_t3 r1 x) hy9 ?_ ?_
    · exact weak_b [] rfl rfl rfl (by simp only [wk, z, seval, extent_Valid_s1]) (by simp only [wk, z, seval, extent_Valid_s1])
    rintro i z9 H
    try dsimp only at H
    unfold extent_Valid_b3 at H
    refine Sm.seqK fun K10 hK10 => ?_
    refine Sm.seqA h00 mixed hΓ (by kernel_rfl) fun K11 hK11 => ?_
    simp only [rs]
    repeat (refine opsG fun K hK => ?_; simp only [z, seval, extent_Valid_t3]; (repeat (first | refine gcI ?_ | refine fun (_ : _ ≤ _) => ?_)); refine hK _ ?_; clear hK K)
    refine hK11 _ ?_
    refine Sm.condK (by rfl) fun Ka Kb ha hb => ?_
    simp only [wpCond, z, seval, extent_Valid_t3]
    refine ⟨fun h12 => ha ?_, fun h12 => hb ?_⟩
    · first | replace H := bif_t h12 H | replace H := bif_t2 h12 H (by simp only [List.length_append])
      refine Sm.skip ?_
      refine hK10 _ ?_
      refine Sm.seqK fun K13 hK13 => ?_
      refine Sm.block ?_
      obtain ⟨⟨hg17, hg18, hg19⟩, H⟩ := gd_some H
      refine Sm.seqD h00 mixed hΓ (by kernel_rfl) fun K14 hK14 => ?_
      simp only [rs]
      repeat (refine opsH fun K hK => ?_; simp only [z, seval, extent_Valid_t3]; (repeat (first | refine gcI ?_ | refine fun (_ : _ ≤ _) => ?_)); refine hK _ ?_; clear hK K)
      refine hK14 _ ?_
      refine Sm.condK (by rfl) fun Ka Kb ha hb => ?_
      simp only [wpCond, z, seval, extent_Valid_t3]
      refine ⟨fun h15 => ha ?_, fun h15 => hb ?_⟩
      · first | replace H := bif_t h15 H | replace H := bif_t2 h15 H (by simp only [List.length_append])
        refine Sm.seqA h00 mixed hΓ (by kernel_rfl) fun K16 hK16 => ?_
        simp only [rs]
        repeat (refine opsG fun K hK => ?_; simp only [z, seval, extent_Valid_t3]; (repeat (first | refine gcI ?_ | refine fun (_ : _ ≤ _) => ?_)); refine hK _ ?_; clear hK K)
        refine hK16 _ ?_
        refine Sm.ret ?_
        try simp only [seval, Exit.exit.injEq]
        refine ⟨⟨_, (Option.some.inj H).symm⟩, fun hz => ?_⟩
        have hyy := Sum.inr.inj ((Option.some.inj H).trans hz)
        subst hyy
        have H := Ho9
        try dsimp only at H
        try simp only [seval, Exit.exit.injEq]
        obtain rfl := Option.some.inj H
        refine Ret.ofR [] (.inr rfl) ?_
        simp only [z, seval, extent_Valid_t3]
      first | replace H := bif_f h15 H | replace H := bif_f2 h15 H (by simp only [List.length_append])
      refine Sm.skip ?_
      refine hK13 _ ?_
      refine Sm.regA h00 mixed hΓ (by kernel_rfl) ?_
      simp only [rs]
      repeat (refine opsG fun K hK => ?_; simp only [z, seval, extent_Valid_t3]; (repeat (first | refine gcI ?_ | refine fun (_ : _ ≤ _) => ?_)); refine hK _ ?_; clear hK K)
      refine opsG0 ?_
      try simp only [seval, Exit.exit.injEq]
      refine ⟨_, (Option.some.inj H).symm, ?_⟩
      exact weak_b [] rfl rfl rfl (by simp only [wk, z, seval, extent_Valid_t3]) (by simp only [wk, z, seval, extent_Valid_t3])
    first | replace H := bif_f h12 H | replace H := bif_f2 h12 H (by simp only [List.length_append])
    refine Sm.exit ?_
    try simp only [seval, Exit.exit.injEq]
    refine ⟨⟨_, (Option.some.inj H).symm⟩, fun hz => ?_⟩
    have hyy := Sum.inr.inj ((Option.some.inj H).trans hz)
    subst hyy
    have H := Ho9
    try dsimp only at H
    try simp only [seval, Exit.exit.injEq]
    refine ⟨(), H, ?_⟩
    exact weak_b [] rfl rfl rfl (by simp only [wk, z, seval, extent_Valid_t3]) (by simp only [wk, z, seval, extent_Valid_t3])
  rintro ⟨⟩ H
  try dsimp only at H
  unfold extent_Valid_k2 at H
  refine Sm.seqA h00 mixed hΓ (by kernel_rfl) fun K7 hK7 => ?_
  simp only [rs]
  repeat (refine opsG fun K hK => ?_; simp only [z, seval, extent_Valid_s2]; (repeat (first | refine gcI ?_ | refine fun (_ : _ ≤ _) => ?_)); refine hK _ ?_; clear hK K)
  refine hK7 _ ?_
  refine Sm.ret ?_
  try simp only [seval, Exit.exit.injEq]
  obtain rfl := Option.some.inj H
  refine Ret.ofR [] (.inr rfl) ?_
  simp only [z, seval, extent_Valid_s2]

def spool_Drop_1_M1 (n : Nat) (x : TExtent) (p1 : Int) (p1_ : List TExtent) : Option Bool :=
  some (decide ((IntKind.wrap .i64 (x.At + x.Len)) > p1))

theorem cspool_Drop_1_M1 (n : Nat) (x : TExtent) (p1 : Int) (p1_ : List TExtent) (r : Bool) (H : spool_Drop_1_M1 n x p1 p1_ = some r) : CallsM Try.prog 38 [.dat (true, [.int .i64, .int .i64]) [.int x.At, .int x.Len], .ref (.box 0 0)] [.box [.c (.int .i64) (.int p1), .c (.slice 52) (.slice (List.map e_TExtent p1_))]] [.c .bool (.bool r)] [.box [.c (.int .i64) (.int p1), .c (.slice 52) (.slice (List.map e_TExtent p1_))]] := by
  have hΓ : ∀ g, g ∈ ([] : List Go.AE.Fn) → Contract Try.prog g := by simp
  refine callsM_of (Try.f38.body.getD .skip) h00 Try.func38 rfl (by intro args w; exact Try.call38 args w) (Nat.le_of_ble_eq_true rfl) (Nat.le_of_ble_eq_true rfl) ?_
  unfold spool_Drop_1_M1 at H
  simp only [Try.f38, Option.getD]
  refine Sm.seqA h00 mixed hΓ (by kernel_rfl) fun K1 hK1 => ?_
  simp only [rs]
  repeat (refine opsG fun K hK => ?_; simp only [z, seval]; (repeat (first | refine gcI ?_ | refine fun (_ : _ ≤ _) => ?_)); refine hK _ ?_; clear hK K)
  refine hK1 _ ?_
  refine Sm.seqA h00 mixed hΓ (by kernel_rfl) fun K2 hK2 => ?_
  simp only [rs]
  repeat (refine opsG fun K hK => ?_; simp only [z, seval]; (repeat (first | refine gcI ?_ | refine fun (_ : _ ≤ _) => ?_)); refine hK _ ?_; clear hK K)
  refine hK2 _ ?_
  refine Sm.ret ?_
  try simp only [seval, Exit.exit.injEq]
  obtain rfl := Option.some.inj H
  refine RetM.mk (.inr rfl) [some 0] rfl ?_
  simp only [z, seval]

abbrev slices_IndexFunc_f65_M1_s1 (f : Int) (f_ : List TExtent) : S := stB [] [(0, .box [.c (.int .i64) (.int f), .c (.slice 52) (.slice (List.map e_TExtent f_))])]

def slices_IndexFunc_f65_M1_k1 (n : Nat) (f : Int) (f_ : List TExtent) : Option Int :=
  some (-1)

abbrev slices_IndexFunc_f65_M1_t2 (f : Int) (f_ : List TExtent) (s : List TExtent) (v7 : Int) (v8 : Int) : S := stB [(0, .c (.slice 52) (.slice (List.map e_TExtent s))), (1, .fnv 38 [.box 0 0]), (7, .c (.int .i64) (.int v7)), (8, .c (.int .i64) (.int v8))] [(0, .box [.c (.int .i64) (.int f), .c (.slice 52) (.slice (List.map e_TExtent f_))])]

def slices_IndexFunc_f65_M1_b2 (n : Nat) (f : Int) (f_ : List TExtent) (s : List TExtent) (v7 : Int) (v8 : Int) : Option ((Int) ⊕ (((Int) ⊕ (Unit)))) :=
  bif (decide (v8 < v7)) then
    gd ((0 ≤ v8 ∧ v8 < (s.length : Int))) <|
    (spool_Drop_1_M1 n (gt s (Int.toNat v8)) f f_).bind fun r1 =>
    bif r1 then
      some (.inr (.inl v8))
    else
      some (.inl (IntKind.wrap .i64 (v8 + 1)))
  else
    some (.inr (.inr ()))

def slices_IndexFunc_f65_M1 (n : Nat) (s : List TExtent) (f : Int) (f_ : List TExtent) : Option Int :=
  (loopF (fun (x : Int) => slices_IndexFunc_f65_M1_b2 n f f_ s (s.length : Int) x) n 0).bind fun y4 =>
  match y4 with
  | .inl v =>
    some v
  | .inr v =>
    slices_IndexFunc_f65_M1_k1 n f f_

theorem cslices_IndexFunc_f65_M1 (n : Nat) (s : List TExtent) (f : Int) (f_ : List TExtent) (r : Int) (H : slices_IndexFunc_f65_M1 n s f f_ = some r) : CallsM Try.prog 65 [.dat (false, [.slice 52]) [.slice (List.map e_TExtent s)], .ref (.fnv 38 [.box 0 0])] [.box [.c (.int .i64) (.int f), .c (.slice 52) (.slice (List.map e_TExtent f_))]] [.c (.int .i64) (.int r)] [.box [.c (.int .i64) (.int f), .c (.slice 52) (.slice (List.map e_TExtent f_))]] := by
  have hΓ : ∀ g, g ∈ ([] : List Go.AE.Fn) → Contract Try.prog g := by simp
  refine callsM_of (Try.f65.body.getD .skip) h00 Try.func65 rfl (by intro args w; exact Try.call65 args w) (Nat.le_of_ble_eq_true rfl) (Nat.le_of_ble_eq_true rfl) ?_
  unfold slices_IndexFunc_f65_M1 at H
  simp only [Try.f65, Option.getD]
  refine Sm.seqA h00 mixed hΓ (by kernel_rfl) fun K1 hK1 => ?_
  simp only [rs]
  repeat (refine opsG fun K hK => ?_; simp only [z, seval]; (repeat (first | refine gcI ?_ | refine fun (_ : _ ≤ _) => ?_)); refine hK _ ?_; clear hK K)
  refine hK1 _ ?_
  refine Sm.cut (fun (x : Unit) => slices_IndexFunc_f65_M1_s1 f f_) (fun x => slices_IndexFunc_f65_M1_k1 n f f_ = some r) ?_ ?_
  · refine Sm.seqA h00 mixed hΓ (by kernel_rfl) fun K3 hK3 => ?_
    simp only [rs]
    repeat (refine opsG fun K hK => ?_; simp only [z, seval]; (repeat (first | refine gcI ?_ | refine fun (_ : _ ≤ _) => ?_)); refine hK _ ?_; clear hK K)
    refine hK3 _ ?_
    refine Sm.block ?_
    obtain ⟨y4, hy4, Ho4⟩ := bind_some H
    refine Sm.loopB (fun (x : Int) => slices_IndexFunc_f65_M1_b2 n f f_ s (s.length : Int) x) (fun x => slices_IndexFunc_f65_M1_t2 f f_ s (s.length : Int) x) hy4 ?_ ?_
    · exact weak_b [some 0] rfl rfl rfl (by simp only [wk, z, seval]) (by simp only [wk, z, seval])
    rintro v8 z4 H
    try dsimp only at H
    unfold slices_IndexFunc_f65_M1_b2 at H
    refine Sm.seqA h00 mixed hΓ (by kernel_rfl) fun K5 hK5 => ?_
    simp only [rs]
    repeat (refine opsG fun K hK => ?_; simp only [z, seval, slices_IndexFunc_f65_M1_t2]; (repeat (first | refine gcI ?_ | refine fun (_ : _ ≤ _) => ?_)); refine hK _ ?_; clear hK K)
    refine hK5 _ ?_
    refine Sm.seqK fun K6 hK6 => ?_
    refine Sm.condK (by rfl) fun Ka Kb ha hb => ?_
    simp only [wpCond, z, seval, slices_IndexFunc_f65_M1_t2]
    refine ⟨fun h7 => ha ?_, fun h7 => hb ?_⟩
    · first | replace H := bif_t h7 H | replace H := bif_t2 h7 H (by simp only [List.length_append])
      refine Sm.skip ?_
      refine hK6 _ ?_
      refine Sm.seqK fun K8 hK8 => ?_
      refine Sm.block ?_
      refine Sm.seqA h00 mixed hΓ (by kernel_rfl) fun K9 hK9 => ?_
      simp only [rs]
      repeat (refine opsG fun K hK => ?_; simp only [z, seval, slices_IndexFunc_f65_M1_t2]; (repeat (first | refine gcI ?_ | refine fun (_ : _ ≤ _) => ?_)); refine hK _ ?_; clear hK K)
      refine hK9 _ ?_
      refine Sm.seqX h00 mixed hΓ (by kernel_rfl) fun K10 hK10 => ?_
      simp only [rs]
      obtain ⟨hg11, H⟩ := gd_some H
      obtain ⟨r1, hr1, H⟩ := bind_some H
      iterate 5 (refine opsX fun K hK => ?_; simp only [z, seval, slices_IndexFunc_f65_M1_t2]; (repeat (first | refine gcI ?_ | refine fun (_ : _ ≤ _) => ?_)); refine hK _ ?_; clear hK K)
      refine opsM (cspool_Drop_1_M1 n _ _ _ r1 hr1) [0] [] (by simp only [z, seval, slices_IndexFunc_f65_M1_t2, hr1]; try rfl) (by simp only [z, seval, slices_IndexFunc_f65_M1_t2, hr1]) (by simp only [z, seval, slices_IndexFunc_f65_M1_t2, hr1]) (by simp only [z, seval, slices_IndexFunc_f65_M1_t2, hr1]) (by simp only [z, seval, slices_IndexFunc_f65_M1_t2, hr1]) rfl (by simp only [z, seval, slices_IndexFunc_f65_M1_t2, hr1]) rfl ?_
      refine hK10 _ ?_
      refine Sm.condK (by rfl) fun Ka Kb ha hb => ?_
      simp only [wpCond, z, seval, slices_IndexFunc_f65_M1_t2]
      refine ⟨fun h12 => ha ?_, fun h12 => hb ?_⟩
      · first | replace H := bif_t h12 H | replace H := bif_t2 h12 H (by simp only [List.length_append])
        refine Sm.seqA h00 mixed hΓ (by kernel_rfl) fun K13 hK13 => ?_
        simp only [rs]
        repeat (refine opsG fun K hK => ?_; simp only [z, seval, slices_IndexFunc_f65_M1_t2]; (repeat (first | refine gcI ?_ | refine fun (_ : _ ≤ _) => ?_)); refine hK _ ?_; clear hK K)
        refine hK13 _ ?_
        refine Sm.ret ?_
        try simp only [seval, Exit.exit.injEq]
        refine ⟨⟨_, (Option.some.inj H).symm⟩, fun hz => ?_⟩
        have hyy := Sum.inr.inj ((Option.some.inj H).trans hz)
        subst hyy
        have H := Ho4
        try dsimp only at H
        try simp only [seval, Exit.exit.injEq]
        obtain rfl := Option.some.inj H
        refine RetM.mk (.inr rfl) [some 0] rfl ?_
        simp only [z, seval, slices_IndexFunc_f65_M1_t2]
      first | replace H := bif_f h12 H | replace H := bif_f2 h12 H (by simp only [List.length_append])
      refine Sm.skip ?_
      refine hK8 _ ?_
      refine Sm.regA h00 mixed hΓ (by kernel_rfl) ?_
      simp only [rs]
      repeat (refine opsG fun K hK => ?_; simp only [z, seval, slices_IndexFunc_f65_M1_t2]; (repeat (first | refine gcI ?_ | refine fun (_ : _ ≤ _) => ?_)); refine hK _ ?_; clear hK K)
      refine opsG0 ?_
      try simp only [seval, Exit.exit.injEq]
      refine ⟨_, (Option.some.inj H).symm, ?_⟩
      exact weak_b [some 0] rfl rfl rfl (by simp only [wk, z, seval, slices_IndexFunc_f65_M1_t2]) (by simp only [wk, z, seval, slices_IndexFunc_f65_M1_t2])
    first | replace H := bif_f h7 H | replace H := bif_f2 h7 H (by simp only [List.length_append])
    refine Sm.exit ?_
    try simp only [seval, Exit.exit.injEq]
    refine ⟨⟨_, (Option.some.inj H).symm⟩, fun hz => ?_⟩
    have hyy := Sum.inr.inj ((Option.some.inj H).trans hz)
    subst hyy
    have H := Ho4
    try dsimp only at H
    try simp only [seval, Exit.exit.injEq]
    refine ⟨(), H, ?_⟩
    exact weak_b [some 0] rfl rfl rfl (by simp only [wk, z, seval, slices_IndexFunc_f65_M1_t2]) (by simp only [wk, z, seval, slices_IndexFunc_f65_M1_t2])
  rintro ⟨⟩ H
  try dsimp only at H
  unfold slices_IndexFunc_f65_M1_k1 at H
  refine Sm.seqA h00 mixed hΓ (by kernel_rfl) fun K2 hK2 => ?_
  simp only [rs]
  repeat (refine opsG fun K hK => ?_; simp only [z, seval, slices_IndexFunc_f65_M1_s1]; (repeat (first | refine gcI ?_ | refine fun (_ : _ ≤ _) => ?_)); refine hK _ ?_; clear hK K)
  refine hK2 _ ?_
  refine Sm.ret ?_
  try simp only [seval, Exit.exit.injEq]
  obtain rfl := Option.some.inj H
  refine RetM.mk (.inr rfl) [some 0] rfl ?_
  simp only [z, seval, slices_IndexFunc_f65_M1_s1]

def slices_ContainsFunc_f37_M1 (n : Nat) (s : List TExtent) (f : Int) (f_ : List TExtent) : Option Bool :=
  (slices_IndexFunc_f65_M1 n s f f_).bind fun r1 =>
  some (decide (r1 ≥ 0))

theorem cslices_ContainsFunc_f37_M1 (n : Nat) (s : List TExtent) (f : Int) (f_ : List TExtent) (r : Bool) (H : slices_ContainsFunc_f37_M1 n s f f_ = some r) : CallsM Try.prog 37 [.dat (false, [.slice 52]) [.slice (List.map e_TExtent s)], .ref (.fnv 38 [.box 0 0])] [.box [.c (.int .i64) (.int f), .c (.slice 52) (.slice (List.map e_TExtent f_))]] [.c .bool (.bool r)] [.box [.c (.int .i64) (.int f), .c (.slice 52) (.slice (List.map e_TExtent f_))]] := by
  have hΓ : ∀ g, g ∈ ([] : List Go.AE.Fn) → Contract Try.prog g := by simp
  refine callsM_of (Try.f37.body.getD .skip) h00 Try.func37 rfl (by intro args w; exact Try.call37 args w) (Nat.le_of_ble_eq_true rfl) (Nat.le_of_ble_eq_true rfl) ?_
  unfold slices_ContainsFunc_f37_M1 at H
  simp only [Try.f37, Option.getD]
  refine Sm.seqA h00 mixed hΓ (by kernel_rfl) fun K1 hK1 => ?_
  simp only [rs]
  repeat (refine opsG fun K hK => ?_; simp only [z, seval]; (repeat (first | refine gcI ?_ | refine fun (_ : _ ≤ _) => ?_)); refine hK _ ?_; clear hK K)
  refine hK1 _ ?_
  refine Sm.seqX h00 mixed hΓ (by kernel_rfl) fun K2 hK2 => ?_
  simp only [rs]
  obtain ⟨r1, hr1, H⟩ := bind_some H
  iterate 2 (refine opsX fun K hK => ?_; simp only [z, seval]; (repeat (first | refine gcI ?_ | refine fun (_ : _ ≤ _) => ?_)); refine hK _ ?_; clear hK K)
  refine opsM (cslices_IndexFunc_f65_M1 n _ _ _ r1 hr1) [0] [] (by simp only [z, seval, hr1]; try rfl) (by simp only [z, seval, hr1]) (by simp only [z, seval, hr1]) (by simp only [z, seval, hr1]) (by simp only [z, seval, hr1]) rfl (by simp only [z, seval, hr1]) rfl ?_
  iterate 2 (refine opsX fun K hK => ?_; simp only [z, seval, hr1]; (repeat (first | refine gcI ?_ | refine fun (_ : _ ≤ _) => ?_)); refine hK _ ?_; clear hK K)
  refine hK2 _ ?_
  refine Sm.ret ?_
  try simp only [seval, Exit.exit.injEq]
  obtain rfl := Option.some.inj H
  refine RetM.mk (.inr rfl) [some 0] rfl ?_
  simp only [z, seval]

def extent_Overlap (n : Nat) (a : List TExtent) (b : List TExtent) : Option Bool :=
  (extent_Valid n a).bind fun r1 =>
  gd ((r1 = true → (extent_Valid n b).isSome = true)) <|
  bif (if r1 = true then ((extent_Valid n b).getD default) else false) then
    gd ((if r1 = true then ((extent_Valid n b).getD default) else false) = true) <|
    (slices_Clone_f40 n a).bind fun r2 =>
    gd ((r2.length + b.length) ≤ 2147483648) <|
    (extent_Valid n (r2 ++ b)).bind fun r3 =>
    some (!r3)
  else
    some false

def xextent_Overlap (n : Nat) : Go.AE.Fn := mkFn (A := (List TExtent) × (List TExtent)) (R := Bool) 66 [(false, [.slice 52]), (false, [.slice 52])] false (fun xs => (((cg (xs.getD 0 []) 0).toSl.map d_TExtent), ((cg (xs.getD 1 []) 0).toSl.map d_TExtent))) (fun a => [[.slice (List.map e_TExtent a.1)], [.slice (List.map e_TExtent a.2)]]) (fun a => extent_Overlap n a.1 a.2) (fun r => [.c .bool (.bool r)]) (fun r => [])

theorem cextent_Overlap (n : Nat) : Contract Try.prog (xextent_Overlap n) := by
  have hΓ : ∀ g, g ∈ ([xextent_Valid n, xslices_Clone_f40 n] : List Go.AE.Fn) → Contract Try.prog g := by
    intro g hg; simp only [List.mem_cons, List.not_mem_nil, or_false] at hg; rcases hg with rfl | rfl; exact cextent_Valid n; exact cslices_Clone_f40 n
  refine contract_f (Try.f66.body.getD .skip) h00 Try.func66 rfl (by intro args w; exact Try.call66 args w) (by decide) (by intro _ r; exact ⟨rfl, by simp⟩) ?_
  rintro ⟨a, b⟩ r H
  try dsimp only at H
  unfold extent_Overlap at H
  simp only [Try.f66, Option.getD]
  refine Sm.seqA h00 mixed hΓ (by kernel_rfl) fun K1 hK1 => ?_
  simp only [rs]
  repeat (refine opsG fun K hK => ?_; simp only [z, seval]; (repeat (first | refine gcI ?_ | refine fun (_ : _ ≤ _) => ?_)); refine hK _ ?_; clear hK K)
  refine hK1 _ ?_
  refine Sm.seqX h00 mixed hΓ (by kernel_rfl) fun K2 hK2 => ?_
  simp only [rs]
  obtain ⟨r1, hr1, H⟩ := bind_some H
  obtain ⟨hg3, H⟩ := gd_some H
  (refine opsX fun K hK => ?_; simp only [z, seval, xextent_Valid, xslices_Clone_f40]; (repeat (first | refine gcI ?_ | refine fun (_ : _ ≤ _) => ?_)); refine hK _ ?_; clear hK K)
  iterate 7 (refine opsX fun K hK => ?_; simp only [z, seval, xextent_Valid, xslices_Clone_f40, hr1]; (repeat (first | refine gcI ?_ | refine fun (_ : _ ≤ _) => ?_)); refine hK _ ?_; clear hK K)
  refine bif_cases H (fun hs4 H => ?_) (fun hs4 H => ?_)
  · try simp only [hs4, Bool.not_false, Bool.not_true, Bool.false_eq_true, true_implies, false_implies, forall_const] at hg3
    obtain ⟨hg5, H⟩ := gd_some H
    obtain ⟨r2, hr2, H⟩ := bind_some H
    obtain ⟨hg6, H⟩ := gd_some H
    obtain ⟨r3, hr3, H⟩ := bind_some H
    refine opsTG rfl (by simp only [z, seval, xextent_Valid, xslices_Clone_f40, hr1, hs4, hr2]) fun K hK => ?_; simp only [z, seval, xextent_Valid, xslices_Clone_f40, hr1, hs4, hr2]; (repeat (first | refine gcI ?_ | refine fun (_ : _ ≤ _) => ?_)); refine hK _ ?_; clear hK K
    refine opsTG rfl (by simp only [z, seval, xextent_Valid, xslices_Clone_f40, hr1, hs4, hr2]) fun K hK => ?_; simp only [z, seval, xextent_Valid, xslices_Clone_f40, hr1, hs4, hr2]; (repeat (first | refine gcI ?_ | refine fun (_ : _ ≤ _) => ?_)); refine hK _ ?_; clear hK K
    refine opsTG rfl (by simp only [z, seval, xextent_Valid, xslices_Clone_f40, hr1, hs4, hr2]) fun K hK => ?_; simp only [z, seval, xextent_Valid, xslices_Clone_f40, hr1, hs4, hr2]; (repeat (first | refine gcI ?_ | refine fun (_ : _ ≤ _) => ?_)); refine hK _ ?_; clear hK K
    refine opsTG rfl (by simp only [z, seval, xextent_Valid, xslices_Clone_f40, hr1, hs4, hr2, hr3]) fun K hK => ?_; simp only [z, seval, xextent_Valid, xslices_Clone_f40, hr1, hs4, hr2, hr3]; (repeat (first | refine gcI ?_ | refine fun (_ : _ ≤ _) => ?_)); refine hK _ ?_; clear hK K
    refine opsTG rfl (by simp only [z, seval, xextent_Valid, xslices_Clone_f40, hr1, hs4, hr2, hr3]) fun K hK => ?_; simp only [z, seval, xextent_Valid, xslices_Clone_f40, hr1, hs4, hr2, hr3]; (repeat (first | refine gcI ?_ | refine fun (_ : _ ≤ _) => ?_)); refine hK _ ?_; clear hK K
    refine opsP fun K hK => ?_; simp only [z, seval, xextent_Valid, xslices_Clone_f40, hr1, hs4, hr2, hr3]; (repeat (first | refine gcI ?_ | refine fun (_ : _ ≤ _) => ?_)); refine Or.inl ?_; (repeat (first | refine gcI ?_ | refine fun (_ : _ ≤ _) => ?_)); refine hK _ ?_; clear hK K
    (refine opsX fun K hK => ?_; simp only [z, seval, xextent_Valid, xslices_Clone_f40, hr1, hs4, hr2, hr3]; (repeat (first | refine gcI ?_ | refine fun (_ : _ ≤ _) => ?_)); refine hK _ ?_; clear hK K)
    refine hK2 _ ?_
    refine Sm.ret ?_
    try simp only [seval, Exit.exit.injEq]
    obtain rfl := Option.some.inj H
    refine Ret.ofR [] (.inr rfl) ?_
    simp only [z, seval]
  try simp only [hs4, Bool.not_false, Bool.not_true, Bool.false_eq_true, true_implies, false_implies, forall_const] at hg3
  refine opsF rfl (by simp only [z, seval, xextent_Valid, xslices_Clone_f40, hr1, hs4]) ?_
  refine opsF rfl (by simp only [z, seval, xextent_Valid, xslices_Clone_f40, hr1, hs4]) ?_
  refine opsF rfl (by simp only [z, seval, xextent_Valid, xslices_Clone_f40, hr1, hs4]) ?_
  refine opsF rfl (by simp only [z, seval, xextent_Valid, xslices_Clone_f40, hr1, hs4]) ?_
  refine opsF rfl (by simp only [z, seval, xextent_Valid, xslices_Clone_f40, hr1, hs4]) ?_
  refine opsP fun K hK => ?_; simp only [z, seval, xextent_Valid, xslices_Clone_f40, hr1, hs4]; (repeat (first | refine gcI ?_ | refine fun (_ : _ ≤ _) => ?_)); refine Or.inr ?_; (repeat (first | refine gcI ?_ | refine fun (_ : _ ≤ _) => ?_)); refine hK _ ?_; clear hK K
  (refine opsX fun K hK => ?_; simp only [z, seval, xextent_Valid, xslices_Clone_f40, hr1, hs4]; (repeat (first | refine gcI ?_ | refine fun (_ : _ ≤ _) => ?_)); refine hK _ ?_; clear hK K)
  refine hK2 _ ?_
  refine Sm.ret ?_
  try simp only [seval, Exit.exit.injEq]
  obtain rfl := Option.some.inj H
  refine Ret.ofR [] (.inr rfl) ?_
  simp only [z, seval]

abbrev extent_Give_s1 (out : List TExtent) : S := stB [(6, .own 9000 [.int .i64, .int .i64] 0 out.length)] [(9000, .row 52 (List.map e_TExtent out))]

def extent_Give_k1 (n : Nat) (out : List TExtent) : Option ((List TExtent) × Int) :=
  some (out, 0)

abbrev extent_Give_s3 (out_2 : List TExtent) (v27 : List TExtent) (v28 : Int) (v29 : Int) : S := stB [(6, .own 9003 [.int .i64, .int .i64] 0 out_2.length), (27, .c (.slice 52) (.slice (List.map e_TExtent v27))), (28, .c (.int .i64) (.int v28)), (29, .c (.int .i64) (.int v29))] [(9003, .row 52 (List.map e_TExtent out_2))]

def extent_Give_k3 (n : Nat) (out_2 : List TExtent) (v27 : List TExtent) (v28 : Int) (v29 : Int) : Option (((List TExtent) × Int) ⊕ (((List TExtent)))) :=
  some (.inl (out_2, (IntKind.wrap .i64 (v29 + 1))))

abbrev extent_Give_t2 (v27 : List TExtent) (v28 : Int) (out_1 : List TExtent) (v29 : Int) : S := stB [(6, .own 9002 [.int .i64, .int .i64] 0 out_1.length), (27, .c (.slice 52) (.slice (List.map e_TExtent v27))), (28, .c (.int .i64) (.int v28)), (29, .c (.int .i64) (.int v29))] [(9002, .row 52 (List.map e_TExtent out_1))]

def extent_Give_b2 (n : Nat) (v27 : List TExtent) (v28 : Int) (out_1 : List TExtent) (v29 : Int) : Option (((List TExtent) × Int) ⊕ (((List TExtent)))) :=
  bif (decide (v29 < v28)) then
    gd ((0 ≤ v29 ∧ v29 < (v27.length : Int))) <|
    gd (((decide (((out_1.length : Nat) : Int) > 0)) = true → (0 ≤ (IntKind.wrap .i64 (((out_1.length : Nat) : Int) - 1)) ∧ (IntKind.wrap .i64 (((out_1.length : Nat) : Int) - 1)) < (out_1.length : Int))) ∧ ((decide (((out_1.length : Nat) : Int) > 0)) = true → (Int.toNat (IntKind.wrap .i64 (((out_1.length : Nat) : Int) - 1))) < out_1.length) ∧ ((decide (((out_1.length : Nat) : Int) > 0)) = true → (0 ≤ (IntKind.wrap .i64 (((out_1.length : Nat) : Int) - 1)) ∧ (IntKind.wrap .i64 (((out_1.length : Nat) : Int) - 1)) < (out_1.length : Int))) ∧ ((decide (((out_1.length : Nat) : Int) > 0)) = true → (Int.toNat (IntKind.wrap .i64 (((out_1.length : Nat) : Int) - 1))) < out_1.length)) <|
    bif (if (decide (((out_1.length : Nat) : Int) > 0)) = true then ((IntKind.wrap .i64 (((gt out_1 (Int.toNat (IntKind.wrap .i64 (((out_1.length : Nat) : Int) - 1)))).At) + ((gt out_1 (Int.toNat (IntKind.wrap .i64 (((out_1.length : Nat) : Int) - 1)))).Len))) == ((gt v27 (Int.toNat v29)).At)) else false) then
      gd ((0 ≤ (IntKind.wrap .i64 (((out_1.length : Nat) : Int) - 1)) ∧ (IntKind.wrap .i64 (((out_1.length : Nat) : Int) - 1)) < (out_1.length : Int)) ∧ (Int.toNat (IntKind.wrap .i64 (((out_1.length : Nat) : Int) - 1))) < out_1.length ∧ (0 ≤ (IntKind.wrap .i64 (((out_1.length : Nat) : Int) - 1)) ∧ (IntKind.wrap .i64 (((out_1.length : Nat) : Int) - 1)) < (out_1.length : Int)) ∧ (Int.toNat (IntKind.wrap .i64 (((out_1.length : Nat) : Int) - 1))) < out_1.length) <|
      extent_Give_k3 n (List.set out_1 (Int.toNat (IntKind.wrap .i64 (((out_1.length : Nat) : Int) - 1))) (⟨(gt out_1 (Int.toNat (IntKind.wrap .i64 (((out_1.length : Nat) : Int) - 1)))).At, (IntKind.wrap .i64 (((gt out_1 (Int.toNat (IntKind.wrap .i64 (((out_1.length : Nat) : Int) - 1)))).Len) + ((gt v27 (Int.toNat v29)).Len)))⟩ : TExtent)) v27 v28 v29
    else
      gd ((out_1.length + 1) ≤ 2147483648) <|
      extent_Give_k3 n (out_1 ++ [(gt v27 (Int.toNat v29))]) v27 v28 v29
  else
    some (.inr out_1)

def extent_Give (n : Nat) (free : List TExtent) (back : List TExtent) : Option ((List TExtent) × Int) :=
  (extent_Check n free 512).bind fun r1 =>
  gd (((!(!r1)) = true → (extent_Valid n back).isSome = true) ∧ ((!(if (!r1) = true then true else (!((extent_Valid n back).getD default)))) = true → (extent_Overlap n free back).isSome = true)) <|
  bif (if (if (!r1) = true then true else (!((extent_Valid n back).getD default))) = true then true else ((extent_Overlap n free back).getD default)) then
    some ([], 1)
  else
    (slices_Clone_f40 n free).bind fun r2 =>
    gd ((r2.length + back.length) ≤ 2147483648) <|
    (extent_sorted n (r2 ++ back)).bind fun r3 =>
    (loopF (fun (x : (List TExtent) × Int) => extent_Give_b2 n r3 (r3.length : Int) x.1 x.2) n ([], 0)).bind fun y9 =>
    extent_Give_k1 n y9

def xextent_Give (n : Nat) : Go.AE.Fn := mkFn (A := (List TExtent) × (List TExtent)) (R := (List TExtent) × Int) 39 [(false, [.slice 52]), (false, [.slice 52])] false (fun xs => (((cg (xs.getD 0 []) 0).toSl.map d_TExtent), ((cg (xs.getD 1 []) 0).toSl.map d_TExtent))) (fun a => [[.slice (List.map e_TExtent a.1)], [.slice (List.map e_TExtent a.2)]]) (fun a => extent_Give n a.1 a.2) (fun r => [.own 0 [.int .i64, .int .i64] 0 r.1.length, .c (.int .i64) (.int r.2)]) (fun r => [.row 52 (List.map e_TExtent r.1)])

theorem cextent_Give (n : Nat) : Contract Try.prog (xextent_Give n) := by
  have hΓ : ∀ g, g ∈ ([xextent_Check n, xextent_Valid n, xextent_Overlap n, xslices_Clone_f40 n, xextent_sorted n] : List Go.AE.Fn) → Contract Try.prog g := by
    intro g hg; simp only [List.mem_cons, List.not_mem_nil, or_false] at hg; rcases hg with rfl | rfl | rfl | rfl | rfl; exact cextent_Check n; exact cextent_Valid n; exact cextent_Overlap n; exact cslices_Clone_f40 n; exact cextent_sorted n
  refine contract_f (Try.f39.body.getD .skip) h00 Try.func39 rfl (by intro args w; exact Try.call39 args w) (by decide) (by
    intro _ r; refine ⟨rfl, ?_⟩; simp only [List.mem_cons, List.not_mem_nil, or_false]; rintro _ rfl
    · exact ⟨52, _, _, rfl, ty52, rfl⟩) ?_
  rintro ⟨free, back⟩ r H
  try dsimp only at H
  unfold extent_Give at H
  simp only [Try.f39, Option.getD]
  refine Sm.seqA h00 mixed hΓ (by kernel_rfl) fun K1 hK1 => ?_
  simp only [rs]
  repeat (refine opsG fun K hK => ?_; simp only [z, seval]; (repeat (first | refine gcI ?_ | refine fun (_ : _ ≤ _) => ?_)); refine hK _ ?_; clear hK K)
  refine hK1 _ ?_
  refine Sm.seqK fun K2 hK2 => ?_
  obtain ⟨r1, hr1, H⟩ := bind_some H
  obtain ⟨⟨hg28, hg29⟩, H⟩ := gd_some H
  refine Sm.seqA h00 mixed hΓ (by kernel_rfl) fun K3 hK3 => ?_
  simp only [rs]
  repeat (refine opsG fun K hK => ?_; simp only [z, seval, xextent_Check, xextent_Valid, xextent_Overlap, hr1]; (repeat (first | refine gcI ?_ | refine fun (_ : _ ≤ _) => ?_)); refine hK _ ?_; clear hK K)
  refine hK3 _ ?_
  refine Sm.condK (by rfl) fun Ka Kb ha hb => ?_
  simp only [wpCond, z, seval]
  refine ⟨fun h4 => ha ?_, fun h4 => hb ?_⟩
  · first | replace H := bif_t h4 H | replace H := bif_t2 h4 H (by simp only [List.length_append])
    refine Sm.seqA h00 mixed hΓ (by kernel_rfl) fun K5 hK5 => ?_
    simp only [rs]
    repeat (refine opsG fun K hK => ?_; simp only [z, seval]; (repeat (first | refine gcI ?_ | refine fun (_ : _ ≤ _) => ?_)); refine hK _ ?_; clear hK K)
    refine hK5 _ ?_
    refine Sm.ret ?_
    try simp only [seval, Exit.exit.injEq]
    obtain rfl := Option.some.inj H
    refine Ret.ofR [none] (.inr rfl) ?_
    simp only [z, seval]
    try omega
  first | replace H := bif_f h4 H | replace H := bif_f2 h4 H (by simp only [List.length_append])
  refine Sm.skip ?_
  refine hK2 _ ?_
  refine Sm.seqA h00 mixed hΓ (by kernel_rfl) fun K6 hK6 => ?_
  simp only [rs]
  repeat (refine opsG fun K hK => ?_; simp only [z, seval]; (repeat (first | refine gcI ?_ | refine fun (_ : _ ≤ _) => ?_)); refine hK _ ?_; clear hK K)
  refine hK6 _ ?_
  refine Sm.cut (fun (x : (List TExtent)) => extent_Give_s1 x) (fun x => extent_Give_k1 n x = some r) ?_ ?_
  · obtain ⟨r2, hr2, H⟩ := bind_some H
    obtain ⟨hg27, H⟩ := gd_some H
    obtain ⟨r3, hr3, H⟩ := bind_some H
    refine Sm.seqA h00 mixed hΓ (by kernel_rfl) fun K8 hK8 => ?_
    simp only [rs]
    repeat (refine opsG fun K hK => ?_; simp only [z, seval, xextent_Check, xextent_Valid, xextent_Overlap, xslices_Clone_f40, xextent_sorted, hr2, hr3]; (repeat (first | refine gcI ?_ | refine fun (_ : _ ≤ _) => ?_)); refine hK _ ?_; clear hK K)
    refine hK8 _ ?_
    refine Sm.block ?_
    obtain ⟨y9, hy9, Ho9⟩ := bind_some H
    refine Sm.loopB (fun (x : (List TExtent) × Int) => extent_Give_b2 n r3 (r3.length : Int) x.1 x.2) (fun x => extent_Give_t2 r3 (r3.length : Int) x.1 x.2) hy9 ?_ ?_
    · exact weak_b [none] rfl rfl rfl (by simp only [wk, z, seval]) (by simp only [wk, z, seval])
    rintro ⟨out_1, v29⟩ z9 H
    try dsimp only at H
    unfold extent_Give_b2 at H
    refine Sm.seqA h00 mixed hΓ (by kernel_rfl) fun K10 hK10 => ?_
    simp only [rs]
    repeat (refine opsG fun K hK => ?_; simp only [z, seval, extent_Give_t2]; (repeat (first | refine gcI ?_ | refine fun (_ : _ ≤ _) => ?_)); refine hK _ ?_; clear hK K)
    refine hK10 _ ?_
    refine Sm.seqK fun K11 hK11 => ?_
    refine Sm.condK (by rfl) fun Ka Kb ha hb => ?_
    simp only [wpCond, z, seval, extent_Give_t2]
    refine ⟨fun h12 => ha ?_, fun h12 => hb ?_⟩
    · first | replace H := bif_t h12 H | replace H := bif_t2 h12 H (by simp only [List.length_append])
      refine Sm.skip ?_
      refine hK11 _ ?_
      refine Sm.cut (fun (x : (List TExtent)) => extent_Give_s3 x r3 (r3.length : Int) v29) (fun x => extent_Give_k3 n x r3 (r3.length : Int) v29 = some z9) ?_ ?_
      · refine Sm.block ?_
        obtain ⟨hg26, H⟩ := gd_some H
        refine Sm.seqA h00 mixed hΓ (by kernel_rfl) fun K13 hK13 => ?_
        simp only [rs]
        repeat (refine opsG fun K hK => ?_; simp only [z, seval, extent_Give_t2]; (repeat (first | refine gcI ?_ | refine fun (_ : _ ≤ _) => ?_)); refine hK _ ?_; clear hK K)
        refine hK13 _ ?_
        refine Sm.seqA h00 mixed hΓ (by kernel_rfl) fun K14 hK14 => ?_
        simp only [rs]
        repeat (refine opsG fun K hK => ?_; simp only [z, seval, extent_Give_t2]; (repeat (first | refine gcI ?_ | refine fun (_ : _ ≤ _) => ?_)); refine hK _ ?_; clear hK K)
        refine hK14 _ ?_
        obtain ⟨⟨hg22, hg23, hg24, hg25⟩, H⟩ := gd_some H
        refine Sm.seqD h00 mixed hΓ (by kernel_rfl) fun K15 hK15 => ?_
        simp only [rs]
        repeat (refine opsH fun K hK => ?_; simp only [z, seval, extent_Give_t2]; (repeat (first | refine gcI ?_ | refine fun (_ : _ ≤ _) => ?_)); refine hK _ ?_; clear hK K)
        refine hK15 _ ?_
        refine Sm.condK (by rfl) fun Ka Kb ha hb => ?_
        simp only [wpCond, z, seval, extent_Give_t2]
        refine ⟨fun h16 => ha ?_, fun h16 => hb ?_⟩
        · first | replace H := bif_t h16 H | replace H := bif_t2 h16 H (by simp only [List.length_append])
          obtain ⟨⟨hg17, hg18, hg19, hg20⟩, H⟩ := gd_some H
          refine Sm.regD h00 mixed hΓ (by kernel_rfl) ?_
          simp only [rs]
          repeat (refine opsH fun K hK => ?_; simp only [z, seval, extent_Give_t2]; (repeat (first | refine gcI ?_ | refine fun (_ : _ ≤ _) => ?_)); refine hK _ ?_; clear hK K)
          refine opsH0 ?_
          try simp only [seval, Exit.exit.injEq]
          refine ⟨_, H, ?_⟩
          exact weak_b [some 9002] rfl rfl rfl (by simp only [wk, z, seval, extent_Give_t2]) (by simp only [wk, z, seval, extent_Give_t2])
        first | replace H := bif_f h16 H | replace H := bif_f2 h16 H (by simp only [List.length_append])
        obtain ⟨hg21, H⟩ := gd_some H
        refine Sm.regA h00 mixed hΓ (by kernel_rfl) ?_
        simp only [rs]
        repeat (refine opsG fun K hK => ?_; simp only [z, seval, extent_Give_t2]; (repeat (first | refine gcI ?_ | refine fun (_ : _ ≤ _) => ?_)); refine hK _ ?_; clear hK K)
        refine opsG0 ?_
        try simp only [seval, Exit.exit.injEq]
        refine ⟨_, H, ?_⟩
        exact weak_b [some 1104] rfl rfl rfl (by simp only [wk, z, seval, extent_Give_t2]) (by simp only [wk, z, seval, extent_Give_t2])
      rintro out_2 H
      try dsimp only at H
      unfold extent_Give_k3 at H
      refine Sm.regA h00 mixed hΓ (by kernel_rfl) ?_
      simp only [rs]
      repeat (refine opsG fun K hK => ?_; simp only [z, seval, extent_Give_s3]; (repeat (first | refine gcI ?_ | refine fun (_ : _ ≤ _) => ?_)); refine hK _ ?_; clear hK K)
      refine opsG0 ?_
      try simp only [seval, Exit.exit.injEq]
      refine ⟨(_, _), (Option.some.inj H).symm, ?_⟩
      exact weak_b [some 9003] rfl rfl rfl (by simp only [wk, z, seval, extent_Give_s3]) (by simp only [wk, z, seval, extent_Give_s3])
    first | replace H := bif_f h12 H | replace H := bif_f2 h12 H (by simp only [List.length_append])
    refine Sm.exit ?_
    try simp only [seval, Exit.exit.injEq]
    refine ⟨⟨_, (Option.some.inj H).symm⟩, fun hz => ?_⟩
    have hyy := Sum.inr.inj ((Option.some.inj H).trans hz)
    subst hyy
    have H := Ho9
    try dsimp only at H
    try simp only [seval, Exit.exit.injEq]
    refine ⟨_, H, ?_⟩
    exact weak_b [some 9002] rfl rfl rfl (by simp only [wk, z, seval, extent_Give_t2]) (by simp only [wk, z, seval, extent_Give_t2])
  rintro out H
  try dsimp only at H
  unfold extent_Give_k1 at H
  refine Sm.seqA h00 mixed hΓ (by kernel_rfl) fun K7 hK7 => ?_
  simp only [rs]
  repeat (refine opsG fun K hK => ?_; simp only [z, seval, extent_Give_s1]; (repeat (first | refine gcI ?_ | refine fun (_ : _ ≤ _) => ?_)); refine hK _ ?_; clear hK K)
  refine hK7 _ ?_
  refine Sm.ret ?_
  try simp only [seval, Exit.exit.injEq]
  obtain rfl := Option.some.inj H
  refine Ret.ofR [some 9000] (.inr rfl) ?_
  simp only [z, seval, extent_Give_s1]
  try omega

def spool_Drop (n : Nat) (s : TSpace) (f : TFile) : Option (TSpace × Int) :=
  (spool_Check n s).bind fun r1 =>
  gd (((!(r1 != 0)) = true → (extent_Valid n f.Extents).isSome = true)) <|
  bif (if (r1 != 0) = true then true else (!((extent_Valid n f.Extents).getD default))) then
    some ((⟨0, []⟩ : TSpace), 1)
  else
    gd ((!(if (r1 != 0) = true then true else (!((extent_Valid n f.Extents).getD default)))) = true) <|
    (slices_ContainsFunc_f37_M1 n f.Extents s.Tracks s.Free).bind fun r2 =>
    bif r2 then
      some ((⟨0, []⟩ : TSpace), 1)
    else
      (extent_Give n s.Free f.Extents).bind fun r3 =>
      bif (r3.2 != 0) then
        some ((⟨0, []⟩ : TSpace), 1)
      else
        some ((⟨s.Tracks, r3.1⟩ : TSpace), 0)

def xspool_Drop (n : Nat) : Go.AE.Fn := mkFn (A := TSpace × TFile) (R := TSpace × Int) 18 [(true, [.int .i64, .slice 52]), (true, [.slice 52, .int .i64])] false (fun xs => ((⟨(cg (xs.getD 0 []) 0).toInt, ((cg (xs.getD 0 []) 1).toSl.map d_TExtent)⟩ : TSpace), (⟨((cg (xs.getD 1 []) 0).toSl.map d_TExtent), (cg (xs.getD 1 []) 1).toInt⟩ : TFile))) (fun a => [[.int a.1.Tracks, .slice (List.map e_TExtent a.1.Free)], [.slice (List.map e_TExtent a.2.Extents), .int a.2.Lines]]) (fun a => spool_Drop n a.1 a.2) (fun r => [.agg [.c (.int .i64) (.int r.1.Tracks), .own 0 [.int .i64, .int .i64] 0 r.1.Free.length], .c (.int .i64) (.int r.2)]) (fun r => [.row 52 (List.map e_TExtent r.1.Free)])

theorem cspool_Drop (n : Nat) : Contract Try.prog (xspool_Drop n) := by
  have hΓ : ∀ g, g ∈ ([xspool_Check n, xextent_Valid n, xextent_Give n] : List Go.AE.Fn) → Contract Try.prog g := by
    intro g hg; simp only [List.mem_cons, List.not_mem_nil, or_false] at hg; rcases hg with rfl | rfl | rfl; exact cspool_Check n; exact cextent_Valid n; exact cextent_Give n
  refine contract_f (Try.f18.body.getD .skip) h00 Try.func18 rfl (by intro args w; exact Try.call18 args w) (by decide) (by
    intro _ r; refine ⟨rfl, ?_⟩; simp only [List.mem_cons, List.not_mem_nil, or_false]; rintro _ rfl
    · exact ⟨52, _, _, rfl, ty52, rfl⟩) ?_
  rintro ⟨s, f⟩ r H
  try dsimp only at H
  unfold spool_Drop at H
  simp only [Try.f18, Option.getD]
  refine Sm.seqA h00 mixed hΓ (by kernel_rfl) fun K1 hK1 => ?_
  simp only [rs]
  repeat (refine opsG fun K hK => ?_; simp only [z, seval]; (repeat (first | refine gcI ?_ | refine fun (_ : _ ≤ _) => ?_)); refine hK _ ?_; clear hK K)
  refine hK1 _ ?_
  refine Sm.seqK fun K2 hK2 => ?_
  refine Sm.seqX h00 mixed hΓ (by kernel_rfl) fun K3 hK3 => ?_
  simp only [rs]
  obtain ⟨r1, hr1, H⟩ := bind_some H
  obtain ⟨hg4, H⟩ := gd_some H
  (refine opsX fun K hK => ?_; simp only [z, seval, xspool_Check, xextent_Valid]; (repeat (first | refine gcI ?_ | refine fun (_ : _ ≤ _) => ?_)); refine hK _ ?_; clear hK K)
  iterate 11 (refine opsX fun K hK => ?_; simp only [z, seval, xspool_Check, xextent_Valid, hr1]; (repeat (first | refine gcI ?_ | refine fun (_ : _ ≤ _) => ?_)); refine hK _ ?_; clear hK K)
  refine bif_cases H (fun hs5 H => ?_) (fun hs5 H => ?_)
  · try simp only [hs5, Bool.not_false, Bool.not_true, Bool.false_eq_true, true_implies, false_implies, forall_const] at hg4
    refine opsF rfl (by simp only [z, seval, xspool_Check, xextent_Valid, hr1, hs5]) ?_
    refine opsF rfl (by simp only [z, seval, xspool_Check, xextent_Valid, hr1, hs5]) ?_
    refine opsP fun K hK => ?_; simp only [z, seval, xspool_Check, xextent_Valid, hr1, hs5]; (repeat (first | refine gcI ?_ | refine fun (_ : _ ≤ _) => ?_)); refine Or.inl ?_; (repeat (first | refine gcI ?_ | refine fun (_ : _ ≤ _) => ?_)); refine hK _ ?_; clear hK K
    refine hK3 _ ?_
    refine Sm.condK (by rfl) fun Ka Kb ha hb => ?_
    simp only [wpCond, z, seval]
    refine ha ?_
    refine Sm.seqA h00 mixed hΓ (by kernel_rfl) fun K7 hK7 => ?_
    simp only [rs]
    repeat (refine opsG fun K hK => ?_; simp only [z, seval]; (repeat (first | refine gcI ?_ | refine fun (_ : _ ≤ _) => ?_)); refine hK _ ?_; clear hK K)
    refine hK7 _ ?_
    refine Sm.ret ?_
    try simp only [seval, Exit.exit.injEq]
    obtain rfl := Option.some.inj H
    refine Ret.ofR [none] (.inr rfl) ?_
    simp only [z, seval]
    try omega
  try simp only [hs5, Bool.not_false, Bool.not_true, Bool.false_eq_true, true_implies, false_implies, forall_const] at hg4
  obtain ⟨hg8, H⟩ := gd_some H
  obtain ⟨r2, hr2, H⟩ := bind_some H
  refine opsTY rfl (by simp only [z, seval, xspool_Check, xextent_Valid, hr1, hs5])  fun K hK => ?_; simp only [z, seval, xspool_Check, xextent_Valid, hr1, hs5]; (repeat (first | refine gcI ?_ | refine fun (_ : _ ≤ _) => ?_)); refine hK _ ?_; clear hK K
  refine opsTM (cslices_ContainsFunc_f37_M1 n _ _ _ r2 hr2) [32] [] (by simp only [z, seval, xspool_Check, xextent_Valid, hr1, hs5, hr2]) (by simp only [z, seval, xspool_Check, xextent_Valid, hr1, hs5, hr2]; try rfl) (by simp only [z, seval, xspool_Check, xextent_Valid, hr1, hs5, hr2]) (by simp only [z, seval, xspool_Check, xextent_Valid, hr1, hs5, hr2]) (by simp only [z, seval, xspool_Check, xextent_Valid, hr1, hs5, hr2]) (by simp only [z, seval, xspool_Check, xextent_Valid, hr1, hs5, hr2]) rfl (by simp only [z, seval, xspool_Check, xextent_Valid, hr1, hs5, hr2]) rfl ?_
  refine opsP fun K hK => ?_; simp only [z, seval, xspool_Check, xextent_Valid, hr1, hs5, hr2]; (repeat (first | refine gcI ?_ | refine fun (_ : _ ≤ _) => ?_)); refine Or.inr ?_; (repeat (first | refine gcI ?_ | refine fun (_ : _ ≤ _) => ?_)); refine hK _ ?_; clear hK K
  refine hK3 _ ?_
  refine Sm.condK (by rfl) fun Ka Kb ha hb => ?_
  simp only [wpCond, z, seval]
  refine ⟨fun h9 => ha ?_, fun h9 => hb ?_⟩
  · first | replace H := bif_t h9 H | replace H := bif_t2 h9 H (by simp only [List.length_append])
    refine Sm.seqA h00 mixed hΓ (by kernel_rfl) fun K10 hK10 => ?_
    simp only [rs]
    repeat (refine opsG fun K hK => ?_; simp only [z, seval]; (repeat (first | refine gcI ?_ | refine fun (_ : _ ≤ _) => ?_)); refine hK _ ?_; clear hK K)
    refine hK10 _ ?_
    refine Sm.ret ?_
    try simp only [seval, Exit.exit.injEq]
    obtain rfl := Option.some.inj H
    refine Ret.ofR [none] (.inr rfl) ?_
    simp only [z, seval]
    try omega
  first | replace H := bif_f h9 H | replace H := bif_f2 h9 H (by simp only [List.length_append])
  refine Sm.skip ?_
  refine hK2 _ ?_
  obtain ⟨r3, hr3, H⟩ := bind_some H
  refine Sm.seqA h00 mixed hΓ (by kernel_rfl) fun K11 hK11 => ?_
  simp only [rs]
  repeat (refine opsG fun K hK => ?_; simp only [z, seval, xspool_Check, xextent_Valid, xextent_Give, hr3]; (repeat (first | refine gcI ?_ | refine fun (_ : _ ≤ _) => ?_)); refine hK _ ?_; clear hK K)
  refine hK11 _ ?_
  refine Sm.seqK fun K12 hK12 => ?_
  refine Sm.seqA h00 mixed hΓ (by kernel_rfl) fun K13 hK13 => ?_
  simp only [rs]
  repeat (refine opsG fun K hK => ?_; simp only [z, seval]; (repeat (first | refine gcI ?_ | refine fun (_ : _ ≤ _) => ?_)); refine hK _ ?_; clear hK K)
  refine hK13 _ ?_
  refine Sm.condK (by rfl) fun Ka Kb ha hb => ?_
  simp only [wpCond, z, seval]
  refine ⟨fun h14 => ha ?_, fun h14 => hb ?_⟩
  · first | replace H := bif_t h14 H | replace H := bif_t2 h14 H (by simp only [List.length_append])
    refine Sm.seqA h00 mixed hΓ (by kernel_rfl) fun K15 hK15 => ?_
    simp only [rs]
    repeat (refine opsG fun K hK => ?_; simp only [z, seval]; (repeat (first | refine gcI ?_ | refine fun (_ : _ ≤ _) => ?_)); refine hK _ ?_; clear hK K)
    refine hK15 _ ?_
    refine Sm.ret ?_
    try simp only [seval, Exit.exit.injEq]
    obtain rfl := Option.some.inj H
    refine Ret.ofR [none] (.inr rfl) ?_
    simp only [z, seval]
    try omega
  first | replace H := bif_f h14 H | replace H := bif_f2 h14 H (by simp only [List.length_append])
  refine Sm.skip ?_
  refine hK12 _ ?_
  refine Sm.seqA h00 mixed hΓ (by kernel_rfl) fun K16 hK16 => ?_
  simp only [rs]
  repeat (refine opsG fun K hK => ?_; simp only [z, seval]; (repeat (first | refine gcI ?_ | refine fun (_ : _ ≤ _) => ?_)); refine hK _ ?_; clear hK K)
  refine hK16 _ ?_
  refine Sm.ret ?_
  try simp only [seval, Exit.exit.injEq]
  obtain rfl := Option.some.inj H
  refine Ret.ofR [some 464] (.inr rfl) ?_
  simp only [z, seval]
  try omega

abbrev extent_Free_s2 (out_1 : List TExtent) : S := stB [(5, .own 9001 [.int .i64, .int .i64] 0 out_1.length)] [(9001, .row 52 (List.map e_TExtent out_1))]

def extent_Free_k2 (n : Nat) (out_1 : List TExtent) : Option (List TExtent) :=
  some out_1

abbrev extent_Free_s1 (n_ : Int) (out : List TExtent) (at_ : Int) : S := stB [(1, .c (.int .i64) (.int n_)), (5, .own 9000 [.int .i64, .int .i64] 0 out.length), (6, .c (.int .i64) (.int at_))] [(9000, .row 52 (List.map e_TExtent out))]

def extent_Free_k1 (n : Nat) (n_ : Int) (out : List TExtent) (at_ : Int) : Option (List TExtent) :=
  bif (decide (n_ > at_)) then
    gd ((out.length + 1) ≤ 2147483648) <|
    extent_Free_k2 n (out ++ [(⟨at_, (IntKind.wrap .i64 (n_ - at_))⟩ : TExtent)])
  else
    extent_Free_k2 n out

abbrev extent_Free_s4 (n_ : Int) (out_3 : List TExtent) (at__2 : Int) (v22 : List TExtent) (v23 : Int) (v24 : Int) : S := stB [(1, .c (.int .i64) (.int n_)), (5, .own 9004 [.int .i64, .int .i64] 0 out_3.length), (6, .c (.int .i64) (.int at__2)), (22, .c (.slice 52) (.slice (List.map e_TExtent v22))), (23, .c (.int .i64) (.int v23)), (24, .c (.int .i64) (.int v24))] [(9004, .row 52 (List.map e_TExtent out_3))]

def extent_Free_k4 (n : Nat) (n_ : Int) (out_3 : List TExtent) (at__2 : Int) (v22 : List TExtent) (v23 : Int) (v24 : Int) : Option (((List TExtent) × Int × Int) ⊕ (((List TExtent) × Int))) :=
  some (.inl (out_3, at__2, (IntKind.wrap .i64 (v24 + 1))))

abbrev extent_Free_s5 (n_ : Int) (out_4 : List TExtent) (x : Int) (x_1 : Int) (v22 : List TExtent) (v23 : Int) (v24 : Int) : S := stB [(1, .c (.int .i64) (.int n_)), (5, .own 9005 [.int .i64, .int .i64] 0 out_4.length), (8, .box 9006 0), (22, .c (.slice 52) (.slice (List.map e_TExtent v22))), (23, .c (.int .i64) (.int v23)), (24, .c (.int .i64) (.int v24))] [(9005, .row 52 (List.map e_TExtent out_4)), (9006, .box [.c (.int .i64) (.int x), .c (.int .i64) (.int x_1)])]

def extent_Free_k5 (n : Nat) (n_ : Int) (out_4 : List TExtent) (x : Int) (x_1 : Int) (v22 : List TExtent) (v23 : Int) (v24 : Int) : Option (((List TExtent) × Int × Int) ⊕ (((List TExtent) × Int))) :=
  extent_Free_k4 n n_ out_4 (IntKind.wrap .i64 (x + x_1)) v22 v23 v24

abbrev extent_Free_t3 (n_ : Int) (v22 : List TExtent) (v23 : Int) (out_2 : List TExtent) (at__1 : Int) (v24 : Int) : S := stB [(1, .c (.int .i64) (.int n_)), (5, .own 9003 [.int .i64, .int .i64] 0 out_2.length), (6, .c (.int .i64) (.int at__1)), (22, .c (.slice 52) (.slice (List.map e_TExtent v22))), (23, .c (.int .i64) (.int v23)), (24, .c (.int .i64) (.int v24))] [(9003, .row 52 (List.map e_TExtent out_2))]

def extent_Free_b3 (n : Nat) (n_ : Int) (v22 : List TExtent) (v23 : Int) (out_2 : List TExtent) (at__1 : Int) (v24 : Int) : Option (((List TExtent) × Int × Int) ⊕ (((List TExtent) × Int))) :=
  bif (decide (v24 < v23)) then
    gd ((0 ≤ v24 ∧ v24 < (v22.length : Int))) <|
    bif (decide ((if n_ < ((gt v22 (Int.toNat v24)).At) then n_ else ((gt v22 (Int.toNat v24)).At)) > at__1)) then
      gd ((out_2.length + 1) ≤ 2147483648) <|
      extent_Free_k5 n n_ (out_2 ++ [(⟨at__1, (IntKind.wrap .i64 ((if n_ < ((gt v22 (Int.toNat v24)).At) then n_ else ((gt v22 (Int.toNat v24)).At)) - at__1))⟩ : TExtent)]) ((gt v22 (Int.toNat v24)).At) ((gt v22 (Int.toNat v24)).Len) v22 v23 v24
    else
      extent_Free_k5 n n_ out_2 ((gt v22 (Int.toNat v24)).At) ((gt v22 (Int.toNat v24)).Len) v22 v23 v24
  else
    some (.inr (out_2, at__1))

def extent_Free (n : Nat) (used : List TExtent) (n_ : Int) : Option (List TExtent) :=
  (extent_Valid n used).bind fun r1 =>
  bif (if (if (!r1) = true then true else (decide (n_ < 0))) = true then true else (decide (n_ > 512))) then
    some []
  else
    (extent_sorted n used).bind fun r2 =>
    (loopF (fun (x : (List TExtent) × Int × Int) => extent_Free_b3 n n_ r2 (r2.length : Int) x.1 x.2.1 x.2.2) n ([], 0, 0)).bind fun y13 =>
    extent_Free_k1 n n_ y13.1 y13.2

def xextent_Free (n : Nat) : Go.AE.Fn := mkFn (A := (List TExtent) × Int) (R := (List TExtent)) 34 [(false, [.slice 52]), (false, [.int .i64])] false (fun xs => (((cg (xs.getD 0 []) 0).toSl.map d_TExtent), (cg (xs.getD 1 []) 0).toInt)) (fun a => [[.slice (List.map e_TExtent a.1)], [.int a.2]]) (fun a => extent_Free n a.1 a.2) (fun r => [.own 0 [.int .i64, .int .i64] 0 r.length]) (fun r => [.row 52 (List.map e_TExtent r)])

theorem cextent_Free (n : Nat) : Contract Try.prog (xextent_Free n) := by
  have hΓ : ∀ g, g ∈ ([xextent_Valid n, xextent_sorted n] : List Go.AE.Fn) → Contract Try.prog g := by
    intro g hg; simp only [List.mem_cons, List.not_mem_nil, or_false] at hg; rcases hg with rfl | rfl; exact cextent_Valid n; exact cextent_sorted n
  refine contract_f (Try.f34.body.getD .skip) h00 Try.func34 rfl (by intro args w; exact Try.call34 args w) (by decide) (by
    intro _ r; refine ⟨rfl, ?_⟩; simp only [List.mem_cons, List.not_mem_nil, or_false]; rintro _ rfl
    · exact ⟨52, _, _, rfl, ty52, rfl⟩) ?_
  rintro ⟨used, n_⟩ r H
  try dsimp only at H
  unfold extent_Free at H
  simp only [Try.f34, Option.getD]
  refine Sm.seqA h00 mixed hΓ (by kernel_rfl) fun K1 hK1 => ?_
  simp only [rs]
  repeat (refine opsG fun K hK => ?_; simp only [z, seval]; (repeat (first | refine gcI ?_ | refine fun (_ : _ ≤ _) => ?_)); refine hK _ ?_; clear hK K)
  refine hK1 _ ?_
  refine Sm.seqK fun K2 hK2 => ?_
  obtain ⟨r1, hr1, H⟩ := bind_some H
  refine Sm.seqA h00 mixed hΓ (by kernel_rfl) fun K3 hK3 => ?_
  simp only [rs]
  repeat (refine opsG fun K hK => ?_; simp only [z, seval, xextent_Valid, hr1]; (repeat (first | refine gcI ?_ | refine fun (_ : _ ≤ _) => ?_)); refine hK _ ?_; clear hK K)
  refine hK3 _ ?_
  refine Sm.condK (by rfl) fun Ka Kb ha hb => ?_
  simp only [wpCond, z, seval]
  refine ⟨fun h4 => ha ?_, fun h4 => hb ?_⟩
  · first | replace H := bif_t h4 H | replace H := bif_t2 h4 H (by simp only [List.length_append])
    refine Sm.seqA h00 mixed hΓ (by kernel_rfl) fun K5 hK5 => ?_
    simp only [rs]
    repeat (refine opsG fun K hK => ?_; simp only [z, seval]; (repeat (first | refine gcI ?_ | refine fun (_ : _ ≤ _) => ?_)); refine hK _ ?_; clear hK K)
    refine hK5 _ ?_
    refine Sm.ret ?_
    try simp only [seval, Exit.exit.injEq]
    obtain rfl := Option.some.inj H
    refine Ret.ofR [none] (.inr rfl) ?_
    simp only [z, seval]
    try omega
  first | replace H := bif_f h4 H | replace H := bif_f2 h4 H (by simp only [List.length_append])
  refine Sm.skip ?_
  refine hK2 _ ?_
  refine Sm.seqA h00 mixed hΓ (by kernel_rfl) fun K6 hK6 => ?_
  simp only [rs]
  repeat (refine opsG fun K hK => ?_; simp only [z, seval]; (repeat (first | refine gcI ?_ | refine fun (_ : _ ≤ _) => ?_)); refine hK _ ?_; clear hK K)
  refine hK6 _ ?_
  refine Sm.seqA h00 mixed hΓ (by kernel_rfl) fun K7 hK7 => ?_
  simp only [rs]
  repeat (refine opsG fun K hK => ?_; simp only [z, seval]; (repeat (first | refine gcI ?_ | refine fun (_ : _ ≤ _) => ?_)); refine hK _ ?_; clear hK K)
  refine hK7 _ ?_
  refine Sm.cut (fun (x : (List TExtent) × Int) => extent_Free_s1 n_ x.1 x.2) (fun x => extent_Free_k1 n n_ x.1 x.2 = some r) ?_ ?_
  · obtain ⟨r2, hr2, H⟩ := bind_some H
    refine Sm.seqA h00 mixed hΓ (by kernel_rfl) fun K12 hK12 => ?_
    simp only [rs]
    repeat (refine opsG fun K hK => ?_; simp only [z, seval, xextent_Valid, xextent_sorted, hr2]; (repeat (first | refine gcI ?_ | refine fun (_ : _ ≤ _) => ?_)); refine hK _ ?_; clear hK K)
    refine hK12 _ ?_
    refine Sm.block ?_
    obtain ⟨y13, hy13, Ho13⟩ := bind_some H
    refine Sm.loopB (fun (x : (List TExtent) × Int × Int) => extent_Free_b3 n n_ r2 (r2.length : Int) x.1 x.2.1 x.2.2) (fun x => extent_Free_t3 n_ r2 (r2.length : Int) x.1 x.2.1 x.2.2) hy13 ?_ ?_
    · exact weak_b [none] rfl rfl rfl (by simp only [wk, z, seval]) (by simp only [wk, z, seval])
    rintro ⟨out_2, at__1, v24⟩ z13 H
    try dsimp only at H
    unfold extent_Free_b3 at H
    refine Sm.seqA h00 mixed hΓ (by kernel_rfl) fun K14 hK14 => ?_
    simp only [rs]
    repeat (refine opsG fun K hK => ?_; simp only [z, seval, extent_Free_t3]; (repeat (first | refine gcI ?_ | refine fun (_ : _ ≤ _) => ?_)); refine hK _ ?_; clear hK K)
    refine hK14 _ ?_
    refine Sm.seqK fun K15 hK15 => ?_
    refine Sm.condK (by rfl) fun Ka Kb ha hb => ?_
    simp only [wpCond, z, seval, extent_Free_t3]
    refine ⟨fun h16 => ha ?_, fun h16 => hb ?_⟩
    · first | replace H := bif_t h16 H | replace H := bif_t2 h16 H (by simp only [List.length_append])
      refine Sm.skip ?_
      refine hK15 _ ?_
      refine Sm.cut (fun (x : (List TExtent) × Int) => extent_Free_s4 n_ x.1 x.2 r2 (r2.length : Int) v24) (fun x => extent_Free_k4 n n_ x.1 x.2 r2 (r2.length : Int) v24 = some z13) ?_ ?_
      · refine Sm.block ?_
        obtain ⟨hg22, H⟩ := gd_some H
        refine Sm.seqA h00 mixed hΓ (by kernel_rfl) fun K17 hK17 => ?_
        simp only [rs]
        repeat (refine opsG fun K hK => ?_; simp only [z, seval, extent_Free_t3]; (repeat (first | refine gcI ?_ | refine fun (_ : _ ≤ _) => ?_)); refine hK _ ?_; clear hK K)
        refine hK17 _ ?_
        refine Sm.cut (fun (x : (List TExtent)) => extent_Free_s5 n_ x ((gt r2 (Int.toNat v24)).At) ((gt r2 (Int.toNat v24)).Len) r2 (r2.length : Int) v24) (fun x => extent_Free_k5 n n_ x ((gt r2 (Int.toNat v24)).At) ((gt r2 (Int.toNat v24)).Len) r2 (r2.length : Int) v24 = some z13) ?_ ?_
        · refine Sm.seqA h00 mixed hΓ (by kernel_rfl) fun K18 hK18 => ?_
          simp only [rs]
          repeat (refine opsG fun K hK => ?_; simp only [z, seval, extent_Free_t3]; (repeat (first | refine gcI ?_ | refine fun (_ : _ ≤ _) => ?_)); refine hK _ ?_; clear hK K)
          refine hK18 _ ?_
          refine Sm.seqA h00 mixed hΓ (by kernel_rfl) fun K19 hK19 => ?_
          simp only [rs]
          repeat (refine opsG fun K hK => ?_; simp only [z, seval, extent_Free_t3]; (repeat (first | refine gcI ?_ | refine fun (_ : _ ≤ _) => ?_)); refine hK _ ?_; clear hK K)
          refine hK19 _ ?_
          refine Sm.condK (by rfl) fun Ka Kb ha hb => ?_
          simp only [wpCond, z, seval, extent_Free_t3]
          refine ⟨fun h20 => ha ?_, fun h20 => hb ?_⟩
          · first | replace H := bif_t h20 H | replace H := bif_t2 h20 H (by simp only [List.length_append])
            obtain ⟨hg21, H⟩ := gd_some H
            refine Sm.regA h00 mixed hΓ (by kernel_rfl) ?_
            simp only [rs]
            repeat (refine opsG fun K hK => ?_; simp only [z, seval, extent_Free_t3]; (repeat (first | refine gcI ?_ | refine fun (_ : _ ≤ _) => ?_)); refine hK _ ?_; clear hK K)
            refine opsG0 ?_
            try simp only [seval, Exit.exit.injEq]
            refine ⟨_, H, ?_⟩
            exact weak_b [some 672, some 128] rfl rfl rfl (by simp only [wk, z, seval, extent_Free_t3]) (by simp only [wk, z, seval, extent_Free_t3])
          first | replace H := bif_f h20 H | replace H := bif_f2 h20 H (by simp only [List.length_append])
          refine Sm.skip ?_
          try simp only [seval, Exit.exit.injEq]
          refine ⟨_, H, ?_⟩
          exact weak_b [some 9003, some 128] rfl rfl rfl (by simp only [wk, z, seval, extent_Free_t3]) (by simp only [wk, z, seval, extent_Free_t3])
        rintro out_4 H
        try dsimp only at H
        unfold extent_Free_k5 at H
        refine Sm.regA h00 mixed hΓ (by kernel_rfl) ?_
        simp only [rs]
        repeat (refine opsG fun K hK => ?_; simp only [z, seval, extent_Free_s5]; (repeat (first | refine gcI ?_ | refine fun (_ : _ ≤ _) => ?_)); refine hK _ ?_; clear hK K)
        refine opsG0 ?_
        try simp only [seval, Exit.exit.injEq]
        refine ⟨(out_4, (IntKind.wrap .i64 ((gt r2 (Int.toNat v24)).At + (gt r2 (Int.toNat v24)).Len))), H, ?_⟩
        exact weak_b [some 9005] rfl rfl rfl (by simp only [wk, z, seval, extent_Free_s5]) (by simp only [wk, z, seval, extent_Free_s5])
      rintro ⟨out_3, at__2⟩ H
      try dsimp only at H
      unfold extent_Free_k4 at H
      refine Sm.regA h00 mixed hΓ (by kernel_rfl) ?_
      simp only [rs]
      repeat (refine opsG fun K hK => ?_; simp only [z, seval, extent_Free_s4]; (repeat (first | refine gcI ?_ | refine fun (_ : _ ≤ _) => ?_)); refine hK _ ?_; clear hK K)
      refine opsG0 ?_
      try simp only [seval, Exit.exit.injEq]
      refine ⟨(_, _, _), (Option.some.inj H).symm, ?_⟩
      exact weak_b [some 9004] rfl rfl rfl (by simp only [wk, z, seval, extent_Free_s4]) (by simp only [wk, z, seval, extent_Free_s4])
    first | replace H := bif_f h16 H | replace H := bif_f2 h16 H (by simp only [List.length_append])
    refine Sm.exit ?_
    try simp only [seval, Exit.exit.injEq]
    refine ⟨⟨_, (Option.some.inj H).symm⟩, fun hz => ?_⟩
    have hyy := Sum.inr.inj ((Option.some.inj H).trans hz)
    subst hyy
    have H := Ho13
    try dsimp only at H
    try simp only [seval, Exit.exit.injEq]
    refine ⟨(out_2, at__1), H, ?_⟩
    exact weak_b [some 9003] rfl rfl rfl (by simp only [wk, z, seval, extent_Free_t3]) (by simp only [wk, z, seval, extent_Free_t3])
  rintro ⟨out, at_⟩ H
  try dsimp only at H
  unfold extent_Free_k1 at H
  refine Sm.cut (fun (x : (List TExtent)) => extent_Free_s2 x) (fun x => extent_Free_k2 n x = some r) ?_ ?_
  · refine Sm.seqA h00 mixed hΓ (by kernel_rfl) fun K9 hK9 => ?_
    simp only [rs]
    repeat (refine opsG fun K hK => ?_; simp only [z, seval, extent_Free_s1]; (repeat (first | refine gcI ?_ | refine fun (_ : _ ≤ _) => ?_)); refine hK _ ?_; clear hK K)
    refine hK9 _ ?_
    refine Sm.condK (by rfl) fun Ka Kb ha hb => ?_
    simp only [wpCond, z, seval, extent_Free_s1]
    refine ⟨fun h10 => ha ?_, fun h10 => hb ?_⟩
    · first | replace H := bif_t h10 H | replace H := bif_t2 h10 H (by simp only [List.length_append])
      obtain ⟨hg11, H⟩ := gd_some H
      refine Sm.regA h00 mixed hΓ (by kernel_rfl) ?_
      simp only [rs]
      repeat (refine opsG fun K hK => ?_; simp only [z, seval, extent_Free_s1]; (repeat (first | refine gcI ?_ | refine fun (_ : _ ≤ _) => ?_)); refine hK _ ?_; clear hK K)
      refine opsG0 ?_
      try simp only [seval, Exit.exit.injEq]
      refine ⟨_, H, ?_⟩
      exact weak_b [some 944] rfl rfl rfl (by simp only [wk, z, seval, extent_Free_s1]) (by simp only [wk, z, seval, extent_Free_s1])
    first | replace H := bif_f h10 H | replace H := bif_f2 h10 H (by simp only [List.length_append])
    refine Sm.skip ?_
    try simp only [seval, Exit.exit.injEq]
    refine ⟨_, H, ?_⟩
    exact weak_b [some 9000] rfl rfl rfl (by simp only [wk, z, seval, extent_Free_s1]) (by simp only [wk, z, seval, extent_Free_s1])
  rintro out_1 H
  try dsimp only at H
  unfold extent_Free_k2 at H
  refine Sm.seqA h00 mixed hΓ (by kernel_rfl) fun K8 hK8 => ?_
  simp only [rs]
  repeat (refine opsG fun K hK => ?_; simp only [z, seval, extent_Free_s2]; (repeat (first | refine gcI ?_ | refine fun (_ : _ ≤ _) => ?_)); refine hK _ ?_; clear hK K)
  refine hK8 _ ?_
  refine Sm.ret ?_
  try simp only [seval, Exit.exit.injEq]
  obtain rfl := Option.some.inj H
  refine Ret.ofR [some 9001] (.inr rfl) ?_
  simp only [z, seval, extent_Free_s2]
  try omega

def spool_New (n : Nat) (n_ : Int) : Option (TSpace × Int) :=
  bif (if (decide (n_ < 0)) = true then true else (decide (n_ > 512))) then
    some ((⟨0, []⟩ : TSpace), 6)
  else
    (extent_Free n [] n_).bind fun r1 =>
    some ((⟨n_, r1⟩ : TSpace), 0)

def xspool_New (n : Nat) : Go.AE.Fn := mkFn (A := Int) (R := TSpace × Int) 17 [(false, [.int .i64])] false (fun xs => (cg (xs.getD 0 []) 0).toInt) (fun a => [[.int a]]) (fun a => spool_New n a) (fun r => [.agg [.c (.int .i64) (.int r.1.Tracks), .own 0 [.int .i64, .int .i64] 0 r.1.Free.length], .c (.int .i64) (.int r.2)]) (fun r => [.row 52 (List.map e_TExtent r.1.Free)])

theorem cspool_New (n : Nat) : Contract Try.prog (xspool_New n) := by
  have hΓ : ∀ g, g ∈ ([xextent_Free n] : List Go.AE.Fn) → Contract Try.prog g := by
    intro g hg; simp only [List.mem_cons, List.not_mem_nil, or_false] at hg; subst hg; exact cextent_Free n
  refine contract_f (Try.f17.body.getD .skip) h00 Try.func17 rfl (by intro args w; exact Try.call17 args w) (by decide) (by
    intro _ r; refine ⟨rfl, ?_⟩; simp only [List.mem_cons, List.not_mem_nil, or_false]; rintro _ rfl
    · exact ⟨52, _, _, rfl, ty52, rfl⟩) ?_
  rintro n_ r H
  try dsimp only at H
  unfold spool_New at H
  simp only [Try.f17, Option.getD]
  refine Sm.seqA h00 mixed hΓ (by kernel_rfl) fun K1 hK1 => ?_
  simp only [rs]
  repeat (refine opsG fun K hK => ?_; simp only [z, seval]; (repeat (first | refine gcI ?_ | refine fun (_ : _ ≤ _) => ?_)); refine hK _ ?_; clear hK K)
  refine hK1 _ ?_
  refine Sm.seqK fun K2 hK2 => ?_
  refine Sm.seqA h00 mixed hΓ (by kernel_rfl) fun K3 hK3 => ?_
  simp only [rs]
  repeat (refine opsG fun K hK => ?_; simp only [z, seval]; (repeat (first | refine gcI ?_ | refine fun (_ : _ ≤ _) => ?_)); refine hK _ ?_; clear hK K)
  refine hK3 _ ?_
  refine Sm.condK (by rfl) fun Ka Kb ha hb => ?_
  simp only [wpCond, z, seval]
  refine ⟨fun h4 => ha ?_, fun h4 => hb ?_⟩
  · first | replace H := bif_t h4 H | replace H := bif_t2 h4 H (by simp only [List.length_append])
    refine Sm.seqA h00 mixed hΓ (by kernel_rfl) fun K5 hK5 => ?_
    simp only [rs]
    repeat (refine opsG fun K hK => ?_; simp only [z, seval]; (repeat (first | refine gcI ?_ | refine fun (_ : _ ≤ _) => ?_)); refine hK _ ?_; clear hK K)
    refine hK5 _ ?_
    refine Sm.ret ?_
    try simp only [seval, Exit.exit.injEq]
    obtain rfl := Option.some.inj H
    refine Ret.ofR [none] (.inr rfl) ?_
    simp only [z, seval]
    try omega
  first | replace H := bif_f h4 H | replace H := bif_f2 h4 H (by simp only [List.length_append])
  refine Sm.skip ?_
  refine hK2 _ ?_
  obtain ⟨r1, hr1, H⟩ := bind_some H
  refine Sm.seqA h00 mixed hΓ (by kernel_rfl) fun K6 hK6 => ?_
  simp only [rs]
  repeat (refine opsG fun K hK => ?_; simp only [z, seval, xextent_Free, hr1]; (repeat (first | refine gcI ?_ | refine fun (_ : _ ≤ _) => ?_)); refine hK _ ?_; clear hK K)
  refine hK6 _ ?_
  refine Sm.ret ?_
  try simp only [seval, Exit.exit.injEq]
  obtain rfl := Option.some.inj H
  refine Ret.ofR [some 208] (.inr rfl) ?_
  simp only [z, seval]
  try omega

abbrev law39_long_s1 (l : List TLine) : S := stB [(3, .own 9000 [.int .i64, .str] 0 l.length)] [(9000, .row 48 (List.map e_TLine l))]

def law39_long_k1 (n : Nat) (l : List TLine) : Option (List TLine) :=
  some l

abbrev law39_long_t2 (n_ : Int) (l_1 : List TLine) (i : Int) : S := stB [(0, .c (.int .i64) (.int n_)), (3, .own 9002 [.int .i64, .str] 0 l_1.length), (4, .c (.int .i64) (.int i))] [(9002, .row 48 (List.map e_TLine l_1))]

def law39_long_b2 (n : Nat) (n_ : Int) (l_1 : List TLine) (i : Int) : Option (((List TLine) × Int) ⊕ (((List TLine)))) :=
  bif (decide (i < n_)) then
    gd ((0 ≤ 132 ∧ 132 ≤ 132 ∧ 132 ≤ 2147483648)) <|
    gd (0 < (132 : Int) ∧ 0 < 132) <|
    gd ((l_1.length + 1) ≤ 2147483648) <|
    some (.inl ((l_1 ++ [(⟨9, (toStr8 (List.set (zreps 132 0) 0 (IntKind.wrap .u8 (i))))⟩ : TLine)]), (IntKind.wrap .i64 (i + 1))))
  else
    some (.inr l_1)

def law39_long (n : Nat) (n_ : Int) : Option (List TLine) :=
  (loopF (fun (x : (List TLine) × Int) => law39_long_b2 n n_ x.1 x.2) n ([], 0)).bind fun y5 =>
  law39_long_k1 n y5

def xlaw39_long (n : Nat) : Go.AE.Fn := mkFn (A := Int) (R := (List TLine)) 27 [(false, [.int .i64])] false (fun xs => (cg (xs.getD 0 []) 0).toInt) (fun a => [[.int a]]) (fun a => law39_long n a) (fun r => [.own 0 [.int .i64, .str] 0 r.length]) (fun r => [.row 48 (List.map e_TLine r)])

theorem claw39_long (n : Nat) : Contract Try.prog (xlaw39_long n) := by
  have hΓ : ∀ g, g ∈ ([] : List Go.AE.Fn) → Contract Try.prog g := by simp
  refine contract_f (Try.f27.body.getD .skip) h00 Try.func27 rfl (by intro args w; exact Try.call27 args w) (by decide) (by
    intro _ r; refine ⟨rfl, ?_⟩; simp only [List.mem_cons, List.not_mem_nil, or_false]; rintro _ rfl
    · exact ⟨48, _, _, rfl, ty48, rfl⟩) ?_
  rintro n_ r H
  try dsimp only at H
  unfold law39_long at H
  simp only [Try.f27, Option.getD]
  refine Sm.seqA h00 mixed hΓ (by kernel_rfl) fun K1 hK1 => ?_
  simp only [rs]
  repeat (refine opsG fun K hK => ?_; simp only [z, seval]; (repeat (first | refine gcI ?_ | refine fun (_ : _ ≤ _) => ?_)); refine hK _ ?_; clear hK K)
  refine hK1 _ ?_
  refine Sm.seqA h00 mixed hΓ (by kernel_rfl) fun K2 hK2 => ?_
  simp only [rs]
  repeat (refine opsG fun K hK => ?_; simp only [z, seval]; (repeat (first | refine gcI ?_ | refine fun (_ : _ ≤ _) => ?_)); refine hK _ ?_; clear hK K)
  refine hK2 _ ?_
  refine Sm.cut (fun (x : (List TLine)) => law39_long_s1 x) (fun x => law39_long_k1 n x = some r) ?_ ?_
  · refine Sm.seqA h00 mixed hΓ (by kernel_rfl) fun K4 hK4 => ?_
    simp only [rs]
    repeat (refine opsG fun K hK => ?_; simp only [z, seval]; (repeat (first | refine gcI ?_ | refine fun (_ : _ ≤ _) => ?_)); refine hK _ ?_; clear hK K)
    refine hK4 _ ?_
    refine Sm.block ?_
    obtain ⟨y5, hy5, Ho5⟩ := bind_some H
    refine Sm.loopB (fun (x : (List TLine) × Int) => law39_long_b2 n n_ x.1 x.2) (fun x => law39_long_t2 n_ x.1 x.2) hy5 ?_ ?_
    · exact weak_b [none] rfl rfl rfl (by simp only [wk, z, seval]) (by simp only [wk, z, seval])
    rintro ⟨l_1, i⟩ z5 H
    try dsimp only at H
    unfold law39_long_b2 at H
    refine Sm.seqK fun K6 hK6 => ?_
    refine Sm.seqA h00 mixed hΓ (by kernel_rfl) fun K7 hK7 => ?_
    simp only [rs]
    repeat (refine opsG fun K hK => ?_; simp only [z, seval, law39_long_t2]; (repeat (first | refine gcI ?_ | refine fun (_ : _ ≤ _) => ?_)); refine hK _ ?_; clear hK K)
    refine hK7 _ ?_
    refine Sm.condK (by rfl) fun Ka Kb ha hb => ?_
    simp only [wpCond, z, seval, law39_long_t2]
    refine ⟨fun h8 => ha ?_, fun h8 => hb ?_⟩
    · first | replace H := bif_t h8 H | replace H := bif_t2 h8 H (by simp only [List.length_append])
      refine Sm.skip ?_
      refine hK6 _ ?_
      refine Sm.seqK fun K9 hK9 => ?_
      refine Sm.block ?_
      refine Sm.seqX h00 mixed hΓ (by kernel_rfl) fun K10 hK10 => ?_
      simp only [rs]
      obtain ⟨hg11, H⟩ := gd_some H
      refine opsY fun K hK => ?_; simp only [z, seval, law39_long_t2]; (repeat (first | refine gcI ?_ | refine fun (_ : _ ≤ _) => ?_)); refine hK _ ?_; clear hK K
      (refine opsX fun K hK => ?_; simp only [z, seval, law39_long_t2]; (repeat (first | refine gcI ?_ | refine fun (_ : _ ≤ _) => ?_)); refine hK _ ?_; clear hK K)
      refine hK10 _ ?_
      obtain ⟨⟨hg14, hg15⟩, H⟩ := gd_some H
      refine Sm.seqA h00 mixed hΓ (by kernel_rfl) fun K12 hK12 => ?_
      simp only [rs]
      repeat (refine opsG fun K hK => ?_; simp only [z, seval, law39_long_t2]; (repeat (first | refine gcI ?_ | refine fun (_ : _ ≤ _) => ?_)); refine hK _ ?_; clear hK K)
      refine hK12 _ ?_
      refine Sm.rgX h00 mixed hΓ (by kernel_rfl) ?_
      simp only [rs]
      obtain ⟨hg13, H⟩ := gd_some H
      iterate 2 (refine opsX fun K hK => ?_; simp only [z, seval, law39_long_t2]; (repeat (first | refine gcI ?_ | refine fun (_ : _ ≤ _) => ?_)); refine hK _ ?_; clear hK K)
      refine opsE stepV_ok fun K hK => ?_; simp only [z, seval, law39_long_t2]; (repeat (first | refine gcI ?_ | refine fun (_ : _ ≤ _) => ?_)); refine hK _ ?_; clear hK K
      iterate 4 (refine opsX fun K hK => ?_; simp only [z, seval, law39_long_t2]; (repeat (first | refine gcI ?_ | refine fun (_ : _ ≤ _) => ?_)); refine hK _ ?_; clear hK K)
      refine opsX0 ?_
      refine hK9 _ ?_
      refine Sm.regA h00 mixed hΓ (by kernel_rfl) ?_
      simp only [rs]
      repeat (refine opsG fun K hK => ?_; simp only [z, seval, law39_long_t2]; (repeat (first | refine gcI ?_ | refine fun (_ : _ ≤ _) => ?_)); refine hK _ ?_; clear hK K)
      refine opsG0 ?_
      try simp only [seval, Exit.exit.injEq]
      refine ⟨(_, _), (Option.some.inj H).symm, ?_⟩
      exact weak_b [some 336] rfl rfl rfl (by simp only [wk, z, seval, law39_long_t2]) (by simp only [wk, z, seval, law39_long_t2])
    first | replace H := bif_f h8 H | replace H := bif_f2 h8 H (by simp only [List.length_append])
    refine Sm.exit ?_
    try simp only [seval, Exit.exit.injEq]
    refine ⟨⟨_, (Option.some.inj H).symm⟩, fun hz => ?_⟩
    have hyy := Sum.inr.inj ((Option.some.inj H).trans hz)
    subst hyy
    have H := Ho5
    try dsimp only at H
    try simp only [seval, Exit.exit.injEq]
    refine ⟨_, H, ?_⟩
    exact weak_b [some 9002] rfl rfl rfl (by simp only [wk, z, seval, law39_long_t2]) (by simp only [wk, z, seval, law39_long_t2])
  rintro l H
  try dsimp only at H
  unfold law39_long_k1 at H
  refine Sm.seqA h00 mixed hΓ (by kernel_rfl) fun K3 hK3 => ?_
  simp only [rs]
  repeat (refine opsG fun K hK => ?_; simp only [z, seval, law39_long_s1]; (repeat (first | refine gcI ?_ | refine fun (_ : _ ≤ _) => ?_)); refine hK _ ?_; clear hK K)
  refine hK3 _ ?_
  refine Sm.ret ?_
  try simp only [seval, Exit.exit.injEq]
  obtain rfl := Option.some.inj H
  refine Ret.ofR [some 9000] (.inr rfl) ?_
  simp only [z, seval, law39_long_s1]
  try omega

def law39_row (n : Nat) (l : List TExtent) (at_ : Int) (n_ : Int) : Option Bool :=
  bif (n_ == 0) then
    some ((l.length : Int) == 0)
  else
    gd ((((l.length : Int) == 1) = true → 0 < (l.length : Int))) <|
    some (if ((l.length : Int) == 1) = true then ((((gt l 0).At) == at_) && (((gt l 0).Len) == n_)) else false)

def xlaw39_row (n : Nat) : Go.AE.Fn := mkFn (A := (List TExtent) × Int × Int) (R := Bool) 28 [(false, [.slice 52]), (false, [.int .i64]), (false, [.int .i64])] false (fun xs => (((cg (xs.getD 0 []) 0).toSl.map d_TExtent), (cg (xs.getD 1 []) 0).toInt, (cg (xs.getD 2 []) 0).toInt)) (fun a => [[.slice (List.map e_TExtent a.1)], [.int a.2.1], [.int a.2.2]]) (fun a => law39_row n a.1 a.2.1 a.2.2) (fun r => [.c .bool (.bool r)]) (fun r => [])

theorem claw39_row (n : Nat) : Contract Try.prog (xlaw39_row n) := by
  have hΓ : ∀ g, g ∈ ([] : List Go.AE.Fn) → Contract Try.prog g := by simp
  refine contract_f (Try.f28.body.getD .skip) h00 Try.func28 rfl (by intro args w; exact Try.call28 args w) (by decide) (by intro _ r; exact ⟨rfl, by simp⟩) ?_
  rintro ⟨l, at_, n_⟩ r H
  try dsimp only at H
  unfold law39_row at H
  simp only [Try.f28, Option.getD]
  refine Sm.seqA h00 mixed hΓ (by kernel_rfl) fun K1 hK1 => ?_
  simp only [rs]
  repeat (refine opsG fun K hK => ?_; simp only [z, seval]; (repeat (first | refine gcI ?_ | refine fun (_ : _ ≤ _) => ?_)); refine hK _ ?_; clear hK K)
  refine hK1 _ ?_
  refine Sm.seqK fun K2 hK2 => ?_
  refine Sm.seqA h00 mixed hΓ (by kernel_rfl) fun K3 hK3 => ?_
  simp only [rs]
  repeat (refine opsG fun K hK => ?_; simp only [z, seval]; (repeat (first | refine gcI ?_ | refine fun (_ : _ ≤ _) => ?_)); refine hK _ ?_; clear hK K)
  refine hK3 _ ?_
  refine Sm.condK (by rfl) fun Ka Kb ha hb => ?_
  simp only [wpCond, z, seval]
  refine ⟨fun h4 => ha ?_, fun h4 => hb ?_⟩
  · first | replace H := bif_t h4 H | replace H := bif_t2 h4 H (by simp only [List.length_append])
    refine Sm.seqA h00 mixed hΓ (by kernel_rfl) fun K5 hK5 => ?_
    simp only [rs]
    repeat (refine opsG fun K hK => ?_; simp only [z, seval]; (repeat (first | refine gcI ?_ | refine fun (_ : _ ≤ _) => ?_)); refine hK _ ?_; clear hK K)
    refine hK5 _ ?_
    refine Sm.ret ?_
    try simp only [seval, Exit.exit.injEq]
    obtain rfl := Option.some.inj H
    refine Ret.ofR [] (.inr rfl) ?_
    simp only [z, seval]
  first | replace H := bif_f h4 H | replace H := bif_f2 h4 H (by simp only [List.length_append])
  refine Sm.skip ?_
  refine hK2 _ ?_
  obtain ⟨hg7, H⟩ := gd_some H
  refine Sm.seqA h00 mixed hΓ (by kernel_rfl) fun K6 hK6 => ?_
  simp only [rs]
  repeat (refine opsG fun K hK => ?_; simp only [z, seval]; (repeat (first | refine gcI ?_ | refine fun (_ : _ ≤ _) => ?_)); refine hK _ ?_; clear hK K)
  refine hK6 _ ?_
  refine Sm.ret ?_
  try simp only [seval, Exit.exit.injEq]
  obtain rfl := Option.some.inj H
  refine Ret.ofR [] (.inr rfl) ?_
  simp only [z, seval]

def bytes_Equal (n : Nat) (a : List Int) (b : List Int) : Option Bool :=
  some ((toStr8 a) == (toStr8 b))

def xbytes_Equal (n : Nat) : Go.AE.Fn := mkFn (A := (List Int) × (List Int)) (R := Bool) 72 [(false, [.slice 5]), (false, [.slice 5])] false (fun xs => (((cg (xs.getD 0 []) 0).toSl.map d_Int), ((cg (xs.getD 1 []) 0).toSl.map d_Int))) (fun a => [[.slice (List.map e_Int a.1)], [.slice (List.map e_Int a.2)]]) (fun a => bytes_Equal n a.1 a.2) (fun r => [.c .bool (.bool r)]) (fun r => [])

theorem cbytes_Equal (n : Nat) : Contract Try.prog (xbytes_Equal n) := by
  have hΓ : ∀ g, g ∈ ([] : List Go.AE.Fn) → Contract Try.prog g := by simp
  refine contract_f (Try.f72.body.getD .skip) h00 Try.func72 rfl (by intro args w; exact Try.call72 args w) (by decide) (by intro _ r; exact ⟨rfl, by simp⟩) ?_
  rintro ⟨a, b⟩ r H
  try dsimp only at H
  unfold bytes_Equal at H
  simp only [Try.f72, Option.getD]
  refine Sm.seqA h00 mixed hΓ (by kernel_rfl) fun K1 hK1 => ?_
  simp only [rs]
  repeat (refine opsG fun K hK => ?_; simp only [z, seval]; (repeat (first | refine gcI ?_ | refine fun (_ : _ ≤ _) => ?_)); refine hK _ ?_; clear hK K)
  refine hK1 _ ?_
  refine Sm.seqX h00 mixed hΓ (by kernel_rfl) fun K2 hK2 => ?_
  simp only [rs]
  (refine opsX fun K hK => ?_; simp only [z, seval]; (repeat (first | refine gcI ?_ | refine fun (_ : _ ≤ _) => ?_)); refine hK _ ?_; clear hK K)
  refine opsE stepV_ok fun K hK => ?_; simp only [z, seval]; (repeat (first | refine gcI ?_ | refine fun (_ : _ ≤ _) => ?_)); refine hK _ ?_; clear hK K
  (refine opsX fun K hK => ?_; simp only [z, seval]; (repeat (first | refine gcI ?_ | refine fun (_ : _ ≤ _) => ?_)); refine hK _ ?_; clear hK K)
  refine opsE stepV_ok fun K hK => ?_; simp only [z, seval]; (repeat (first | refine gcI ?_ | refine fun (_ : _ ≤ _) => ?_)); refine hK _ ?_; clear hK K
  iterate 2 (refine opsX fun K hK => ?_; simp only [z, seval]; (repeat (first | refine gcI ?_ | refine fun (_ : _ ≤ _) => ?_)); refine hK _ ?_; clear hK K)
  refine hK2 _ ?_
  refine Sm.ret ?_
  try simp only [seval, Exit.exit.injEq]
  obtain rfl := Option.some.inj H
  refine Ret.ofR [] (.inr rfl) ?_
  simp only [z, seval]

abbrev spool_group_s1 (l : List TLine) : S := stB [(6, .own 9000 [.int .i64, .str] 0 l.length)] [(9000, .row 48 (List.map e_TLine l))]

def spool_group_k1 (n : Nat) (l : List TLine) : Option ((List TLine) × Bool) :=
  some (l, true)

abbrev spool_group_t2 (b_1 : List Int) (l_1 : List TLine) : S := stB [(0, .c (.slice 5) (.slice (List.map e_Int b_1))), (6, .own 9002 [.int .i64, .str] 0 l_1.length)] [(9002, .row 48 (List.map e_TLine l_1))]

def spool_group_b2 (n : Nat) (b_1 : List Int) (l_1 : List TLine) : Option (((List Int) × (List TLine)) ⊕ ((((List TLine) × Bool) ⊕ ((List TLine))))) :=
  bif (decide ((b_1.length : Int) > 0)) then
    gd (((!(decide ((b_1.length : Int) < 2))) = true → 1 < (b_1.length : Int))) <|
    bif (if (decide ((b_1.length : Int) < 2)) = true then true else (decide ((b_1.length : Int) < (IntKind.wrap .i64 (2 + (IntKind.wrap .i64 ((gt b_1 1)))))))) then
      some (.inr (.inl ([], false)))
    else
      gd (1 < (b_1.length : Int)) <|
      gd (0 < (b_1.length : Int) ∧ (0 ≤ 2 ∧ 2 ≤ (IntKind.wrap .i64 (2 + (IntKind.wrap .i64 ((gt b_1 1))))) ∧ (IntKind.wrap .i64 (2 + (IntKind.wrap .i64 ((gt b_1 1))))) ≤ (b_1.length : Int)) ∧ (l_1.length + 1) ≤ 2147483648) <|
      gd ((0 ≤ (IntKind.wrap .i64 (2 + (IntKind.wrap .i64 ((gt b_1 1))))) ∧ (IntKind.wrap .i64 (2 + (IntKind.wrap .i64 ((gt b_1 1))))) ≤ (b_1.length : Int) ∧ (b_1.length : Int) ≤ (b_1.length : Int))) <|
      some (.inl ((List.drop (Int.toNat (IntKind.wrap .i64 (2 + (IntKind.wrap .i64 ((gt b_1 1)))))) b_1), (l_1 ++ [(⟨(IntKind.wrap .i64 ((gt b_1 0))), (toStr8 (List.drop 2 (List.take (Int.toNat (IntKind.wrap .i64 (2 + (IntKind.wrap .i64 ((gt b_1 1)))))) b_1)))⟩ : TLine)])))
  else
    some (.inr (.inr l_1))

def spool_group (n : Nat) (b : List Int) (at_ : Int) : Option ((List TLine) × Bool) :=
  gd (((!(decide ((b.length : Int) < 4))) = true → 4 ≤ (b.length : Int))) <|
  bif (decide ((b.length : Int) < 4)) then
    some ([], false)
  else
    gd ((!(decide ((b.length : Int) < 4))) = true) <|
    (spool_index n at_).bind fun r1 =>
    gd ((!(decide ((b.length : Int) < 4))) = true) <|
    (bytes_Equal n (List.take 4 b) r1).bind fun r2 =>
    bif (!r2) then
      some ([], false)
    else
      gd ((0 ≤ 4 ∧ 4 ≤ (b.length : Int) ∧ (b.length : Int) ≤ (b.length : Int))) <|
      (loopF (fun (x : (List Int) × (List TLine)) => spool_group_b2 n x.1 x.2) n ((List.drop 4 b), [])).bind fun y15 =>
      match y15 with
      | .inl v =>
        some (v.1, v.2)
      | .inr v =>
        spool_group_k1 n v

def xspool_group (n : Nat) : Go.AE.Fn := mkFn (A := (List Int) × Int) (R := (List TLine) × Bool) 51 [(false, [.slice 5]), (false, [.int .i64])] false (fun xs => (((cg (xs.getD 0 []) 0).toSl.map d_Int), (cg (xs.getD 1 []) 0).toInt)) (fun a => [[.slice (List.map e_Int a.1)], [.int a.2]]) (fun a => spool_group n a.1 a.2) (fun r => [.own 0 [.int .i64, .str] 0 r.1.length, .c .bool (.bool r.2)]) (fun r => [.row 48 (List.map e_TLine r.1)])

theorem cspool_group (n : Nat) : Contract Try.prog (xspool_group n) := by
  have hΓ : ∀ g, g ∈ ([xspool_index n, xbytes_Equal n] : List Go.AE.Fn) → Contract Try.prog g := by
    intro g hg; simp only [List.mem_cons, List.not_mem_nil, or_false] at hg; rcases hg with rfl | rfl; exact cspool_index n; exact cbytes_Equal n
  refine contract_f (Try.f51.body.getD .skip) h00 Try.func51 rfl (by intro args w; exact Try.call51 args w) (by decide) (by
    intro _ r; refine ⟨rfl, ?_⟩; simp only [List.mem_cons, List.not_mem_nil, or_false]; rintro _ rfl
    · exact ⟨48, _, _, rfl, ty48, rfl⟩) ?_
  rintro ⟨b, at_⟩ r H
  try dsimp only at H
  unfold spool_group at H
  simp only [Try.f51, Option.getD]
  refine Sm.seqA h00 mixed hΓ (by kernel_rfl) fun K1 hK1 => ?_
  simp only [rs]
  repeat (refine opsG fun K hK => ?_; simp only [z, seval]; (repeat (first | refine gcI ?_ | refine fun (_ : _ ≤ _) => ?_)); refine hK _ ?_; clear hK K)
  refine hK1 _ ?_
  refine Sm.seqK fun K2 hK2 => ?_
  obtain ⟨hg4, H⟩ := gd_some H
  refine bif_cases H (fun hs5 H => ?_) (fun hs5 H => ?_)
  · try simp only [hs5, Bool.not_false, Bool.not_true, Bool.false_eq_true, true_implies, false_implies, forall_const] at hg4
    refine Sm.seqQ h00 mixed hΓ [0, 1, 2, 3, 4, 5, 6, 7, 8, 9, 10] [(none, [], []), (none, [], []), (none, [], []), (none, [], []), (none, [], []), (none, [], []), (none, [], []), (some false, [], []), (some false, [], []), (some false, [], []), (some true, [], [])] (by kernel_rfl) rfl fun K3 hK3 => ?_
    simp only [rs]
    iterate 11 (refine opsQ fun K hK => ?_; simp only [z, seval, xspool_index, xbytes_Equal, hs5]; (repeat (first | refine gcI ?_ | refine fun (_ : _ ≤ _) => ?_)); refine hK _ ?_; clear hK K)
    refine opsQ0 ?_
    refine hK3 _ ?_
    refine Sm.condK (by rfl) fun Ka Kb ha hb => ?_
    simp only [wpCond, z, seval]
    refine ha ?_
    refine Sm.seqA h00 mixed hΓ (by kernel_rfl) fun K7 hK7 => ?_
    simp only [rs]
    repeat (refine opsG fun K hK => ?_; simp only [z, seval]; (repeat (first | refine gcI ?_ | refine fun (_ : _ ≤ _) => ?_)); refine hK _ ?_; clear hK K)
    refine hK7 _ ?_
    refine Sm.ret ?_
    try simp only [seval, Exit.exit.injEq]
    obtain rfl := Option.some.inj H
    refine Ret.ofR [none] (.inr rfl) ?_
    simp only [z, seval]
    try omega
  try simp only [hs5, Bool.not_false, Bool.not_true, Bool.false_eq_true, true_implies, false_implies, forall_const] at hg4
  obtain ⟨hg8, H⟩ := gd_some H
  obtain ⟨r1, hr1, H⟩ := bind_some H
  obtain ⟨hg9, H⟩ := gd_some H
  obtain ⟨r2, hr2, H⟩ := bind_some H
  refine Sm.seqQ h00 mixed hΓ [0, 1, 2, 3, 4, 5, 6, 7, 8, 9, 10] [(none, [], []), (none, [], []), (none, [], []), (none, [], []), (none, [], []), (none, [], []), (none, [], []), (some true, [], [255, 254, 253, 252, 251, 250, 249, 248, 247, 246, 245, 244, 243, 242, 241, 240]), (some true, [240], [271, 270, 269, 268, 267, 266, 265, 264, 263, 262, 261, 260, 259, 258, 257, 256, 240]), (some true, [], []), (some false, [], [])] (by kernel_rfl) rfl fun K3 hK3 => ?_
  simp only [rs]
  iterate 11 (refine opsQ fun K hK => ?_; simp only [z, seval, xspool_index, xbytes_Equal, hs5, hr1, hr2]; (repeat (first | refine gcI ?_ | refine fun (_ : _ ≤ _) => ?_)); refine hK _ ?_; clear hK K)
  refine opsQ0 ?_
  refine hK3 _ ?_
  refine Sm.condK (by rfl) fun Ka Kb ha hb => ?_
  simp only [wpCond, z, seval]
  refine ⟨fun h10 => ha ?_, fun h10 => hb ?_⟩
  · first | replace H := bif_t h10 H | replace H := bif_t2 h10 H (by simp only [List.length_append])
    refine Sm.seqA h00 mixed hΓ (by kernel_rfl) fun K11 hK11 => ?_
    simp only [rs]
    repeat (refine opsG fun K hK => ?_; simp only [z, seval]; (repeat (first | refine gcI ?_ | refine fun (_ : _ ≤ _) => ?_)); refine hK _ ?_; clear hK K)
    refine hK11 _ ?_
    refine Sm.ret ?_
    try simp only [seval, Exit.exit.injEq]
    obtain rfl := Option.some.inj H
    refine Ret.ofR [none] (.inr rfl) ?_
    simp only [z, seval]
    try omega
  first | replace H := bif_f h10 H | replace H := bif_f2 h10 H (by simp only [List.length_append])
  refine Sm.skip ?_
  refine hK2 _ ?_
  refine Sm.seqA h00 mixed hΓ (by kernel_rfl) fun K12 hK12 => ?_
  simp only [rs]
  repeat (refine opsG fun K hK => ?_; simp only [z, seval]; (repeat (first | refine gcI ?_ | refine fun (_ : _ ≤ _) => ?_)); refine hK _ ?_; clear hK K)
  refine hK12 _ ?_
  refine Sm.cut (fun (x : (List TLine)) => spool_group_s1 x) (fun x => spool_group_k1 n x = some r) ?_ ?_
  · obtain ⟨hg31, H⟩ := gd_some H
    refine Sm.seqA h00 mixed hΓ (by kernel_rfl) fun K14 hK14 => ?_
    simp only [rs]
    repeat (refine opsG fun K hK => ?_; simp only [z, seval]; (repeat (first | refine gcI ?_ | refine fun (_ : _ ≤ _) => ?_)); refine hK _ ?_; clear hK K)
    refine hK14 _ ?_
    refine Sm.block ?_
    obtain ⟨y15, hy15, Ho15⟩ := bind_some H
    refine Sm.loopB (fun (x : (List Int) × (List TLine)) => spool_group_b2 n x.1 x.2) (fun x => spool_group_t2 x.1 x.2) hy15 ?_ ?_
    · exact weak_b [none] rfl rfl rfl (by simp only [wk, z, seval]) (by simp only [wk, z, seval])
    rintro ⟨b_1, l_1⟩ z15 H
    try dsimp only at H
    unfold spool_group_b2 at H
    refine Sm.seqK fun K16 hK16 => ?_
    refine Sm.seqA h00 mixed hΓ (by kernel_rfl) fun K17 hK17 => ?_
    simp only [rs]
    repeat (refine opsG fun K hK => ?_; simp only [z, seval, spool_group_t2]; (repeat (first | refine gcI ?_ | refine fun (_ : _ ≤ _) => ?_)); refine hK _ ?_; clear hK K)
    refine hK17 _ ?_
    refine Sm.condK (by rfl) fun Ka Kb ha hb => ?_
    simp only [wpCond, z, seval, spool_group_t2]
    refine ⟨fun h18 => ha ?_, fun h18 => hb ?_⟩
    · first | replace H := bif_t h18 H | replace H := bif_t2 h18 H (by simp only [List.length_append])
      refine Sm.skip ?_
      refine hK16 _ ?_
      refine Sm.block ?_
      refine Sm.seqK fun K19 hK19 => ?_
      obtain ⟨hg30, H⟩ := gd_some H
      refine Sm.seqA h00 mixed hΓ (by kernel_rfl) fun K20 hK20 => ?_
      simp only [rs]
      repeat (refine opsG fun K hK => ?_; simp only [z, seval, spool_group_t2]; (repeat (first | refine gcI ?_ | refine fun (_ : _ ≤ _) => ?_)); refine hK _ ?_; clear hK K)
      refine hK20 _ ?_
      refine Sm.condK (by rfl) fun Ka Kb ha hb => ?_
      simp only [wpCond, z, seval, spool_group_t2]
      refine ⟨fun h21 => ha ?_, fun h21 => hb ?_⟩
      · first | replace H := bif_t h21 H | replace H := bif_t2 h21 H (by simp only [List.length_append])
        refine Sm.seqA h00 mixed hΓ (by kernel_rfl) fun K22 hK22 => ?_
        simp only [rs]
        repeat (refine opsG fun K hK => ?_; simp only [z, seval, spool_group_t2]; (repeat (first | refine gcI ?_ | refine fun (_ : _ ≤ _) => ?_)); refine hK _ ?_; clear hK K)
        refine hK22 _ ?_
        refine Sm.ret ?_
        try simp only [seval, Exit.exit.injEq]
        refine ⟨⟨_, (Option.some.inj H).symm⟩, fun hz => ?_⟩
        have hyy := Sum.inr.inj ((Option.some.inj H).trans hz)
        subst hyy
        have H := Ho15
        try dsimp only at H
        try simp only [seval, Exit.exit.injEq]
        obtain rfl := Option.some.inj H
        refine Ret.ofR [none] (.inr rfl) ?_
        simp only [z, seval, spool_group_t2]
        try omega
      first | replace H := bif_f h21 H | replace H := bif_f2 h21 H (by simp only [List.length_append])
      refine Sm.skip ?_
      refine hK19 _ ?_
      obtain ⟨hg29, H⟩ := gd_some H
      refine Sm.seqA h00 mixed hΓ (by kernel_rfl) fun K23 hK23 => ?_
      simp only [rs]
      repeat (refine opsG fun K hK => ?_; simp only [z, seval, spool_group_t2]; (repeat (first | refine gcI ?_ | refine fun (_ : _ ≤ _) => ?_)); refine hK _ ?_; clear hK K)
      refine hK23 _ ?_
      obtain ⟨⟨hg25, hg26, hg27⟩, H⟩ := gd_some H
      refine Sm.seqQ h00 mixed hΓ [0, 1, 2, 3, 4, 5, 6, 7, 8, 9, 10, 11, 12] [(none, [], []), (none, [], []), (none, [], []), (none, [], []), (none, [], []), (none, [], []), (none, [], []), (none, [], []), (none, [1000001], []), (none, [], []), (none, [], [832]), (none, [832, 9002], [848, 9002]), (none, [], [])] (by kernel_rfl) rfl fun K24 hK24 => ?_
      simp only [rs]
      iterate 8 (refine opsQ fun K hK => ?_; simp only [z, seval, spool_group_t2]; (repeat (first | refine gcI ?_ | refine fun (_ : _ ≤ _) => ?_)); refine hK _ ?_; clear hK K)
      iterate 1 (refine opsQV (by rfl) fun K hK => ?_; simp only [z, seval, spool_group_t2]; (repeat (first | refine gcI ?_ | refine fun (_ : _ ≤ _) => ?_)); refine hK _ ?_; clear hK K)
      iterate 4 (refine opsQ fun K hK => ?_; simp only [z, seval, spool_group_t2]; (repeat (first | refine gcI ?_ | refine fun (_ : _ ≤ _) => ?_)); refine hK _ ?_; clear hK K)
      refine opsQ0 ?_
      refine hK24 _ ?_
      obtain ⟨hg28, H⟩ := gd_some H
      refine Sm.regA h00 mixed hΓ (by kernel_rfl) ?_
      simp only [rs]
      repeat (refine opsG fun K hK => ?_; simp only [z, seval, spool_group_t2]; (repeat (first | refine gcI ?_ | refine fun (_ : _ ≤ _) => ?_)); refine hK _ ?_; clear hK K)
      refine opsG0 ?_
      try simp only [seval, Exit.exit.injEq]
      refine ⟨(_, _), (Option.some.inj H).symm, ?_⟩
      exact weak_b [some 848] rfl rfl rfl (by simp only [wk, z, seval, spool_group_t2]) (by simp only [wk, z, seval, spool_group_t2])
    first | replace H := bif_f h18 H | replace H := bif_f2 h18 H (by simp only [List.length_append])
    refine Sm.exit ?_
    try simp only [seval, Exit.exit.injEq]
    refine ⟨⟨_, (Option.some.inj H).symm⟩, fun hz => ?_⟩
    have hyy := Sum.inr.inj ((Option.some.inj H).trans hz)
    subst hyy
    have H := Ho15
    try dsimp only at H
    try simp only [seval, Exit.exit.injEq]
    refine ⟨_, H, ?_⟩
    exact weak_b [some 9002] rfl rfl rfl (by simp only [wk, z, seval, spool_group_t2]) (by simp only [wk, z, seval, spool_group_t2])
  rintro l H
  try dsimp only at H
  unfold spool_group_k1 at H
  refine Sm.seqA h00 mixed hΓ (by kernel_rfl) fun K13 hK13 => ?_
  simp only [rs]
  repeat (refine opsG fun K hK => ?_; simp only [z, seval, spool_group_s1]; (repeat (first | refine gcI ?_ | refine fun (_ : _ ≤ _) => ?_)); refine hK _ ?_; clear hK K)
  refine hK13 _ ?_
  refine Sm.ret ?_
  try simp only [seval, Exit.exit.injEq]
  obtain rfl := Option.some.inj H
  refine Ret.ofR [some 9000] (.inr rfl) ?_
  simp only [z, seval, spool_group_s1]
  try omega

def spool_same (n : Nat) (a : TRec) (b : TRec) : Option Bool :=
  gd (((if (a.R == b.R) = true then (a.Bad == b.Bad) else false) = true → (bytes_Equal n a.Key b.Key).isSome = true) ∧ ((if (if (a.R == b.R) = true then (a.Bad == b.Bad) else false) = true then ((bytes_Equal n a.Key b.Key).getD default) else false) = true → (bytes_Equal n a.Data b.Data).isSome = true)) <|
  some (if (if (if (a.R == b.R) = true then (a.Bad == b.Bad) else false) = true then ((bytes_Equal n a.Key b.Key).getD default) else false) = true then ((bytes_Equal n a.Data b.Data).getD default) else false)

def xspool_same (n : Nat) : Go.AE.Fn := mkFn (A := TRec × TRec) (R := Bool) 55 [(true, [.int .i64, .slice 5, .slice 5, .bool]), (true, [.int .i64, .slice 5, .slice 5, .bool])] false (fun xs => ((⟨(cg (xs.getD 0 []) 0).toInt, ((cg (xs.getD 0 []) 1).toSl.map d_Int), ((cg (xs.getD 0 []) 2).toSl.map d_Int), (cg (xs.getD 0 []) 3).toBool⟩ : TRec), (⟨(cg (xs.getD 1 []) 0).toInt, ((cg (xs.getD 1 []) 1).toSl.map d_Int), ((cg (xs.getD 1 []) 2).toSl.map d_Int), (cg (xs.getD 1 []) 3).toBool⟩ : TRec))) (fun a => [[.int a.1.R, .slice (List.map e_Int a.1.Key), .slice (List.map e_Int a.1.Data), .bool a.1.Bad], [.int a.2.R, .slice (List.map e_Int a.2.Key), .slice (List.map e_Int a.2.Data), .bool a.2.Bad]]) (fun a => spool_same n a.1 a.2) (fun r => [.c .bool (.bool r)]) (fun r => [])

theorem cspool_same (n : Nat) : Contract Try.prog (xspool_same n) := by
  have hΓ : ∀ g, g ∈ ([xbytes_Equal n] : List Go.AE.Fn) → Contract Try.prog g := by
    intro g hg; simp only [List.mem_cons, List.not_mem_nil, or_false] at hg; subst hg; exact cbytes_Equal n
  refine contract_f (Try.f55.body.getD .skip) h00 Try.func55 rfl (by intro args w; exact Try.call55 args w) (by decide) (by intro _ r; exact ⟨rfl, by simp⟩) ?_
  rintro ⟨a, b⟩ r H
  try dsimp only at H
  unfold spool_same at H
  simp only [Try.f55, Option.getD]
  refine Sm.seqA h00 mixed hΓ (by kernel_rfl) fun K1 hK1 => ?_
  simp only [rs]
  repeat (refine opsG fun K hK => ?_; simp only [z, seval]; (repeat (first | refine gcI ?_ | refine fun (_ : _ ≤ _) => ?_)); refine hK _ ?_; clear hK K)
  refine hK1 _ ?_
  obtain ⟨⟨hg3, hg4⟩, H⟩ := gd_some H
  refine Sm.seqA h00 mixed hΓ (by kernel_rfl) fun K2 hK2 => ?_
  simp only [rs]
  repeat (refine opsG fun K hK => ?_; simp only [z, seval, xbytes_Equal]; (repeat (first | refine gcI ?_ | refine fun (_ : _ ≤ _) => ?_)); refine hK _ ?_; clear hK K)
  refine hK2 _ ?_
  refine Sm.ret ?_
  try simp only [seval, Exit.exit.injEq]
  obtain rfl := Option.some.inj H
  refine Ret.ofR [] (.inr rfl) ?_
  simp only [z, seval]

abbrev slices_EqualFunc_f54_M1_s1 : S := stB [] []

def slices_EqualFunc_f54_M1_k1 (n : Nat) : Option Bool :=
  some true

abbrev slices_EqualFunc_f54_M1_t2 (s2 : List TRec) (s1 : List TRec) (v16 : Int) (v17 : Int) : S := stB [(1, .c (.slice 59) (.slice (List.map e_TRec s2))), (2, .fnv 55 []), (15, .c (.slice 59) (.slice (List.map e_TRec s1))), (16, .c (.int .i64) (.int v16)), (17, .c (.int .i64) (.int v17))] []

def slices_EqualFunc_f54_M1_b2 (n : Nat) (s2 : List TRec) (s1 : List TRec) (v16 : Int) (v17 : Int) : Option ((Int) ⊕ (((Bool) ⊕ (Unit)))) :=
  bif (decide (v17 < v16)) then
    gd ((0 ≤ v17 ∧ v17 < (s1.length : Int))) <|
    gd ((0 ≤ v17 ∧ v17 < (s2.length : Int))) <|
    (spool_same n (gt s1 (Int.toNat v17)) (gt s2 (Int.toNat v17))).bind fun r1 =>
    bif (!r1) then
      some (.inr (.inl false))
    else
      some (.inl (IntKind.wrap .i64 (v17 + 1)))
  else
    some (.inr (.inr ()))

def slices_EqualFunc_f54_M1 (n : Nat) (s1 : List TRec) (s2 : List TRec) : Option Bool :=
  bif ((s1.length : Int) != (s2.length : Int)) then
    some false
  else
    (loopF (fun (x : Int) => slices_EqualFunc_f54_M1_b2 n s2 s1 (s1.length : Int) x) n 0).bind fun y8 =>
    match y8 with
    | .inl v =>
      some v
    | .inr v =>
      slices_EqualFunc_f54_M1_k1 n

theorem cslices_EqualFunc_f54_M1 (n : Nat) (s1 : List TRec) (s2 : List TRec) (r : Bool) (H : slices_EqualFunc_f54_M1 n s1 s2 = some r) : CallsM Try.prog 54 [.dat (false, [.slice 59]) [.slice (List.map e_TRec s1)], .dat (false, [.slice 59]) [.slice (List.map e_TRec s2)], .ref (.fnv 55 [])] [] [.c .bool (.bool r)] [] := by
  have hΓ : ∀ g, g ∈ ([xspool_same n] : List Go.AE.Fn) → Contract Try.prog g := by
    intro g hg; simp only [List.mem_cons, List.not_mem_nil, or_false] at hg; subst hg; exact cspool_same n
  refine callsM_of (Try.f54.body.getD .skip) h00 Try.func54 rfl (by intro args w; exact Try.call54 args w) (Nat.le_of_ble_eq_true rfl) (Nat.le_of_ble_eq_true rfl) ?_
  unfold slices_EqualFunc_f54_M1 at H
  simp only [Try.f54, Option.getD]
  refine Sm.seqA h00 mixed hΓ (by kernel_rfl) fun K1 hK1 => ?_
  simp only [rs]
  repeat (refine opsG fun K hK => ?_; simp only [z, seval]; (repeat (first | refine gcI ?_ | refine fun (_ : _ ≤ _) => ?_)); refine hK _ ?_; clear hK K)
  refine hK1 _ ?_
  refine Sm.seqK fun K2 hK2 => ?_
  refine Sm.seqA h00 mixed hΓ (by kernel_rfl) fun K3 hK3 => ?_
  simp only [rs]
  repeat (refine opsG fun K hK => ?_; simp only [z, seval]; (repeat (first | refine gcI ?_ | refine fun (_ : _ ≤ _) => ?_)); refine hK _ ?_; clear hK K)
  refine hK3 _ ?_
  refine Sm.condK (by rfl) fun Ka Kb ha hb => ?_
  simp only [wpCond, z, seval]
  refine ⟨fun h4 => ha ?_, fun h4 => hb ?_⟩
  · first | replace H := bif_t h4 H | replace H := bif_t2 h4 H (by simp only [List.length_append])
    refine Sm.seqA h00 mixed hΓ (by kernel_rfl) fun K5 hK5 => ?_
    simp only [rs]
    repeat (refine opsG fun K hK => ?_; simp only [z, seval]; (repeat (first | refine gcI ?_ | refine fun (_ : _ ≤ _) => ?_)); refine hK _ ?_; clear hK K)
    refine hK5 _ ?_
    refine Sm.ret ?_
    try simp only [seval, Exit.exit.injEq]
    obtain rfl := Option.some.inj H
    refine RetM.mk (.inr rfl) [] rfl ?_
    simp only [z, seval]
  first | replace H := bif_f h4 H | replace H := bif_f2 h4 H (by simp only [List.length_append])
  refine Sm.skip ?_
  refine hK2 _ ?_
  refine Sm.cut (fun (x : Unit) => slices_EqualFunc_f54_M1_s1) (fun x => slices_EqualFunc_f54_M1_k1 n = some r) ?_ ?_
  · refine Sm.seqA h00 mixed hΓ (by kernel_rfl) fun K7 hK7 => ?_
    simp only [rs]
    repeat (refine opsG fun K hK => ?_; simp only [z, seval]; (repeat (first | refine gcI ?_ | refine fun (_ : _ ≤ _) => ?_)); refine hK _ ?_; clear hK K)
    refine hK7 _ ?_
    refine Sm.block ?_
    obtain ⟨y8, hy8, Ho8⟩ := bind_some H
    refine Sm.loopB (fun (x : Int) => slices_EqualFunc_f54_M1_b2 n s2 s1 (s1.length : Int) x) (fun x => slices_EqualFunc_f54_M1_t2 s2 s1 (s1.length : Int) x) hy8 ?_ ?_
    · exact weak_b [] rfl rfl rfl (by simp only [wk, z, seval]) (by simp only [wk, z, seval])
    rintro v17 z8 H
    try dsimp only at H
    unfold slices_EqualFunc_f54_M1_b2 at H
    refine Sm.seqA h00 mixed hΓ (by kernel_rfl) fun K9 hK9 => ?_
    simp only [rs]
    repeat (refine opsG fun K hK => ?_; simp only [z, seval, slices_EqualFunc_f54_M1_t2]; (repeat (first | refine gcI ?_ | refine fun (_ : _ ≤ _) => ?_)); refine hK _ ?_; clear hK K)
    refine hK9 _ ?_
    refine Sm.seqK fun K10 hK10 => ?_
    refine Sm.condK (by rfl) fun Ka Kb ha hb => ?_
    simp only [wpCond, z, seval, slices_EqualFunc_f54_M1_t2]
    refine ⟨fun h11 => ha ?_, fun h11 => hb ?_⟩
    · first | replace H := bif_t h11 H | replace H := bif_t2 h11 H (by simp only [List.length_append])
      refine Sm.skip ?_
      refine hK10 _ ?_
      refine Sm.seqK fun K12 hK12 => ?_
      refine Sm.block ?_
      obtain ⟨hg19, H⟩ := gd_some H
      refine Sm.seqA h00 mixed hΓ (by kernel_rfl) fun K13 hK13 => ?_
      simp only [rs]
      repeat (refine opsG fun K hK => ?_; simp only [z, seval, slices_EqualFunc_f54_M1_t2]; (repeat (first | refine gcI ?_ | refine fun (_ : _ ≤ _) => ?_)); refine hK _ ?_; clear hK K)
      refine hK13 _ ?_
      obtain ⟨hg18, H⟩ := gd_some H
      refine Sm.seqA h00 mixed hΓ (by kernel_rfl) fun K14 hK14 => ?_
      simp only [rs]
      repeat (refine opsG fun K hK => ?_; simp only [z, seval, slices_EqualFunc_f54_M1_t2]; (repeat (first | refine gcI ?_ | refine fun (_ : _ ≤ _) => ?_)); refine hK _ ?_; clear hK K)
      refine hK14 _ ?_
      obtain ⟨r1, hr1, H⟩ := bind_some H
      refine Sm.seqA h00 mixed hΓ (by kernel_rfl) fun K15 hK15 => ?_
      simp only [rs]
      repeat (refine opsG fun K hK => ?_; simp only [z, seval, slices_EqualFunc_f54_M1_t2, xspool_same, hr1]; (repeat (first | refine gcI ?_ | refine fun (_ : _ ≤ _) => ?_)); refine hK _ ?_; clear hK K)
      refine hK15 _ ?_
      refine Sm.condK (by rfl) fun Ka Kb ha hb => ?_
      simp only [wpCond, z, seval, slices_EqualFunc_f54_M1_t2]
      refine ⟨fun h16 => ha ?_, fun h16 => hb ?_⟩
      · first | replace H := bif_t h16 H | replace H := bif_t2 h16 H (by simp only [List.length_append])
        refine Sm.seqA h00 mixed hΓ (by kernel_rfl) fun K17 hK17 => ?_
        simp only [rs]
        repeat (refine opsG fun K hK => ?_; simp only [z, seval, slices_EqualFunc_f54_M1_t2]; (repeat (first | refine gcI ?_ | refine fun (_ : _ ≤ _) => ?_)); refine hK _ ?_; clear hK K)
        refine hK17 _ ?_
        refine Sm.ret ?_
        try simp only [seval, Exit.exit.injEq]
        refine ⟨⟨_, (Option.some.inj H).symm⟩, fun hz => ?_⟩
        have hyy := Sum.inr.inj ((Option.some.inj H).trans hz)
        subst hyy
        have H := Ho8
        try dsimp only at H
        try simp only [seval, Exit.exit.injEq]
        obtain rfl := Option.some.inj H
        refine RetM.mk (.inr rfl) [] rfl ?_
        simp only [z, seval, slices_EqualFunc_f54_M1_t2]
      first | replace H := bif_f h16 H | replace H := bif_f2 h16 H (by simp only [List.length_append])
      refine Sm.skip ?_
      refine hK12 _ ?_
      refine Sm.regA h00 mixed hΓ (by kernel_rfl) ?_
      simp only [rs]
      repeat (refine opsG fun K hK => ?_; simp only [z, seval, slices_EqualFunc_f54_M1_t2]; (repeat (first | refine gcI ?_ | refine fun (_ : _ ≤ _) => ?_)); refine hK _ ?_; clear hK K)
      refine opsG0 ?_
      try simp only [seval, Exit.exit.injEq]
      refine ⟨_, (Option.some.inj H).symm, ?_⟩
      exact weak_b [] rfl rfl rfl (by simp only [wk, z, seval, slices_EqualFunc_f54_M1_t2]) (by simp only [wk, z, seval, slices_EqualFunc_f54_M1_t2])
    first | replace H := bif_f h11 H | replace H := bif_f2 h11 H (by simp only [List.length_append])
    refine Sm.exit ?_
    try simp only [seval, Exit.exit.injEq]
    refine ⟨⟨_, (Option.some.inj H).symm⟩, fun hz => ?_⟩
    have hyy := Sum.inr.inj ((Option.some.inj H).trans hz)
    subst hyy
    have H := Ho8
    try dsimp only at H
    try simp only [seval, Exit.exit.injEq]
    refine ⟨(), H, ?_⟩
    exact weak_b [] rfl rfl rfl (by simp only [wk, z, seval, slices_EqualFunc_f54_M1_t2]) (by simp only [wk, z, seval, slices_EqualFunc_f54_M1_t2])
  rintro ⟨⟩ H
  try dsimp only at H
  unfold slices_EqualFunc_f54_M1_k1 at H
  refine Sm.seqA h00 mixed hΓ (by kernel_rfl) fun K6 hK6 => ?_
  simp only [rs]
  repeat (refine opsG fun K hK => ?_; simp only [z, seval, slices_EqualFunc_f54_M1_s1]; (repeat (first | refine gcI ?_ | refine fun (_ : _ ≤ _) => ?_)); refine hK _ ?_; clear hK K)
  refine hK6 _ ?_
  refine Sm.ret ?_
  try simp only [seval, Exit.exit.injEq]
  obtain rfl := Option.some.inj H
  refine RetM.mk (.inr rfl) [] rfl ?_
  simp only [z, seval, slices_EqualFunc_f54_M1_s1]

def spool_Lines_1 (n : Nat) (a : List TRec) (b : List TRec) : Option Bool :=
  (slices_EqualFunc_f54_M1 n a b).bind fun r1 =>
  some r1

def xspool_Lines_1 (n : Nat) : Go.AE.Fn := mkFn (A := (List TRec) × (List TRec)) (R := Bool) 53 [(false, [.slice 59]), (false, [.slice 59])] false (fun xs => (((cg (xs.getD 0 []) 0).toSl.map d_TRec), ((cg (xs.getD 1 []) 0).toSl.map d_TRec))) (fun a => [[.slice (List.map e_TRec a.1)], [.slice (List.map e_TRec a.2)]]) (fun a => spool_Lines_1 n a.1 a.2) (fun r => [.c .bool (.bool r)]) (fun r => [])

theorem cspool_Lines_1 (n : Nat) : Contract Try.prog (xspool_Lines_1 n) := by
  have hΓ : ∀ g, g ∈ ([] : List Go.AE.Fn) → Contract Try.prog g := by simp
  refine contract_f (Try.f53.body.getD .skip) h00 Try.func53 rfl (by intro args w; exact Try.call53 args w) (by decide) (by intro _ r; exact ⟨rfl, by simp⟩) ?_
  rintro ⟨a, b⟩ r H
  try dsimp only at H
  unfold spool_Lines_1 at H
  simp only [Try.f53, Option.getD]
  refine Sm.seqA h00 mixed hΓ (by kernel_rfl) fun K1 hK1 => ?_
  simp only [rs]
  repeat (refine opsG fun K hK => ?_; simp only [z, seval]; (repeat (first | refine gcI ?_ | refine fun (_ : _ ≤ _) => ?_)); refine hK _ ?_; clear hK K)
  refine hK1 _ ?_
  refine Sm.seqX h00 mixed hΓ (by kernel_rfl) fun K2 hK2 => ?_
  simp only [rs]
  obtain ⟨r1, hr1, H⟩ := bind_some H
  iterate 2 (refine opsX fun K hK => ?_; simp only [z, seval]; (repeat (first | refine gcI ?_ | refine fun (_ : _ ≤ _) => ?_)); refine hK _ ?_; clear hK K)
  refine opsM (cslices_EqualFunc_f54_M1 n _ _ r1 hr1) [] [] (by simp only [z, seval, hr1]; try rfl) (by simp only [z, seval, hr1]) (by simp only [z, seval, hr1]) (by simp only [z, seval, hr1]) (by simp only [z, seval, hr1]) rfl (by simp only [z, seval, hr1]) rfl ?_
  (refine opsX fun K hK => ?_; simp only [z, seval, hr1]; (repeat (first | refine gcI ?_ | refine fun (_ : _ ≤ _) => ?_)); refine hK _ ?_; clear hK K)
  refine hK2 _ ?_
  refine Sm.ret ?_
  try simp only [seval, Exit.exit.injEq]
  obtain rfl := Option.some.inj H
  refine Ret.ofR [] (.inr rfl) ?_
  simp only [z, seval]

abbrev slices_EqualFunc_f52_M1_s1 : S := stB [] []

def slices_EqualFunc_f52_M1_k1 (n : Nat) : Option Bool :=
  some true

abbrev slices_EqualFunc_f52_M1_t2 (s2 : List (List TRec)) (s1 : List (List TRec)) (v16 : Int) (v17 : Int) : S := stB [(1, .c (.slice 57) (.slice (List.map e_LTRec s2))), (2, .fnv 53 []), (15, .c (.slice 57) (.slice (List.map e_LTRec s1))), (16, .c (.int .i64) (.int v16)), (17, .c (.int .i64) (.int v17))] []

def slices_EqualFunc_f52_M1_b2 (n : Nat) (s2 : List (List TRec)) (s1 : List (List TRec)) (v16 : Int) (v17 : Int) : Option ((Int) ⊕ (((Bool) ⊕ (Unit)))) :=
  bif (decide (v17 < v16)) then
    gd ((0 ≤ v17 ∧ v17 < (s1.length : Int))) <|
    gd ((0 ≤ v17 ∧ v17 < (s2.length : Int))) <|
    (spool_Lines_1 n (gt s1 (Int.toNat v17)) (gt s2 (Int.toNat v17))).bind fun r1 =>
    bif (!r1) then
      some (.inr (.inl false))
    else
      some (.inl (IntKind.wrap .i64 (v17 + 1)))
  else
    some (.inr (.inr ()))

def slices_EqualFunc_f52_M1 (n : Nat) (s1 : List (List TRec)) (s2 : List (List TRec)) : Option Bool :=
  bif ((s1.length : Int) != (s2.length : Int)) then
    some false
  else
    (loopF (fun (x : Int) => slices_EqualFunc_f52_M1_b2 n s2 s1 (s1.length : Int) x) n 0).bind fun y8 =>
    match y8 with
    | .inl v =>
      some v
    | .inr v =>
      slices_EqualFunc_f52_M1_k1 n

theorem cslices_EqualFunc_f52_M1 (n : Nat) (s1 : List (List TRec)) (s2 : List (List TRec)) (r : Bool) (H : slices_EqualFunc_f52_M1 n s1 s2 = some r) : CallsM Try.prog 52 [.dat (false, [.slice 57]) [.slice (List.map e_LTRec s1)], .dat (false, [.slice 57]) [.slice (List.map e_LTRec s2)], .ref (.fnv 53 [])] [] [.c .bool (.bool r)] [] := by
  have hΓ : ∀ g, g ∈ ([xspool_Lines_1 n] : List Go.AE.Fn) → Contract Try.prog g := by
    intro g hg; simp only [List.mem_cons, List.not_mem_nil, or_false] at hg; subst hg; exact cspool_Lines_1 n
  refine callsM_of (Try.f52.body.getD .skip) h00 Try.func52 rfl (by intro args w; exact Try.call52 args w) (Nat.le_of_ble_eq_true rfl) (Nat.le_of_ble_eq_true rfl) ?_
  unfold slices_EqualFunc_f52_M1 at H
  simp only [Try.f52, Option.getD]
  refine Sm.seqA h00 mixed hΓ (by kernel_rfl) fun K1 hK1 => ?_
  simp only [rs]
  repeat (refine opsG fun K hK => ?_; simp only [z, seval]; (repeat (first | refine gcI ?_ | refine fun (_ : _ ≤ _) => ?_)); refine hK _ ?_; clear hK K)
  refine hK1 _ ?_
  refine Sm.seqK fun K2 hK2 => ?_
  refine Sm.seqA h00 mixed hΓ (by kernel_rfl) fun K3 hK3 => ?_
  simp only [rs]
  repeat (refine opsG fun K hK => ?_; simp only [z, seval]; (repeat (first | refine gcI ?_ | refine fun (_ : _ ≤ _) => ?_)); refine hK _ ?_; clear hK K)
  refine hK3 _ ?_
  refine Sm.condK (by rfl) fun Ka Kb ha hb => ?_
  simp only [wpCond, z, seval]
  refine ⟨fun h4 => ha ?_, fun h4 => hb ?_⟩
  · first | replace H := bif_t h4 H | replace H := bif_t2 h4 H (by simp only [List.length_append])
    refine Sm.seqA h00 mixed hΓ (by kernel_rfl) fun K5 hK5 => ?_
    simp only [rs]
    repeat (refine opsG fun K hK => ?_; simp only [z, seval]; (repeat (first | refine gcI ?_ | refine fun (_ : _ ≤ _) => ?_)); refine hK _ ?_; clear hK K)
    refine hK5 _ ?_
    refine Sm.ret ?_
    try simp only [seval, Exit.exit.injEq]
    obtain rfl := Option.some.inj H
    refine RetM.mk (.inr rfl) [] rfl ?_
    simp only [z, seval]
  first | replace H := bif_f h4 H | replace H := bif_f2 h4 H (by simp only [List.length_append])
  refine Sm.skip ?_
  refine hK2 _ ?_
  refine Sm.cut (fun (x : Unit) => slices_EqualFunc_f52_M1_s1) (fun x => slices_EqualFunc_f52_M1_k1 n = some r) ?_ ?_
  · refine Sm.seqA h00 mixed hΓ (by kernel_rfl) fun K7 hK7 => ?_
    simp only [rs]
    repeat (refine opsG fun K hK => ?_; simp only [z, seval]; (repeat (first | refine gcI ?_ | refine fun (_ : _ ≤ _) => ?_)); refine hK _ ?_; clear hK K)
    refine hK7 _ ?_
    refine Sm.block ?_
    obtain ⟨y8, hy8, Ho8⟩ := bind_some H
    refine Sm.loopB (fun (x : Int) => slices_EqualFunc_f52_M1_b2 n s2 s1 (s1.length : Int) x) (fun x => slices_EqualFunc_f52_M1_t2 s2 s1 (s1.length : Int) x) hy8 ?_ ?_
    · exact weak_b [] rfl rfl rfl (by simp only [wk, z, seval]) (by simp only [wk, z, seval])
    rintro v17 z8 H
    try dsimp only at H
    unfold slices_EqualFunc_f52_M1_b2 at H
    refine Sm.seqA h00 mixed hΓ (by kernel_rfl) fun K9 hK9 => ?_
    simp only [rs]
    repeat (refine opsG fun K hK => ?_; simp only [z, seval, slices_EqualFunc_f52_M1_t2]; (repeat (first | refine gcI ?_ | refine fun (_ : _ ≤ _) => ?_)); refine hK _ ?_; clear hK K)
    refine hK9 _ ?_
    refine Sm.seqK fun K10 hK10 => ?_
    refine Sm.condK (by rfl) fun Ka Kb ha hb => ?_
    simp only [wpCond, z, seval, slices_EqualFunc_f52_M1_t2]
    refine ⟨fun h11 => ha ?_, fun h11 => hb ?_⟩
    · first | replace H := bif_t h11 H | replace H := bif_t2 h11 H (by simp only [List.length_append])
      refine Sm.skip ?_
      refine hK10 _ ?_
      refine Sm.seqK fun K12 hK12 => ?_
      refine Sm.block ?_
      obtain ⟨hg19, H⟩ := gd_some H
      refine Sm.seqA h00 mixed hΓ (by kernel_rfl) fun K13 hK13 => ?_
      simp only [rs]
      repeat (refine opsG fun K hK => ?_; simp only [z, seval, slices_EqualFunc_f52_M1_t2]; (repeat (first | refine gcI ?_ | refine fun (_ : _ ≤ _) => ?_)); refine hK _ ?_; clear hK K)
      refine hK13 _ ?_
      obtain ⟨hg18, H⟩ := gd_some H
      refine Sm.seqA h00 mixed hΓ (by kernel_rfl) fun K14 hK14 => ?_
      simp only [rs]
      repeat (refine opsG fun K hK => ?_; simp only [z, seval, slices_EqualFunc_f52_M1_t2]; (repeat (first | refine gcI ?_ | refine fun (_ : _ ≤ _) => ?_)); refine hK _ ?_; clear hK K)
      refine hK14 _ ?_
      obtain ⟨r1, hr1, H⟩ := bind_some H
      refine Sm.seqA h00 mixed hΓ (by kernel_rfl) fun K15 hK15 => ?_
      simp only [rs]
      repeat (refine opsG fun K hK => ?_; simp only [z, seval, slices_EqualFunc_f52_M1_t2, xspool_Lines_1, hr1]; (repeat (first | refine gcI ?_ | refine fun (_ : _ ≤ _) => ?_)); refine hK _ ?_; clear hK K)
      refine hK15 _ ?_
      refine Sm.condK (by rfl) fun Ka Kb ha hb => ?_
      simp only [wpCond, z, seval, slices_EqualFunc_f52_M1_t2]
      refine ⟨fun h16 => ha ?_, fun h16 => hb ?_⟩
      · first | replace H := bif_t h16 H | replace H := bif_t2 h16 H (by simp only [List.length_append])
        refine Sm.seqA h00 mixed hΓ (by kernel_rfl) fun K17 hK17 => ?_
        simp only [rs]
        repeat (refine opsG fun K hK => ?_; simp only [z, seval, slices_EqualFunc_f52_M1_t2]; (repeat (first | refine gcI ?_ | refine fun (_ : _ ≤ _) => ?_)); refine hK _ ?_; clear hK K)
        refine hK17 _ ?_
        refine Sm.ret ?_
        try simp only [seval, Exit.exit.injEq]
        refine ⟨⟨_, (Option.some.inj H).symm⟩, fun hz => ?_⟩
        have hyy := Sum.inr.inj ((Option.some.inj H).trans hz)
        subst hyy
        have H := Ho8
        try dsimp only at H
        try simp only [seval, Exit.exit.injEq]
        obtain rfl := Option.some.inj H
        refine RetM.mk (.inr rfl) [] rfl ?_
        simp only [z, seval, slices_EqualFunc_f52_M1_t2]
      first | replace H := bif_f h16 H | replace H := bif_f2 h16 H (by simp only [List.length_append])
      refine Sm.skip ?_
      refine hK12 _ ?_
      refine Sm.regA h00 mixed hΓ (by kernel_rfl) ?_
      simp only [rs]
      repeat (refine opsG fun K hK => ?_; simp only [z, seval, slices_EqualFunc_f52_M1_t2]; (repeat (first | refine gcI ?_ | refine fun (_ : _ ≤ _) => ?_)); refine hK _ ?_; clear hK K)
      refine opsG0 ?_
      try simp only [seval, Exit.exit.injEq]
      refine ⟨_, (Option.some.inj H).symm, ?_⟩
      exact weak_b [] rfl rfl rfl (by simp only [wk, z, seval, slices_EqualFunc_f52_M1_t2]) (by simp only [wk, z, seval, slices_EqualFunc_f52_M1_t2])
    first | replace H := bif_f h11 H | replace H := bif_f2 h11 H (by simp only [List.length_append])
    refine Sm.exit ?_
    try simp only [seval, Exit.exit.injEq]
    refine ⟨⟨_, (Option.some.inj H).symm⟩, fun hz => ?_⟩
    have hyy := Sum.inr.inj ((Option.some.inj H).trans hz)
    subst hyy
    have H := Ho8
    try dsimp only at H
    try simp only [seval, Exit.exit.injEq]
    refine ⟨(), H, ?_⟩
    exact weak_b [] rfl rfl rfl (by simp only [wk, z, seval, slices_EqualFunc_f52_M1_t2]) (by simp only [wk, z, seval, slices_EqualFunc_f52_M1_t2])
  rintro ⟨⟩ H
  try dsimp only at H
  unfold slices_EqualFunc_f52_M1_k1 at H
  refine Sm.seqA h00 mixed hΓ (by kernel_rfl) fun K6 hK6 => ?_
  simp only [rs]
  repeat (refine opsG fun K hK => ?_; simp only [z, seval, slices_EqualFunc_f52_M1_s1]; (repeat (first | refine gcI ?_ | refine fun (_ : _ ≤ _) => ?_)); refine hK _ ?_; clear hK K)
  refine hK6 _ ?_
  refine Sm.ret ?_
  try simp only [seval, Exit.exit.injEq]
  obtain rfl := Option.some.inj H
  refine RetM.mk (.inr rfl) [] rfl ?_
  simp only [z, seval, slices_EqualFunc_f52_M1_s1]
end Go.Proofs.Ytkebegfopnlkhaa
