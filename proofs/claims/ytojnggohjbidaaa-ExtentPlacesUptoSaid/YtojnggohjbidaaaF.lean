/-
  The functions of the seat, as functions; their contracts.
-/
import Derived.Test.YtojnggohjbidaaaF1
set_option maxHeartbeats 8000000
set_option linter.unusedVariables false
set_option linter.unusedSimpArgs false
set_option maxRecDepth 100000
namespace Go.Proofs.Ytojnggohjbidaaa
open Go.AE
abbrev extent_Track_s1 : S := stB [] []

def extent_Track_k1 (n : Nat) : Option (Int × Bool) :=
  some (0, false)

abbrev extent_Track_t2 (l : List TExtent) (v16 : Int) (i_1 : Int) (v17 : Int) : S := stB [(1, .c (.int .i64) (.int i_1)), (15, .c (.slice 43) (.slice (List.map e_TExtent l))), (16, .c (.int .i64) (.int v16)), (17, .c (.int .i64) (.int v17))] []

def extent_Track_b2 (n : Nat) (l : List TExtent) (v16 : Int) (i_1 : Int) (v17 : Int) : Option ((Int × Int) ⊕ (((Int × Bool) ⊕ (Unit)))) :=
  bif (decide (v17 < v16)) then
    gd ((0 ≤ v17 ∧ v17 < (l.length : Int))) <|
    bif (decide (i_1 < ((gt l (Int.toNat v17)).Len))) then
      some (.inr (.inl ((IntKind.wrap .i64 (((gt l (Int.toNat v17)).At) + i_1)), true)))
    else
      some (.inl ((IntKind.wrap .i64 (i_1 - ((gt l (Int.toNat v17)).Len))), (IntKind.wrap .i64 (v17 + 1))))
  else
    some (.inr (.inr ()))

def extent_Track (n : Nat) (l : List TExtent) (i : Int) : Option (Int × Bool) :=
  gd (((!(decide (i < 0))) = true → (extent_Valid n l).isSome = true)) <|
  bif (if (decide (i < 0)) = true then true else (!((extent_Valid n l).getD default))) then
    some (0, false)
  else
    (loopF (fun (x : Int × Int) => extent_Track_b2 n l (l.length : Int) x.1 x.2) n (i, 0)).bind fun y8 =>
    match y8 with
    | .inl v =>
      some (v.1, v.2)
    | .inr v =>
      extent_Track_k1 n

def xextent_Track (n : Nat) : Go.AE.Fn := mkFn (A := (List TExtent) × Int) (R := Int × Bool) 27 [(false, [.slice 43]), (false, [.int .i64])] false (fun xs => (((cg (xs.getD 0 []) 0).toSl.map d_TExtent), (cg (xs.getD 1 []) 0).toInt)) (fun a => [[.slice (List.map e_TExtent a.1)], [.int a.2]]) (fun a => extent_Track n a.1 a.2) (fun r => [.c (.int .i64) (.int r.1), .c .bool (.bool r.2)]) (fun r => [])

theorem cextent_Track (n : Nat) : Contract Try.prog (xextent_Track n) := by
  have hΓ : ∀ g, g ∈ ([xextent_Valid n] : List Go.AE.Fn) → Contract Try.prog g := by
    intro g hg; simp only [List.mem_cons, List.not_mem_nil, or_false] at hg; subst hg; exact cextent_Valid n
  refine contract_f (Try.f27.body.getD .skip) h00 Try.func27 rfl (by intro args w; exact Try.call27 args w) (by decide) (by intro _ r; exact ⟨rfl, by simp⟩) ?_
  rintro ⟨l, i⟩ r H
  try dsimp only at H
  unfold extent_Track at H
  simp only [Try.f27, Option.getD]
  refine Sm.seqA h00 mixed hΓ (by kernel_rfl) fun K1 hK1 => ?_
  simp only [rs]
  repeat (refine opsG fun K hK => ?_; simp only [z, seval]; (repeat (first | refine gcI ?_ | refine fun (_ : _ ≤ _) => ?_)); refine hK _ ?_; clear hK K)
  refine hK1 _ ?_
  refine Sm.seqK fun K2 hK2 => ?_
  obtain ⟨hg19, H⟩ := gd_some H
  refine Sm.seqA h00 mixed hΓ (by kernel_rfl) fun K3 hK3 => ?_
  simp only [rs]
  repeat (refine opsG fun K hK => ?_; simp only [z, seval, xextent_Valid]; (repeat (first | refine gcI ?_ | refine fun (_ : _ ≤ _) => ?_)); refine hK _ ?_; clear hK K)
  refine hK3 _ ?_
  refine Sm.condK (by rfl) fun Ka Kb ha hb => ?_
  simp only [wpCond, z, seval]
  refine ⟨fun h4 => ha ?_, fun h4 => hb ?_⟩
  · replace H := bif_t h4 H
    refine Sm.seqA h00 mixed hΓ (by kernel_rfl) fun K5 hK5 => ?_
    simp only [rs]
    repeat (refine opsG fun K hK => ?_; simp only [z, seval]; (repeat (first | refine gcI ?_ | refine fun (_ : _ ≤ _) => ?_)); refine hK _ ?_; clear hK K)
    refine hK5 _ ?_
    refine Sm.ret ?_
    try simp only [seval, Exit.exit.injEq]
    obtain rfl := Option.some.inj H
    refine Ret.ofR [] (.inr rfl) ?_
    simp only [z, seval]
  replace H := bif_f h4 H
  refine Sm.skip ?_
  refine hK2 _ ?_
  refine Sm.cut (fun (x : Unit) => extent_Track_s1) (fun x => extent_Track_k1 n = some r) ?_ ?_
  · refine Sm.seqA h00 mixed hΓ (by kernel_rfl) fun K7 hK7 => ?_
    simp only [rs]
    repeat (refine opsG fun K hK => ?_; simp only [z, seval]; (repeat (first | refine gcI ?_ | refine fun (_ : _ ≤ _) => ?_)); refine hK _ ?_; clear hK K)
    refine hK7 _ ?_
    refine Sm.block ?_
    obtain ⟨y8, hy8, Ho8⟩ := bind_some H
    refine Sm.loopB (fun (x : Int × Int) => extent_Track_b2 n l (l.length : Int) x.1 x.2) (fun x => extent_Track_t2 l (l.length : Int) x.1 x.2) hy8 ?_ ?_
    · exact weak_b [] rfl rfl rfl (by simp only [wk, z, seval]) (by simp only [wk, z, seval])
    rintro ⟨i_1, v17⟩ z8 H
    try dsimp only at H
    unfold extent_Track_b2 at H
    refine Sm.seqA h00 mixed hΓ (by kernel_rfl) fun K9 hK9 => ?_
    simp only [rs]
    repeat (refine opsG fun K hK => ?_; simp only [z, seval, extent_Track_t2]; (repeat (first | refine gcI ?_ | refine fun (_ : _ ≤ _) => ?_)); refine hK _ ?_; clear hK K)
    refine hK9 _ ?_
    refine Sm.seqK fun K10 hK10 => ?_
    refine Sm.condK (by rfl) fun Ka Kb ha hb => ?_
    simp only [wpCond, z, seval, extent_Track_t2]
    refine ⟨fun h11 => ha ?_, fun h11 => hb ?_⟩
    · replace H := bif_t h11 H
      refine Sm.skip ?_
      refine hK10 _ ?_
      refine Sm.seqK fun K12 hK12 => ?_
      refine Sm.block ?_
      obtain ⟨hg18, H⟩ := gd_some H
      refine Sm.seqA h00 mixed hΓ (by kernel_rfl) fun K13 hK13 => ?_
      simp only [rs]
      repeat (refine opsG fun K hK => ?_; simp only [z, seval, extent_Track_t2]; (repeat (first | refine gcI ?_ | refine fun (_ : _ ≤ _) => ?_)); refine hK _ ?_; clear hK K)
      refine hK13 _ ?_
      refine Sm.seqK fun K14 hK14 => ?_
      refine Sm.seqA h00 mixed hΓ (by kernel_rfl) fun K15 hK15 => ?_
      simp only [rs]
      repeat (refine opsG fun K hK => ?_; simp only [z, seval, extent_Track_t2]; (repeat (first | refine gcI ?_ | refine fun (_ : _ ≤ _) => ?_)); refine hK _ ?_; clear hK K)
      refine hK15 _ ?_
      refine Sm.condK (by rfl) fun Ka Kb ha hb => ?_
      simp only [wpCond, z, seval, extent_Track_t2]
      refine ⟨fun h16 => ha ?_, fun h16 => hb ?_⟩
      · replace H := bif_t h16 H
        refine Sm.seqA h00 mixed hΓ (by kernel_rfl) fun K17 hK17 => ?_
        simp only [rs]
        repeat (refine opsG fun K hK => ?_; simp only [z, seval, extent_Track_t2]; (repeat (first | refine gcI ?_ | refine fun (_ : _ ≤ _) => ?_)); refine hK _ ?_; clear hK K)
        refine hK17 _ ?_
        refine Sm.ret ?_
        try simp only [seval, Exit.exit.injEq]
        refine ⟨⟨_, (Option.some.inj H).symm⟩, fun hz => ?_⟩
        have hyy := Sum.inr.inj ((Option.some.inj H).trans hz)
        subst hyy
        have H := Ho8
        try dsimp only at H
        try simp only [seval, Exit.exit.injEq]
        obtain rfl := Option.some.inj H
        refine Ret.ofR [] (.inr rfl) ?_
        simp only [z, seval, extent_Track_t2]
      replace H := bif_f h16 H
      refine Sm.skip ?_
      refine hK14 _ ?_
      refine Sm.regA h00 mixed hΓ (by kernel_rfl) ?_
      simp only [rs]
      repeat (refine opsG fun K hK => ?_; simp only [z, seval, extent_Track_t2]; (repeat (first | refine gcI ?_ | refine fun (_ : _ ≤ _) => ?_)); refine hK _ ?_; clear hK K)
      refine opsG0 ?_
      refine hK12 _ ?_
      refine Sm.regA h00 mixed hΓ (by kernel_rfl) ?_
      simp only [rs]
      repeat (refine opsG fun K hK => ?_; simp only [z, seval, extent_Track_t2]; (repeat (first | refine gcI ?_ | refine fun (_ : _ ≤ _) => ?_)); refine hK _ ?_; clear hK K)
      refine opsG0 ?_
      try simp only [seval, Exit.exit.injEq]
      refine ⟨(_, _), (Option.some.inj H).symm, ?_⟩
      exact weak_b [] rfl rfl rfl (by simp only [wk, z, seval, extent_Track_t2]) (by simp only [wk, z, seval, extent_Track_t2])
    replace H := bif_f h11 H
    refine Sm.exit ?_
    try simp only [seval, Exit.exit.injEq]
    refine ⟨⟨_, (Option.some.inj H).symm⟩, fun hz => ?_⟩
    have hyy := Sum.inr.inj ((Option.some.inj H).trans hz)
    subst hyy
    have H := Ho8
    try dsimp only at H
    try simp only [seval, Exit.exit.injEq]
    refine ⟨(), H, ?_⟩
    exact weak_b [] rfl rfl rfl (by simp only [wk, z, seval, extent_Track_t2]) (by simp only [wk, z, seval, extent_Track_t2])
  rintro ⟨⟩ H
  try dsimp only at H
  unfold extent_Track_k1 at H
  refine Sm.seqA h00 mixed hΓ (by kernel_rfl) fun K6 hK6 => ?_
  simp only [rs]
  repeat (refine opsG fun K hK => ?_; simp only [z, seval, extent_Track_s1]; (repeat (first | refine gcI ?_ | refine fun (_ : _ ≤ _) => ?_)); refine hK _ ?_; clear hK K)
  refine hK6 _ ?_
  refine Sm.ret ?_
  try simp only [seval, Exit.exit.injEq]
  obtain rfl := Option.some.inj H
  refine Ret.ofR [] (.inr rfl) ?_
  simp only [z, seval, extent_Track_s1]

def ref20_Track (n : Nat) (l : List TExtent) (i : Int) : Option (Int × Bool) :=
  (ref20_Tracks n l).bind fun r1 =>
  bif (if (decide (i < 0)) = true then true else (decide (i ≥ ((r1.1.length : Nat) : Int)))) then
    some (0, false)
  else
    gd ((0 ≤ i ∧ i < (r1.1.length : Int)) ∧ (Int.toNat i) < r1.1.length) <|
    some ((gt r1.1 (Int.toNat i)), true)

def xref20_Track (n : Nat) : Go.AE.Fn := mkFn (A := (List TExtent) × Int) (R := Int × Bool) 28 [(false, [.slice 43]), (false, [.int .i64])] false (fun xs => (((cg (xs.getD 0 []) 0).toSl.map d_TExtent), (cg (xs.getD 1 []) 0).toInt)) (fun a => [[.slice (List.map e_TExtent a.1)], [.int a.2]]) (fun a => ref20_Track n a.1 a.2) (fun r => [.c (.int .i64) (.int r.1), .c .bool (.bool r.2)]) (fun r => [])

theorem cref20_Track (n : Nat) : Contract Try.prog (xref20_Track n) := by
  have hΓ : ∀ g, g ∈ ([xref20_Tracks n] : List Go.AE.Fn) → Contract Try.prog g := by
    intro g hg; simp only [List.mem_cons, List.not_mem_nil, or_false] at hg; subst hg; exact cref20_Tracks n
  refine contract_f (Try.f28.body.getD .skip) h00 Try.func28 rfl (by intro args w; exact Try.call28 args w) (by decide) (by intro _ r; exact ⟨rfl, by simp⟩) ?_
  rintro ⟨l, i⟩ r H
  try dsimp only at H
  unfold ref20_Track at H
  simp only [Try.f28, Option.getD]
  refine Sm.seqA h00 mixed hΓ (by kernel_rfl) fun K1 hK1 => ?_
  simp only [rs]
  repeat (refine opsG fun K hK => ?_; simp only [z, seval]; (repeat (first | refine gcI ?_ | refine fun (_ : _ ≤ _) => ?_)); refine hK _ ?_; clear hK K)
  refine hK1 _ ?_
  obtain ⟨r1, hr1, H⟩ := bind_some H
  refine Sm.seqA h00 mixed hΓ (by kernel_rfl) fun K2 hK2 => ?_
  simp only [rs]
  repeat (refine opsG fun K hK => ?_; simp only [z, seval, xref20_Tracks, hr1]; (repeat (first | refine gcI ?_ | refine fun (_ : _ ≤ _) => ?_)); refine hK _ ?_; clear hK K)
  refine hK2 _ ?_
  refine Sm.seqK fun K3 hK3 => ?_
  refine Sm.seqA h00 mixed hΓ (by kernel_rfl) fun K4 hK4 => ?_
  simp only [rs]
  repeat (refine opsG fun K hK => ?_; simp only [z, seval]; (repeat (first | refine gcI ?_ | refine fun (_ : _ ≤ _) => ?_)); refine hK _ ?_; clear hK K)
  refine hK4 _ ?_
  refine Sm.condK (by rfl) fun Ka Kb ha hb => ?_
  simp only [wpCond, z, seval]
  refine ⟨fun h5 => ha ?_, fun h5 => hb ?_⟩
  · replace H := bif_t h5 H
    refine Sm.seqA h00 mixed hΓ (by kernel_rfl) fun K6 hK6 => ?_
    simp only [rs]
    repeat (refine opsG fun K hK => ?_; simp only [z, seval]; (repeat (first | refine gcI ?_ | refine fun (_ : _ ≤ _) => ?_)); refine hK _ ?_; clear hK K)
    refine hK6 _ ?_
    refine Sm.ret ?_
    try simp only [seval, Exit.exit.injEq]
    obtain rfl := Option.some.inj H
    refine Ret.ofR [] (.inr rfl) ?_
    simp only [z, seval]
  replace H := bif_f h5 H
  refine Sm.skip ?_
  refine hK3 _ ?_
  obtain ⟨⟨hg8, hg9⟩, H⟩ := gd_some H
  refine Sm.seqA h00 mixed hΓ (by kernel_rfl) fun K7 hK7 => ?_
  simp only [rs]
  repeat (refine opsG fun K hK => ?_; simp only [z, seval]; (repeat (first | refine gcI ?_ | refine fun (_ : _ ≤ _) => ?_)); refine hK _ ?_; clear hK K)
  refine hK7 _ ?_
  refine Sm.ret ?_
  try simp only [seval, Exit.exit.injEq]
  obtain rfl := Option.some.inj H
  refine Ret.ofR [] (.inr rfl) ?_
  simp only [z, seval]

abbrev ref20_Index_s1 : S := stB [] []

def ref20_Index_k1 (n : Nat) : Option (Int × Bool) :=
  some (0, false)

abbrev ref20_Index_t2 (track : Int) (t : List Int) (i : Int) : S := stB [(1, .c (.int .i64) (.int track)), (6, .own 9001 [.int .i64] 0 t.length), (8, .c (.int .i64) (.int i))] [(9001, .row 3 (List.map e_Int t))]

def ref20_Index_b2 (n : Nat) (track : Int) (t : List Int) (i : Int) : Option ((Int) ⊕ (((Int × Bool) ⊕ (Unit)))) :=
  bif (decide (i < ((t.length : Nat) : Int))) then
    gd ((0 ≤ i ∧ i < (t.length : Int)) ∧ (Int.toNat i) < t.length) <|
    bif ((gt t (Int.toNat i)) == track) then
      some (.inr (.inl (i, true)))
    else
      some (.inl (IntKind.wrap .i64 (i + 1)))
  else
    some (.inr (.inr ()))

def ref20_Index (n : Nat) (l : List TExtent) (track : Int) : Option (Int × Bool) :=
  (ref20_Tracks n l).bind fun r1 =>
  (loopF (fun (x : Int) => ref20_Index_b2 n track r1.1 x) n 0).bind fun y5 =>
  match y5 with
  | .inl v =>
    some (v.1, v.2)
  | .inr v =>
    ref20_Index_k1 n

def xref20_Index (n : Nat) : Go.AE.Fn := mkFn (A := (List TExtent) × Int) (R := Int × Bool) 29 [(false, [.slice 43]), (false, [.int .i64])] false (fun xs => (((cg (xs.getD 0 []) 0).toSl.map d_TExtent), (cg (xs.getD 1 []) 0).toInt)) (fun a => [[.slice (List.map e_TExtent a.1)], [.int a.2]]) (fun a => ref20_Index n a.1 a.2) (fun r => [.c (.int .i64) (.int r.1), .c .bool (.bool r.2)]) (fun r => [])

theorem cref20_Index (n : Nat) : Contract Try.prog (xref20_Index n) := by
  have hΓ : ∀ g, g ∈ ([xref20_Tracks n] : List Go.AE.Fn) → Contract Try.prog g := by
    intro g hg; simp only [List.mem_cons, List.not_mem_nil, or_false] at hg; subst hg; exact cref20_Tracks n
  refine contract_f (Try.f29.body.getD .skip) h00 Try.func29 rfl (by intro args w; exact Try.call29 args w) (by decide) (by intro _ r; exact ⟨rfl, by simp⟩) ?_
  rintro ⟨l, track⟩ r H
  try dsimp only at H
  unfold ref20_Index at H
  simp only [Try.f29, Option.getD]
  refine Sm.seqA h00 mixed hΓ (by kernel_rfl) fun K1 hK1 => ?_
  simp only [rs]
  repeat (refine opsG fun K hK => ?_; simp only [z, seval]; (repeat (first | refine gcI ?_ | refine fun (_ : _ ≤ _) => ?_)); refine hK _ ?_; clear hK K)
  refine hK1 _ ?_
  obtain ⟨r1, hr1, H⟩ := bind_some H
  refine Sm.seqA h00 mixed hΓ (by kernel_rfl) fun K2 hK2 => ?_
  simp only [rs]
  repeat (refine opsG fun K hK => ?_; simp only [z, seval, xref20_Tracks, hr1]; (repeat (first | refine gcI ?_ | refine fun (_ : _ ≤ _) => ?_)); refine hK _ ?_; clear hK K)
  refine hK2 _ ?_
  refine Sm.cut (fun (x : Unit) => ref20_Index_s1) (fun x => ref20_Index_k1 n = some r) ?_ ?_
  · refine Sm.seqA h00 mixed hΓ (by kernel_rfl) fun K4 hK4 => ?_
    simp only [rs]
    repeat (refine opsG fun K hK => ?_; simp only [z, seval]; (repeat (first | refine gcI ?_ | refine fun (_ : _ ≤ _) => ?_)); refine hK _ ?_; clear hK K)
    refine hK4 _ ?_
    refine Sm.block ?_
    obtain ⟨y5, hy5, Ho5⟩ := bind_some H
    refine Sm.loopB (fun (x : Int) => ref20_Index_b2 n track r1.1 x) (fun x => ref20_Index_t2 track r1.1 x) hy5 ?_ ?_
    · exact weak_b [some 176] rfl rfl rfl (by simp only [wk, z, seval]) (by simp only [wk, z, seval])
    rintro i z5 H
    try dsimp only at H
    unfold ref20_Index_b2 at H
    refine Sm.seqK fun K6 hK6 => ?_
    refine Sm.seqA h00 mixed hΓ (by kernel_rfl) fun K7 hK7 => ?_
    simp only [rs]
    repeat (refine opsG fun K hK => ?_; simp only [z, seval, ref20_Index_t2]; (repeat (first | refine gcI ?_ | refine fun (_ : _ ≤ _) => ?_)); refine hK _ ?_; clear hK K)
    refine hK7 _ ?_
    refine Sm.condK (by rfl) fun Ka Kb ha hb => ?_
    simp only [wpCond, z, seval, ref20_Index_t2]
    refine ⟨fun h8 => ha ?_, fun h8 => hb ?_⟩
    · replace H := bif_t h8 H
      refine Sm.skip ?_
      refine hK6 _ ?_
      refine Sm.seqK fun K9 hK9 => ?_
      refine Sm.block ?_
      obtain ⟨⟨hg13, hg14⟩, H⟩ := gd_some H
      refine Sm.seqA h00 mixed hΓ (by kernel_rfl) fun K10 hK10 => ?_
      simp only [rs]
      repeat (refine opsG fun K hK => ?_; simp only [z, seval, ref20_Index_t2]; (repeat (first | refine gcI ?_ | refine fun (_ : _ ≤ _) => ?_)); refine hK _ ?_; clear hK K)
      refine hK10 _ ?_
      refine Sm.condK (by rfl) fun Ka Kb ha hb => ?_
      simp only [wpCond, z, seval, ref20_Index_t2]
      refine ⟨fun h11 => ha ?_, fun h11 => hb ?_⟩
      · replace H := bif_t h11 H
        refine Sm.seqA h00 mixed hΓ (by kernel_rfl) fun K12 hK12 => ?_
        simp only [rs]
        repeat (refine opsG fun K hK => ?_; simp only [z, seval, ref20_Index_t2]; (repeat (first | refine gcI ?_ | refine fun (_ : _ ≤ _) => ?_)); refine hK _ ?_; clear hK K)
        refine hK12 _ ?_
        refine Sm.ret ?_
        try simp only [seval, Exit.exit.injEq]
        refine ⟨⟨_, (Option.some.inj H).symm⟩, fun hz => ?_⟩
        have hyy := Sum.inr.inj ((Option.some.inj H).trans hz)
        subst hyy
        have H := Ho5
        try dsimp only at H
        try simp only [seval, Exit.exit.injEq]
        obtain rfl := Option.some.inj H
        refine Ret.ofR [] (.inr rfl) ?_
        simp only [z, seval, ref20_Index_t2]
      replace H := bif_f h11 H
      refine Sm.skip ?_
      refine hK9 _ ?_
      refine Sm.regA h00 mixed hΓ (by kernel_rfl) ?_
      simp only [rs]
      repeat (refine opsG fun K hK => ?_; simp only [z, seval, ref20_Index_t2]; (repeat (first | refine gcI ?_ | refine fun (_ : _ ≤ _) => ?_)); refine hK _ ?_; clear hK K)
      refine opsG0 ?_
      try simp only [seval, Exit.exit.injEq]
      refine ⟨_, (Option.some.inj H).symm, ?_⟩
      exact weak_b [some 9001] rfl rfl rfl (by simp only [wk, z, seval, ref20_Index_t2]) (by simp only [wk, z, seval, ref20_Index_t2])
    replace H := bif_f h8 H
    refine Sm.exit ?_
    try simp only [seval, Exit.exit.injEq]
    refine ⟨⟨_, (Option.some.inj H).symm⟩, fun hz => ?_⟩
    have hyy := Sum.inr.inj ((Option.some.inj H).trans hz)
    subst hyy
    have H := Ho5
    try dsimp only at H
    try simp only [seval, Exit.exit.injEq]
    refine ⟨(), H, ?_⟩
    exact weak_b [] rfl rfl rfl (by simp only [wk, z, seval, ref20_Index_t2]) (by simp only [wk, z, seval, ref20_Index_t2])
  rintro ⟨⟩ H
  try dsimp only at H
  unfold ref20_Index_k1 at H
  refine Sm.seqA h00 mixed hΓ (by kernel_rfl) fun K3 hK3 => ?_
  simp only [rs]
  repeat (refine opsG fun K hK => ?_; simp only [z, seval, ref20_Index_s1]; (repeat (first | refine gcI ?_ | refine fun (_ : _ ≤ _) => ?_)); refine hK _ ?_; clear hK K)
  refine hK3 _ ?_
  refine Sm.ret ?_
  try simp only [seval, Exit.exit.injEq]
  obtain rfl := Option.some.inj H
  refine Ret.ofR [] (.inr rfl) ?_
  simp only [z, seval, ref20_Index_s1]

abbrev extent_Keep_s1 (kept : List TExtent) (rest : List TExtent) : S := stB [(4, .own 9000 [.int .i64, .int .i64] 0 kept.length), (5, .own 9001 [.int .i64, .int .i64] 0 rest.length)] [(9000, .row 43 (List.map e_TExtent kept)), (9001, .row 43 (List.map e_TExtent rest))]

def extent_Keep_k1 (n : Nat) (kept : List TExtent) (rest : List TExtent) : Option ((List TExtent) × (List TExtent)) :=
  some (kept, rest)

abbrev extent_Keep_s3 (n__2 : Int) (kept_1 : List TExtent) (rest_1 : List TExtent) (l : List TExtent) (v15 : Int) (v16 : Int) : S := stB [(1, .c (.int .i64) (.int n__2)), (4, .own 9006 [.int .i64, .int .i64] 0 kept_1.length), (5, .own 9007 [.int .i64, .int .i64] 0 rest_1.length), (14, .c (.slice 43) (.slice (List.map e_TExtent l))), (15, .c (.int .i64) (.int v15)), (16, .c (.int .i64) (.int v16))] [(9006, .row 43 (List.map e_TExtent kept_1)), (9007, .row 43 (List.map e_TExtent rest_1))]

def extent_Keep_k3 (n : Nat) (n__2 : Int) (kept_1 : List TExtent) (rest_1 : List TExtent) (l : List TExtent) (v15 : Int) (v16 : Int) : Option ((Int × (List TExtent) × (List TExtent) × Int) ⊕ (((List TExtent) × (List TExtent)))) :=
  some (.inl (n__2, kept_1, rest_1, (IntKind.wrap .i64 (v16 + 1))))

abbrev extent_Keep_s5 (n__1 : Int) (kept_1 : List TExtent) (rest_1 : List TExtent) (k : Int) (l : List TExtent) (v15 : Int) (v16 : Int) : S := stB [(1, .c (.int .i64) (.int n__1)), (4, .own 9011 [.int .i64, .int .i64] 0 kept_1.length), (5, .own 9012 [.int .i64, .int .i64] 0 rest_1.length), (8, .c (.int .i64) (.int k)), (14, .c (.slice 43) (.slice (List.map e_TExtent l))), (15, .c (.int .i64) (.int v15)), (16, .c (.int .i64) (.int v16))] [(9011, .row 43 (List.map e_TExtent kept_1)), (9012, .row 43 (List.map e_TExtent rest_1))]

def extent_Keep_k5 (n : Nat) (n__1 : Int) (kept_1 : List TExtent) (rest_1 : List TExtent) (k : Int) (l : List TExtent) (v15 : Int) (v16 : Int) : Option ((Int × (List TExtent) × (List TExtent) × Int) ⊕ (((List TExtent) × (List TExtent)))) :=
  extent_Keep_k3 n (IntKind.wrap .i64 (n__1 - k)) kept_1 rest_1 l v15 v16

abbrev extent_Keep_s4 (n__1 : Int) (kept_1 : List TExtent) (rest : List TExtent) (x : Int) (x_1 : Int) (k : Int) (l : List TExtent) (v15 : Int) (v16 : Int) : S := stB [(1, .c (.int .i64) (.int n__1)), (4, .own 9008 [.int .i64, .int .i64] 0 kept_1.length), (5, .own 9009 [.int .i64, .int .i64] 0 rest.length), (7, .box 9010 0), (8, .c (.int .i64) (.int k)), (14, .c (.slice 43) (.slice (List.map e_TExtent l))), (15, .c (.int .i64) (.int v15)), (16, .c (.int .i64) (.int v16))] [(9008, .row 43 (List.map e_TExtent kept_1)), (9009, .row 43 (List.map e_TExtent rest)), (9010, .box [.c (.int .i64) (.int x), .c (.int .i64) (.int x_1)])]

def extent_Keep_k4 (n : Nat) (n__1 : Int) (kept_1 : List TExtent) (rest : List TExtent) (x : Int) (x_1 : Int) (k : Int) (l : List TExtent) (v15 : Int) (v16 : Int) : Option ((Int × (List TExtent) × (List TExtent) × Int) ⊕ (((List TExtent) × (List TExtent)))) :=
  bif (decide (k < x_1)) then
    gd ((rest.length + 1) ≤ 2147483648) <|
    extent_Keep_k5 n n__1 kept_1 (rest ++ [(⟨(IntKind.wrap .i64 (x + k)), (IntKind.wrap .i64 (x_1 - k))⟩ : TExtent)]) k l v15 v16
  else
    extent_Keep_k5 n n__1 kept_1 rest k l v15 v16

abbrev extent_Keep_t2 (l : List TExtent) (v15 : Int) (n__1 : Int) (kept : List TExtent) (rest : List TExtent) (v16 : Int) : S := stB [(1, .c (.int .i64) (.int n__1)), (4, .own 9004 [.int .i64, .int .i64] 0 kept.length), (5, .own 9005 [.int .i64, .int .i64] 0 rest.length), (14, .c (.slice 43) (.slice (List.map e_TExtent l))), (15, .c (.int .i64) (.int v15)), (16, .c (.int .i64) (.int v16))] [(9004, .row 43 (List.map e_TExtent kept)), (9005, .row 43 (List.map e_TExtent rest))]

def extent_Keep_b2 (n : Nat) (l : List TExtent) (v15 : Int) (n__1 : Int) (kept : List TExtent) (rest : List TExtent) (v16 : Int) : Option ((Int × (List TExtent) × (List TExtent) × Int) ⊕ (((List TExtent) × (List TExtent)))) :=
  bif (decide (v16 < v15)) then
    gd ((0 ≤ v16 ∧ v16 < (l.length : Int))) <|
    bif (decide ((if ((gt l (Int.toNat v16)).Len) < n__1 then ((gt l (Int.toNat v16)).Len) else n__1) > 0)) then
      gd ((kept.length + 1) ≤ 2147483648) <|
      extent_Keep_k4 n n__1 (kept ++ [(⟨(gt l (Int.toNat v16)).At, (if ((gt l (Int.toNat v16)).Len) < n__1 then ((gt l (Int.toNat v16)).Len) else n__1)⟩ : TExtent)]) rest ((gt l (Int.toNat v16)).At) ((gt l (Int.toNat v16)).Len) (if ((gt l (Int.toNat v16)).Len) < n__1 then ((gt l (Int.toNat v16)).Len) else n__1) l v15 v16
    else
      extent_Keep_k4 n n__1 kept rest ((gt l (Int.toNat v16)).At) ((gt l (Int.toNat v16)).Len) (if ((gt l (Int.toNat v16)).Len) < n__1 then ((gt l (Int.toNat v16)).Len) else n__1) l v15 v16
  else
    some (.inr (kept, rest))

def extent_Keep (n : Nat) (l : List TExtent) (n_ : Int) : Option ((List TExtent) × (List TExtent)) :=
  (extent_Valid n l).bind fun r1 =>
  bif (!r1) then
    some ([], [])
  else
    (loopF (fun (x : Int × (List TExtent) × (List TExtent) × Int) => extent_Keep_b2 n l (l.length : Int) x.1 x.2.1 x.2.2.1 x.2.2.2) n ((if 0 > n_ then 0 else n_), [], [], 0)).bind fun y9 =>
    extent_Keep_k1 n y9.1 y9.2

def xextent_Keep (n : Nat) : Go.AE.Fn := mkFn (A := (List TExtent) × Int) (R := (List TExtent) × (List TExtent)) 30 [(false, [.slice 43]), (false, [.int .i64])] false (fun xs => (((cg (xs.getD 0 []) 0).toSl.map d_TExtent), (cg (xs.getD 1 []) 0).toInt)) (fun a => [[.slice (List.map e_TExtent a.1)], [.int a.2]]) (fun a => extent_Keep n a.1 a.2) (fun r => [.own 0 [.int .i64, .int .i64] 0 r.1.length, .own 1 [.int .i64, .int .i64] 0 r.2.length]) (fun r => [.row 43 (List.map e_TExtent r.1), .row 43 (List.map e_TExtent r.2)])

theorem cextent_Keep (n : Nat) : Contract Try.prog (xextent_Keep n) := by
  have hΓ : ∀ g, g ∈ ([xextent_Valid n] : List Go.AE.Fn) → Contract Try.prog g := by
    intro g hg; simp only [List.mem_cons, List.not_mem_nil, or_false] at hg; subst hg; exact cextent_Valid n
  refine contract_f (Try.f30.body.getD .skip) h00 Try.func30 rfl (by intro args w; exact Try.call30 args w) (by decide) (by
    intro _ r; refine ⟨rfl, ?_⟩; simp only [List.mem_cons, List.not_mem_nil, or_false]; rintro _ (rfl | rfl)
    · exact ⟨43, _, _, rfl, ty43, rfl⟩
    · exact ⟨43, _, _, rfl, ty43, rfl⟩) ?_
  rintro ⟨l, n_⟩ r H
  try dsimp only at H
  unfold extent_Keep at H
  simp only [Try.f30, Option.getD]
  refine Sm.seqA h00 mixed hΓ (by kernel_rfl) fun K1 hK1 => ?_
  simp only [rs]
  repeat (refine opsG fun K hK => ?_; simp only [z, seval]; (repeat (first | refine gcI ?_ | refine fun (_ : _ ≤ _) => ?_)); refine hK _ ?_; clear hK K)
  refine hK1 _ ?_
  refine Sm.seqK fun K2 hK2 => ?_
  obtain ⟨r1, hr1, H⟩ := bind_some H
  refine Sm.seqA h00 mixed hΓ (by kernel_rfl) fun K3 hK3 => ?_
  simp only [rs]
  repeat (refine opsG fun K hK => ?_; simp only [z, seval, xextent_Valid, hr1]; (repeat (first | refine gcI ?_ | refine fun (_ : _ ≤ _) => ?_)); refine hK _ ?_; clear hK K)
  refine hK3 _ ?_
  refine Sm.condK (by rfl) fun Ka Kb ha hb => ?_
  simp only [wpCond, z, seval]
  refine ⟨fun h4 => ha ?_, fun h4 => hb ?_⟩
  · replace H := bif_t h4 H
    refine Sm.seqA h00 mixed hΓ (by kernel_rfl) fun K5 hK5 => ?_
    simp only [rs]
    repeat (refine opsG fun K hK => ?_; simp only [z, seval]; (repeat (first | refine gcI ?_ | refine fun (_ : _ ≤ _) => ?_)); refine hK _ ?_; clear hK K)
    refine hK5 _ ?_
    refine Sm.ret ?_
    try simp only [seval, Exit.exit.injEq]
    obtain rfl := Option.some.inj H
    refine Ret.ofR [none, none] (.inr rfl) ?_
    simp only [z, seval]
  replace H := bif_f h4 H
  refine Sm.skip ?_
  refine hK2 _ ?_
  refine Sm.seqA h00 mixed hΓ (by kernel_rfl) fun K6 hK6 => ?_
  simp only [rs]
  repeat (refine opsG fun K hK => ?_; simp only [z, seval]; (repeat (first | refine gcI ?_ | refine fun (_ : _ ≤ _) => ?_)); refine hK _ ?_; clear hK K)
  refine hK6 _ ?_
  refine Sm.cut (fun (x : (List TExtent) × (List TExtent)) => extent_Keep_s1 x.1 x.2) (fun x => extent_Keep_k1 n x.1 x.2 = some r) ?_ ?_
  · refine Sm.seqA h00 mixed hΓ (by kernel_rfl) fun K8 hK8 => ?_
    simp only [rs]
    repeat (refine opsG fun K hK => ?_; simp only [z, seval]; (repeat (first | refine gcI ?_ | refine fun (_ : _ ≤ _) => ?_)); refine hK _ ?_; clear hK K)
    refine hK8 _ ?_
    refine Sm.block ?_
    obtain ⟨y9, hy9, Ho9⟩ := bind_some H
    refine Sm.loopB (fun (x : Int × (List TExtent) × (List TExtent) × Int) => extent_Keep_b2 n l (l.length : Int) x.1 x.2.1 x.2.2.1 x.2.2.2) (fun x => extent_Keep_t2 l (l.length : Int) x.1 x.2.1 x.2.2.1 x.2.2.2) hy9 ?_ ?_
    · exact weak_b [none, none] rfl rfl rfl (by simp only [wk, z, seval]) (by simp only [wk, z, seval])
    rintro ⟨n__1, kept, rest, v16⟩ z9 H
    try dsimp only at H
    unfold extent_Keep_b2 at H
    refine Sm.seqA h00 mixed hΓ (by kernel_rfl) fun K10 hK10 => ?_
    simp only [rs]
    repeat (refine opsG fun K hK => ?_; simp only [z, seval, extent_Keep_t2]; (repeat (first | refine gcI ?_ | refine fun (_ : _ ≤ _) => ?_)); refine hK _ ?_; clear hK K)
    refine hK10 _ ?_
    refine Sm.seqK fun K11 hK11 => ?_
    refine Sm.condK (by rfl) fun Ka Kb ha hb => ?_
    simp only [wpCond, z, seval, extent_Keep_t2]
    refine ⟨fun h12 => ha ?_, fun h12 => hb ?_⟩
    · replace H := bif_t h12 H
      refine Sm.skip ?_
      refine hK11 _ ?_
      refine Sm.cut (fun (x : Int × (List TExtent) × (List TExtent)) => extent_Keep_s3 x.1 x.2.1 x.2.2 l (l.length : Int) v16) (fun x => extent_Keep_k3 n x.1 x.2.1 x.2.2 l (l.length : Int) v16 = some z9) ?_ ?_
      · refine Sm.block ?_
        obtain ⟨hg21, H⟩ := gd_some H
        refine Sm.seqA h00 mixed hΓ (by kernel_rfl) fun K13 hK13 => ?_
        simp only [rs]
        repeat (refine opsG fun K hK => ?_; simp only [z, seval, extent_Keep_t2]; (repeat (first | refine gcI ?_ | refine fun (_ : _ ≤ _) => ?_)); refine hK _ ?_; clear hK K)
        refine hK13 _ ?_
        refine Sm.seqA h00 mixed hΓ (by kernel_rfl) fun K14 hK14 => ?_
        simp only [rs]
        repeat (refine opsG fun K hK => ?_; simp only [z, seval, extent_Keep_t2]; (repeat (first | refine gcI ?_ | refine fun (_ : _ ≤ _) => ?_)); refine hK _ ?_; clear hK K)
        refine hK14 _ ?_
        refine Sm.cut (fun (x : (List TExtent)) => extent_Keep_s4 n__1 x rest ((gt l (Int.toNat v16)).At) ((gt l (Int.toNat v16)).Len) (if ((gt l (Int.toNat v16)).Len) < n__1 then ((gt l (Int.toNat v16)).Len) else n__1) l (l.length : Int) v16) (fun x => extent_Keep_k4 n n__1 x rest ((gt l (Int.toNat v16)).At) ((gt l (Int.toNat v16)).Len) (if ((gt l (Int.toNat v16)).Len) < n__1 then ((gt l (Int.toNat v16)).Len) else n__1) l (l.length : Int) v16 = some z9) ?_ ?_
        · refine Sm.seqA h00 mixed hΓ (by kernel_rfl) fun K18 hK18 => ?_
          simp only [rs]
          repeat (refine opsG fun K hK => ?_; simp only [z, seval, extent_Keep_t2]; (repeat (first | refine gcI ?_ | refine fun (_ : _ ≤ _) => ?_)); refine hK _ ?_; clear hK K)
          refine hK18 _ ?_
          refine Sm.condK (by rfl) fun Ka Kb ha hb => ?_
          simp only [wpCond, z, seval, extent_Keep_t2]
          refine ⟨fun h19 => ha ?_, fun h19 => hb ?_⟩
          · replace H := bif_t h19 H
            obtain ⟨hg20, H⟩ := gd_some H
            refine Sm.regA h00 mixed hΓ (by kernel_rfl) ?_
            simp only [rs]
            repeat (refine opsG fun K hK => ?_; simp only [z, seval, extent_Keep_t2]; (repeat (first | refine gcI ?_ | refine fun (_ : _ ≤ _) => ?_)); refine hK _ ?_; clear hK K)
            refine opsG0 ?_
            try simp only [seval, Exit.exit.injEq]
            refine ⟨_, H, ?_⟩
            exact weak_b [some 512, some 9005, some 112] rfl rfl rfl (by simp only [wk, z, seval, extent_Keep_t2]) (by simp only [wk, z, seval, extent_Keep_t2])
          replace H := bif_f h19 H
          refine Sm.skip ?_
          try simp only [seval, Exit.exit.injEq]
          refine ⟨_, H, ?_⟩
          exact weak_b [some 9004, some 9005, some 112] rfl rfl rfl (by simp only [wk, z, seval, extent_Keep_t2]) (by simp only [wk, z, seval, extent_Keep_t2])
        rintro kept_1 H
        try dsimp only at H
        unfold extent_Keep_k4 at H
        refine Sm.cut (fun (x : (List TExtent)) => extent_Keep_s5 n__1 kept_1 x (if ((gt l (Int.toNat v16)).Len) < n__1 then ((gt l (Int.toNat v16)).Len) else n__1) l (l.length : Int) v16) (fun x => extent_Keep_k5 n n__1 kept_1 x (if ((gt l (Int.toNat v16)).Len) < n__1 then ((gt l (Int.toNat v16)).Len) else n__1) l (l.length : Int) v16 = some z9) ?_ ?_
        · refine Sm.seqA h00 mixed hΓ (by kernel_rfl) fun K15 hK15 => ?_
          simp only [rs]
          repeat (refine opsG fun K hK => ?_; simp only [z, seval, extent_Keep_s4]; (repeat (first | refine gcI ?_ | refine fun (_ : _ ≤ _) => ?_)); refine hK _ ?_; clear hK K)
          refine hK15 _ ?_
          refine Sm.condK (by rfl) fun Ka Kb ha hb => ?_
          simp only [wpCond, z, seval, extent_Keep_s4]
          refine ⟨fun h16 => ha ?_, fun h16 => hb ?_⟩
          · replace H := bif_t h16 H
            obtain ⟨hg17, H⟩ := gd_some H
            refine Sm.regA h00 mixed hΓ (by kernel_rfl) ?_
            simp only [rs]
            repeat (refine opsG fun K hK => ?_; simp only [z, seval, extent_Keep_s4]; (repeat (first | refine gcI ?_ | refine fun (_ : _ ≤ _) => ?_)); refine hK _ ?_; clear hK K)
            refine opsG0 ?_
            try simp only [seval, Exit.exit.injEq]
            refine ⟨_, H, ?_⟩
            exact weak_b [some 9008, some 768] rfl rfl rfl (by simp only [wk, z, seval, extent_Keep_s4]) (by simp only [wk, z, seval, extent_Keep_s4])
          replace H := bif_f h16 H
          refine Sm.skip ?_
          try simp only [seval, Exit.exit.injEq]
          refine ⟨_, H, ?_⟩
          exact weak_b [some 9008, some 9009] rfl rfl rfl (by simp only [wk, z, seval, extent_Keep_s4]) (by simp only [wk, z, seval, extent_Keep_s4])
        rintro rest_1 H
        try dsimp only at H
        unfold extent_Keep_k5 at H
        refine Sm.regA h00 mixed hΓ (by kernel_rfl) ?_
        simp only [rs]
        repeat (refine opsG fun K hK => ?_; simp only [z, seval, extent_Keep_s5]; (repeat (first | refine gcI ?_ | refine fun (_ : _ ≤ _) => ?_)); refine hK _ ?_; clear hK K)
        refine opsG0 ?_
        try simp only [seval, Exit.exit.injEq]
        refine ⟨((IntKind.wrap .i64 (n__1 - (if ((gt l (Int.toNat v16)).Len) < n__1 then ((gt l (Int.toNat v16)).Len) else n__1))), kept_1, rest_1), H, ?_⟩
        exact weak_b [some 9011, some 9012] rfl rfl rfl (by simp only [wk, z, seval, extent_Keep_s5]) (by simp only [wk, z, seval, extent_Keep_s5])
      rintro ⟨n__2, kept_1, rest_1⟩ H
      try dsimp only at H
      unfold extent_Keep_k3 at H
      refine Sm.regA h00 mixed hΓ (by kernel_rfl) ?_
      simp only [rs]
      repeat (refine opsG fun K hK => ?_; simp only [z, seval, extent_Keep_s3]; (repeat (first | refine gcI ?_ | refine fun (_ : _ ≤ _) => ?_)); refine hK _ ?_; clear hK K)
      refine opsG0 ?_
      try simp only [seval, Exit.exit.injEq]
      refine ⟨(_, _, _, _), (Option.some.inj H).symm, ?_⟩
      exact weak_b [some 9006, some 9007] rfl rfl rfl (by simp only [wk, z, seval, extent_Keep_s3]) (by simp only [wk, z, seval, extent_Keep_s3])
    replace H := bif_f h12 H
    refine Sm.exit ?_
    try simp only [seval, Exit.exit.injEq]
    refine ⟨⟨_, (Option.some.inj H).symm⟩, fun hz => ?_⟩
    have hyy := Sum.inr.inj ((Option.some.inj H).trans hz)
    subst hyy
    have H := Ho9
    try dsimp only at H
    try simp only [seval, Exit.exit.injEq]
    refine ⟨(kept, rest), H, ?_⟩
    exact weak_b [some 9004, some 9005] rfl rfl rfl (by simp only [wk, z, seval, extent_Keep_t2]) (by simp only [wk, z, seval, extent_Keep_t2])
  rintro ⟨kept, rest⟩ H
  try dsimp only at H
  unfold extent_Keep_k1 at H
  refine Sm.seqA h00 mixed hΓ (by kernel_rfl) fun K7 hK7 => ?_
  simp only [rs]
  repeat (refine opsG fun K hK => ?_; simp only [z, seval, extent_Keep_s1]; (repeat (first | refine gcI ?_ | refine fun (_ : _ ≤ _) => ?_)); refine hK _ ?_; clear hK K)
  refine hK7 _ ?_
  refine Sm.ret ?_
  try simp only [seval, Exit.exit.injEq]
  obtain rfl := Option.some.inj H
  refine Ret.ofR [some 9000, some 9001] (.inr rfl) ?_
  simp only [z, seval, extent_Keep_s1]

abbrev ref20_Keep_s1 (kept : List TExtent) (rest : List TExtent) : S := stB [(6, .own 9000 [.int .i64, .int .i64] 0 kept.length), (7, .own 9001 [.int .i64, .int .i64] 0 rest.length)] [(9000, .row 43 (List.map e_TExtent kept)), (9001, .row 43 (List.map e_TExtent rest))]

def ref20_Keep_k1 (n : Nat) (kept : List TExtent) (rest : List TExtent) : Option ((List TExtent) × (List TExtent)) :=
  (ref20_drop n kept).bind fun r2 =>
  (ref20_drop n rest).bind fun r3 =>
  some (r2, r3)

abbrev ref20_Keep_t2 (l : List TExtent) (n__1 : Int) (kept : List TExtent) (rest : List TExtent) (i : Int) : S := stB [(0, .c (.slice 43) (.slice (List.map e_TExtent l))), (1, .c (.int .i64) (.int n__1)), (6, .own 9004 [.int .i64, .int .i64] 0 kept.length), (7, .own 9005 [.int .i64, .int .i64] 0 rest.length), (8, .c (.int .i64) (.int i))] [(9004, .row 43 (List.map e_TExtent kept)), (9005, .row 43 (List.map e_TExtent rest))]

def ref20_Keep_b2 (n : Nat) (l : List TExtent) (n__1 : Int) (kept : List TExtent) (rest : List TExtent) (i : Int) : Option ((Int × (List TExtent) × (List TExtent) × Int) ⊕ (((List TExtent) × (List TExtent)))) :=
  bif (decide (i < (l.length : Int))) then
    gd ((0 ≤ i ∧ i < (l.length : Int))) <|
    gd ((0 ≤ i ∧ i < (l.length : Int)) ∧ (kept.length + 1) ≤ 2147483648) <|
    gd ((0 ≤ i ∧ i < (l.length : Int)) ∧ (0 ≤ i ∧ i < (l.length : Int)) ∧ (rest.length + 1) ≤ 2147483648) <|
    some (.inl ((IntKind.wrap .i64 ((if n__1 > 0 then n__1 else 0) - (if (if ((gt l (Int.toNat i)).Len) < n__1 then ((gt l (Int.toNat i)).Len) else n__1) > 0 then (if ((gt l (Int.toNat i)).Len) < n__1 then ((gt l (Int.toNat i)).Len) else n__1) else 0))), (kept ++ [(⟨(gt l (Int.toNat i)).At, (if (if ((gt l (Int.toNat i)).Len) < n__1 then ((gt l (Int.toNat i)).Len) else n__1) > 0 then (if ((gt l (Int.toNat i)).Len) < n__1 then ((gt l (Int.toNat i)).Len) else n__1) else 0)⟩ : TExtent)]), (rest ++ [(⟨(IntKind.wrap .i64 (((gt l (Int.toNat i)).At) + (if (if ((gt l (Int.toNat i)).Len) < n__1 then ((gt l (Int.toNat i)).Len) else n__1) > 0 then (if ((gt l (Int.toNat i)).Len) < n__1 then ((gt l (Int.toNat i)).Len) else n__1) else 0))), (IntKind.wrap .i64 (((gt l (Int.toNat i)).Len) - (if (if ((gt l (Int.toNat i)).Len) < n__1 then ((gt l (Int.toNat i)).Len) else n__1) > 0 then (if ((gt l (Int.toNat i)).Len) < n__1 then ((gt l (Int.toNat i)).Len) else n__1) else 0)))⟩ : TExtent)]), (IntKind.wrap .i64 (i + 1))))
  else
    some (.inr (kept, rest))

def ref20_Keep (n : Nat) (l : List TExtent) (n_ : Int) : Option ((List TExtent) × (List TExtent)) :=
  (ref20_Valid n l).bind fun r1 =>
  bif (!r1) then
    some ([], [])
  else
    (loopF (fun (x : Int × (List TExtent) × (List TExtent) × Int) => ref20_Keep_b2 n l x.1 x.2.1 x.2.2.1 x.2.2.2) n (n_, [], [], 0)).bind fun y9 =>
    ref20_Keep_k1 n y9.1 y9.2

def xref20_Keep (n : Nat) : Go.AE.Fn := mkFn (A := (List TExtent) × Int) (R := (List TExtent) × (List TExtent)) 31 [(false, [.slice 43]), (false, [.int .i64])] false (fun xs => (((cg (xs.getD 0 []) 0).toSl.map d_TExtent), (cg (xs.getD 1 []) 0).toInt)) (fun a => [[.slice (List.map e_TExtent a.1)], [.int a.2]]) (fun a => ref20_Keep n a.1 a.2) (fun r => [.own 0 [.int .i64, .int .i64] 0 r.1.length, .own 1 [.int .i64, .int .i64] 0 r.2.length]) (fun r => [.row 43 (List.map e_TExtent r.1), .row 43 (List.map e_TExtent r.2)])

theorem cref20_Keep (n : Nat) : Contract Try.prog (xref20_Keep n) := by
  have hΓ : ∀ g, g ∈ ([xref20_Valid n, xref20_drop n] : List Go.AE.Fn) → Contract Try.prog g := by
    intro g hg; simp only [List.mem_cons, List.not_mem_nil, or_false] at hg; rcases hg with rfl | rfl; exact cref20_Valid n; exact cref20_drop n
  refine contract_f (Try.f31.body.getD .skip) h00 Try.func31 rfl (by intro args w; exact Try.call31 args w) (by decide) (by
    intro _ r; refine ⟨rfl, ?_⟩; simp only [List.mem_cons, List.not_mem_nil, or_false]; rintro _ (rfl | rfl)
    · exact ⟨43, _, _, rfl, ty43, rfl⟩
    · exact ⟨43, _, _, rfl, ty43, rfl⟩) ?_
  rintro ⟨l, n_⟩ r H
  try dsimp only at H
  unfold ref20_Keep at H
  simp only [Try.f31, Option.getD]
  refine Sm.seqA h00 mixed hΓ (by kernel_rfl) fun K1 hK1 => ?_
  simp only [rs]
  repeat (refine opsG fun K hK => ?_; simp only [z, seval]; (repeat (first | refine gcI ?_ | refine fun (_ : _ ≤ _) => ?_)); refine hK _ ?_; clear hK K)
  refine hK1 _ ?_
  refine Sm.seqK fun K2 hK2 => ?_
  obtain ⟨r1, hr1, H⟩ := bind_some H
  refine Sm.seqA h00 mixed hΓ (by kernel_rfl) fun K3 hK3 => ?_
  simp only [rs]
  repeat (refine opsG fun K hK => ?_; simp only [z, seval, xref20_Valid, hr1]; (repeat (first | refine gcI ?_ | refine fun (_ : _ ≤ _) => ?_)); refine hK _ ?_; clear hK K)
  refine hK3 _ ?_
  refine Sm.condK (by rfl) fun Ka Kb ha hb => ?_
  simp only [wpCond, z, seval]
  refine ⟨fun h4 => ha ?_, fun h4 => hb ?_⟩
  · replace H := bif_t h4 H
    refine Sm.seqA h00 mixed hΓ (by kernel_rfl) fun K5 hK5 => ?_
    simp only [rs]
    repeat (refine opsG fun K hK => ?_; simp only [z, seval]; (repeat (first | refine gcI ?_ | refine fun (_ : _ ≤ _) => ?_)); refine hK _ ?_; clear hK K)
    refine hK5 _ ?_
    refine Sm.ret ?_
    try simp only [seval, Exit.exit.injEq]
    obtain rfl := Option.some.inj H
    refine Ret.ofR [none, none] (.inr rfl) ?_
    simp only [z, seval]
  replace H := bif_f h4 H
  refine Sm.skip ?_
  refine hK2 _ ?_
  refine Sm.seqA h00 mixed hΓ (by kernel_rfl) fun K6 hK6 => ?_
  simp only [rs]
  repeat (refine opsG fun K hK => ?_; simp only [z, seval]; (repeat (first | refine gcI ?_ | refine fun (_ : _ ≤ _) => ?_)); refine hK _ ?_; clear hK K)
  refine hK6 _ ?_
  refine Sm.cut (fun (x : (List TExtent) × (List TExtent)) => ref20_Keep_s1 x.1 x.2) (fun x => ref20_Keep_k1 n x.1 x.2 = some r) ?_ ?_
  · refine Sm.seqA h00 mixed hΓ (by kernel_rfl) fun K8 hK8 => ?_
    simp only [rs]
    repeat (refine opsG fun K hK => ?_; simp only [z, seval]; (repeat (first | refine gcI ?_ | refine fun (_ : _ ≤ _) => ?_)); refine hK _ ?_; clear hK K)
    refine hK8 _ ?_
    refine Sm.block ?_
    obtain ⟨y9, hy9, Ho9⟩ := bind_some H
    refine Sm.loopB (fun (x : Int × (List TExtent) × (List TExtent) × Int) => ref20_Keep_b2 n l x.1 x.2.1 x.2.2.1 x.2.2.2) (fun x => ref20_Keep_t2 l x.1 x.2.1 x.2.2.1 x.2.2.2) hy9 ?_ ?_
    · exact weak_b [none, none] rfl rfl rfl (by simp only [wk, z, seval]) (by simp only [wk, z, seval])
    rintro ⟨n__1, kept, rest, i⟩ z9 H
    try dsimp only at H
    unfold ref20_Keep_b2 at H
    refine Sm.seqK fun K10 hK10 => ?_
    refine Sm.seqA h00 mixed hΓ (by kernel_rfl) fun K11 hK11 => ?_
    simp only [rs]
    repeat (refine opsG fun K hK => ?_; simp only [z, seval, ref20_Keep_t2]; (repeat (first | refine gcI ?_ | refine fun (_ : _ ≤ _) => ?_)); refine hK _ ?_; clear hK K)
    refine hK11 _ ?_
    refine Sm.condK (by rfl) fun Ka Kb ha hb => ?_
    simp only [wpCond, z, seval, ref20_Keep_t2]
    refine ⟨fun h12 => ha ?_, fun h12 => hb ?_⟩
    · replace H := bif_t h12 H
      refine Sm.skip ?_
      refine hK10 _ ?_
      refine Sm.seqK fun K13 hK13 => ?_
      refine Sm.block ?_
      obtain ⟨hg22, H⟩ := gd_some H
      refine Sm.seqA h00 mixed hΓ (by kernel_rfl) fun K14 hK14 => ?_
      simp only [rs]
      repeat (refine opsG fun K hK => ?_; simp only [z, seval, ref20_Keep_t2]; (repeat (first | refine gcI ?_ | refine fun (_ : _ ≤ _) => ?_)); refine hK _ ?_; clear hK K)
      refine hK14 _ ?_
      obtain ⟨⟨hg20, hg21⟩, H⟩ := gd_some H
      refine Sm.seqA h00 mixed hΓ (by kernel_rfl) fun K15 hK15 => ?_
      simp only [rs]
      repeat (refine opsG fun K hK => ?_; simp only [z, seval, ref20_Keep_t2]; (repeat (first | refine gcI ?_ | refine fun (_ : _ ≤ _) => ?_)); refine hK _ ?_; clear hK K)
      refine hK15 _ ?_
      obtain ⟨⟨hg17, hg18, hg19⟩, H⟩ := gd_some H
      refine Sm.seqD h00 mixed hΓ (by kernel_rfl) fun K16 hK16 => ?_
      simp only [rs]
      repeat (refine opsH fun K hK => ?_; simp only [z, seval, ref20_Keep_t2]; (repeat (first | refine gcI ?_ | refine fun (_ : _ ≤ _) => ?_)); refine hK _ ?_; clear hK K)
      refine hK16 _ ?_
      refine Sm.regA h00 mixed hΓ (by kernel_rfl) ?_
      simp only [rs]
      repeat (refine opsG fun K hK => ?_; simp only [z, seval, ref20_Keep_t2]; (repeat (first | refine gcI ?_ | refine fun (_ : _ ≤ _) => ?_)); refine hK _ ?_; clear hK K)
      refine opsG0 ?_
      refine hK13 _ ?_
      refine Sm.regA h00 mixed hΓ (by kernel_rfl) ?_
      simp only [rs]
      repeat (refine opsG fun K hK => ?_; simp only [z, seval, ref20_Keep_t2]; (repeat (first | refine gcI ?_ | refine fun (_ : _ ≤ _) => ?_)); refine hK _ ?_; clear hK K)
      refine opsG0 ?_
      try simp only [seval, Exit.exit.injEq]
      refine ⟨(_, _, _, _), (Option.some.inj H).symm, ?_⟩
      exact weak_b [some 576, some 864] rfl rfl rfl (by simp only [wk, z, seval, ref20_Keep_t2]) (by simp only [wk, z, seval, ref20_Keep_t2])
    replace H := bif_f h12 H
    refine Sm.exit ?_
    try simp only [seval, Exit.exit.injEq]
    refine ⟨⟨_, (Option.some.inj H).symm⟩, fun hz => ?_⟩
    have hyy := Sum.inr.inj ((Option.some.inj H).trans hz)
    subst hyy
    have H := Ho9
    try dsimp only at H
    try simp only [seval, Exit.exit.injEq]
    refine ⟨(kept, rest), H, ?_⟩
    exact weak_b [some 9004, some 9005] rfl rfl rfl (by simp only [wk, z, seval, ref20_Keep_t2]) (by simp only [wk, z, seval, ref20_Keep_t2])
  rintro ⟨kept, rest⟩ H
  try dsimp only at H
  unfold ref20_Keep_k1 at H
  obtain ⟨r2, hr2, H⟩ := bind_some H
  obtain ⟨r3, hr3, H⟩ := bind_some H
  refine Sm.seqA h00 mixed hΓ (by kernel_rfl) fun K7 hK7 => ?_
  simp only [rs]
  repeat (refine opsG fun K hK => ?_; simp only [z, seval, ref20_Keep_s1, xref20_Valid, xref20_drop, hr2, hr3]; (repeat (first | refine gcI ?_ | refine fun (_ : _ ≤ _) => ?_)); refine hK _ ?_; clear hK K)
  refine hK7 _ ?_
  refine Sm.ret ?_
  try simp only [seval, Exit.exit.injEq]
  obtain rfl := Option.some.inj H
  refine Ret.ofR [some 960, some 992] (.inr rfl) ?_
  simp only [z, seval, ref20_Keep_s1]

abbrev ref20_Overlap_s1 : S := stB [] []

def ref20_Overlap_k1 (n : Nat) : Option Bool :=
  some false

abbrev ref20_Overlap_t2 (x : List Bool) (y : List Bool) (k : Int) : S := stB [(5, .elt 9002 1 [.bool] 0 0), (6, .elt 9003 1 [.bool] 0 0), (7, .c (.int .i64) (.int k))] [(9002, .row 4 (List.map e_Bool x)), (9003, .row 4 (List.map e_Bool y))]

def ref20_Overlap_b2 (n : Nat) (x : List Bool) (y : List Bool) (k : Int) : Option ((Int) ⊕ (((Bool) ⊕ (Unit)))) :=
  bif (decide (k < 512)) then
    gd ((0 ≤ k ∧ k < 512 ∧ x.length = 512) ∧ (Int.toNat k) < x.length ∧ ((gt x (Int.toNat k)) = true → (0 ≤ k ∧ k < 512 ∧ y.length = 512)) ∧ ((gt x (Int.toNat k)) = true → (Int.toNat k) < y.length)) <|
    bif (if (gt x (Int.toNat k)) = true then (gt y (Int.toNat k)) else false) then
      some (.inr (.inl true))
    else
      some (.inl (IntKind.wrap .i64 (k + 1)))
  else
    some (.inr (.inr ()))

def ref20_Overlap (n : Nat) (a : List TExtent) (b : List TExtent) : Option Bool :=
  (ref20_Set n a).bind fun r1 =>
  (ref20_Set n b).bind fun r2 =>
  gd (512 = 512 ∧ 512 = 512) <|
  (loopF (fun (x : Int) => ref20_Overlap_b2 n r1 r2 x) n 0).bind fun y7 =>
  match y7 with
  | .inl v =>
    some v
  | .inr v =>
    ref20_Overlap_k1 n

def xref20_Overlap (n : Nat) : Go.AE.Fn := mkFn (A := (List TExtent) × (List TExtent)) (R := Bool) 32 [(false, [.slice 43]), (false, [.slice 43])] false (fun xs => (((cg (xs.getD 0 []) 0).toSl.map d_TExtent), ((cg (xs.getD 1 []) 0).toSl.map d_TExtent))) (fun a => [[.slice (List.map e_TExtent a.1)], [.slice (List.map e_TExtent a.2)]]) (fun a => ref20_Overlap n a.1 a.2) (fun r => [.c .bool (.bool r)]) (fun r => [])

theorem cref20_Overlap (n : Nat) : Contract Try.prog (xref20_Overlap n) := by
  have hΓ : ∀ g, g ∈ ([xref20_Set n] : List Go.AE.Fn) → Contract Try.prog g := by
    intro g hg; simp only [List.mem_cons, List.not_mem_nil, or_false] at hg; subst hg; exact cref20_Set n
  refine contract_f (Try.f32.body.getD .skip) h00 Try.func32 rfl (by intro args w; exact Try.call32 args w) (by decide) (by intro _ r; exact ⟨rfl, by simp⟩) ?_
  rintro ⟨a, b⟩ r H
  try dsimp only at H
  unfold ref20_Overlap at H
  simp only [Try.f32, Option.getD]
  refine Sm.seqA h00 mixed hΓ (by kernel_rfl) fun K1 hK1 => ?_
  simp only [rs]
  repeat (refine opsG fun K hK => ?_; simp only [z, seval]; (repeat (first | refine gcI ?_ | refine fun (_ : _ ≤ _) => ?_)); refine hK _ ?_; clear hK K)
  refine hK1 _ ?_
  refine Sm.seqX h00 mixed hΓ (by kernel_rfl) fun K2 hK2 => ?_
  simp only [rs]
  obtain ⟨r1, hr1, H⟩ := bind_some H
  obtain ⟨r2, hr2, H⟩ := bind_some H
  obtain ⟨⟨hg3, hg4⟩, H⟩ := gd_some H
  (refine opsX fun K hK => ?_; simp only [z, seval, xref20_Set]; (repeat (first | refine gcI ?_ | refine fun (_ : _ ≤ _) => ?_)); refine hK _ ?_; clear hK K)
  iterate 2 (refine opsX fun K hK => ?_; simp only [z, seval, xref20_Set, hr1]; (repeat (first | refine gcI ?_ | refine fun (_ : _ ≤ _) => ?_)); refine hK _ ?_; clear hK K)
  (refine opsX fun K hK => ?_; simp only [z, seval, xref20_Set, hr1, hr2]; (repeat (first | refine gcI ?_ | refine fun (_ : _ ≤ _) => ?_)); refine hK _ ?_; clear hK K)
  refine opsY fun K hK => ?_; simp only [z, seval, xref20_Set, hr1, hr2]; (repeat (first | refine gcI ?_ | refine fun (_ : _ ≤ _) => ?_)); refine hK _ ?_; clear hK K
  refine opsY fun K hK => ?_; simp only [z, seval, xref20_Set, hr1, hr2]; (repeat (first | refine gcI ?_ | refine fun (_ : _ ≤ _) => ?_)); refine hK _ ?_; clear hK K
  refine opsY fun K hK => ?_; simp only [z, seval, xref20_Set, hr1, hr2]; (repeat (first | refine gcI ?_ | refine fun (_ : _ ≤ _) => ?_)); refine hK _ ?_; clear hK K
  refine opsY fun K hK => ?_; simp only [z, seval, xref20_Set, hr1, hr2]; (repeat (first | refine gcI ?_ | refine fun (_ : _ ≤ _) => ?_)); refine hK _ ?_; clear hK K
  refine hK2 _ ?_
  refine Sm.cut (fun (x : Unit) => ref20_Overlap_s1) (fun x => ref20_Overlap_k1 n = some r) ?_ ?_
  · refine Sm.seqA h00 mixed hΓ (by kernel_rfl) fun K6 hK6 => ?_
    simp only [rs]
    repeat (refine opsG fun K hK => ?_; simp only [z, seval]; (repeat (first | refine gcI ?_ | refine fun (_ : _ ≤ _) => ?_)); refine hK _ ?_; clear hK K)
    refine hK6 _ ?_
    refine Sm.block ?_
    obtain ⟨y7, hy7, Ho7⟩ := bind_some H
    refine Sm.loopB (fun (x : Int) => ref20_Overlap_b2 n r1 r2 x) (fun x => ref20_Overlap_t2 r1 r2 x) hy7 ?_ ?_
    · exact weak_b [some 80, some 96] rfl rfl rfl (by simp only [wk, z, seval]) (by simp only [wk, z, seval])
    rintro k z7 H
    try dsimp only at H
    unfold ref20_Overlap_b2 at H
    refine Sm.seqK fun K8 hK8 => ?_
    refine Sm.seqA h00 mixed hΓ (by kernel_rfl) fun K9 hK9 => ?_
    simp only [rs]
    repeat (refine opsG fun K hK => ?_; simp only [z, seval, ref20_Overlap_t2]; (repeat (first | refine gcI ?_ | refine fun (_ : _ ≤ _) => ?_)); refine hK _ ?_; clear hK K)
    refine hK9 _ ?_
    refine Sm.condK (by rfl) fun Ka Kb ha hb => ?_
    simp only [wpCond, z, seval, ref20_Overlap_t2]
    refine ⟨fun h10 => ha ?_, fun h10 => hb ?_⟩
    · replace H := bif_t h10 H
      refine Sm.skip ?_
      refine hK8 _ ?_
      refine Sm.seqK fun K11 hK11 => ?_
      refine Sm.block ?_
      obtain ⟨⟨hg15, hg16, hg17, hg18⟩, H⟩ := gd_some H
      refine Sm.seqA h00 mixed hΓ (by kernel_rfl) fun K12 hK12 => ?_
      simp only [rs]
      repeat (refine opsG fun K hK => ?_; simp only [z, seval, ref20_Overlap_t2]; (repeat (first | refine gcI ?_ | refine fun (_ : _ ≤ _) => ?_)); refine hK _ ?_; clear hK K)
      refine hK12 _ ?_
      refine Sm.condK (by rfl) fun Ka Kb ha hb => ?_
      simp only [wpCond, z, seval, ref20_Overlap_t2]
      refine ⟨fun h13 => ha ?_, fun h13 => hb ?_⟩
      · replace H := bif_t h13 H
        refine Sm.seqA h00 mixed hΓ (by kernel_rfl) fun K14 hK14 => ?_
        simp only [rs]
        repeat (refine opsG fun K hK => ?_; simp only [z, seval, ref20_Overlap_t2]; (repeat (first | refine gcI ?_ | refine fun (_ : _ ≤ _) => ?_)); refine hK _ ?_; clear hK K)
        refine hK14 _ ?_
        refine Sm.ret ?_
        try simp only [seval, Exit.exit.injEq]
        refine ⟨⟨_, (Option.some.inj H).symm⟩, fun hz => ?_⟩
        have hyy := Sum.inr.inj ((Option.some.inj H).trans hz)
        subst hyy
        have H := Ho7
        try dsimp only at H
        try simp only [seval, Exit.exit.injEq]
        obtain rfl := Option.some.inj H
        refine Ret.ofR [] (.inr rfl) ?_
        simp only [z, seval, ref20_Overlap_t2]
      replace H := bif_f h13 H
      refine Sm.skip ?_
      refine hK11 _ ?_
      refine Sm.regA h00 mixed hΓ (by kernel_rfl) ?_
      simp only [rs]
      repeat (refine opsG fun K hK => ?_; simp only [z, seval, ref20_Overlap_t2]; (repeat (first | refine gcI ?_ | refine fun (_ : _ ≤ _) => ?_)); refine hK _ ?_; clear hK K)
      refine opsG0 ?_
      try simp only [seval, Exit.exit.injEq]
      refine ⟨_, (Option.some.inj H).symm, ?_⟩
      exact weak_b [some 9002, some 9003] rfl rfl rfl (by simp only [wk, z, seval, ref20_Overlap_t2]) (by simp only [wk, z, seval, ref20_Overlap_t2])
    replace H := bif_f h10 H
    refine Sm.exit ?_
    try simp only [seval, Exit.exit.injEq]
    refine ⟨⟨_, (Option.some.inj H).symm⟩, fun hz => ?_⟩
    have hyy := Sum.inr.inj ((Option.some.inj H).trans hz)
    subst hyy
    have H := Ho7
    try dsimp only at H
    try simp only [seval, Exit.exit.injEq]
    refine ⟨(), H, ?_⟩
    exact weak_b [] rfl rfl rfl (by simp only [wk, z, seval, ref20_Overlap_t2]) (by simp only [wk, z, seval, ref20_Overlap_t2])
  rintro ⟨⟩ H
  try dsimp only at H
  unfold ref20_Overlap_k1 at H
  refine Sm.seqA h00 mixed hΓ (by kernel_rfl) fun K5 hK5 => ?_
  simp only [rs]
  repeat (refine opsG fun K hK => ?_; simp only [z, seval, ref20_Overlap_s1]; (repeat (first | refine gcI ?_ | refine fun (_ : _ ≤ _) => ?_)); refine hK _ ?_; clear hK K)
  refine hK5 _ ?_
  refine Sm.ret ?_
  try simp only [seval, Exit.exit.injEq]
  obtain rfl := Option.some.inj H
  refine Ret.ofR [] (.inr rfl) ?_
  simp only [z, seval, ref20_Overlap_s1]
end Go.Proofs.Ytojnggohjbidaaa
