/- Text. -/
import Derived.Test.YtkebegfopnlkhaaM
set_option maxHeartbeats 8000000
set_option linter.unusedVariables false
set_option linter.unusedSimpArgs false
set_option maxRecDepth 100000
namespace Go.Proofs.Ytkebegfopnlkhaa
open Go.AE
abbrev ref39_Tracks_s2 (l : List TLine) : S := stB [(0, .c (.slice 48) (.slice (List.map e_TLine l)))] []
def ref39_Tracks_k2 (n : Nat) (l : List TLine) : Option ((List (List TRec)) × Int) :=
  (ref39_Layout n l).bind fun r1 =>
  some (r1, 0)
abbrev ref39_Tracks_t3 (l : List TLine) (i : Int) : S := stB [(0, .c (.slice 48) (.slice (List.map e_TLine l))), (5, .c (.int .i64) (.int i))] []
def ref39_Tracks_b3 (n : Nat) (l : List TLine) (i : Int) : Option ((Int) ⊕ ((((List (List TRec)) × Int) ⊕ (Unit)))) :=
  bif (decide (i < (l.length : Int))) then
    gd ((0 ≤ i ∧ i < (l.length : Int)) ∧ ((!(decide (((gt l (Int.toNat i)).Ctl) < 0))) = true → (0 ≤ i ∧ i < (l.length : Int)))) <|
    bif (if (decide (((gt l (Int.toNat i)).Ctl) < 0)) = true then true else (decide (((gt l (Int.toNat i)).Ctl) > 255))) then
      some (.inr (.inl ([], 1)))
    else
      some (.inl (IntKind.wrap .i64 (i + 1)))
  else
    some (.inr (.inr ()))
abbrev ref39_Tracks_s1 (l : List TLine) : S := stB [(0, .c (.slice 48) (.slice (List.map e_TLine l)))] []
def ref39_Tracks_k1 (n : Nat) (l : List TLine) : Option ((List (List TRec)) × Int) :=
  (loopF (fun (x : Int) => ref39_Tracks_b3 n l x) n 0).bind fun y8 =>
  match y8 with
  | .inl v =>
    some (v.1, v.2)
  | .inr v =>
    ref39_Tracks_k2 n l
abbrev ref39_Tracks_t4 (l : List TLine) (i_1 : Int) : S := stB [(0, .c (.slice 48) (.slice (List.map e_TLine l))), (4, .c (.int .i64) (.int i_1))] []
def ref39_Tracks_b4 (n : Nat) (l : List TLine) (i_1 : Int) : Option ((Int) ⊕ ((((List (List TRec)) × Int) ⊕ (Unit)))) :=
  bif (decide (i_1 < (l.length : Int))) then
    gd ((0 ≤ i_1 ∧ i_1 < (l.length : Int))) <|
    bif (decide ((((gt l (Int.toNat i_1)).Text).length : Int) > 132)) then
      some (.inr (.inl ([], 2)))
    else
      some (.inl (IntKind.wrap .i64 (i_1 + 1)))
  else
    some (.inr (.inr ()))
def ref39_Tracks (n : Nat) (l : List TLine) : Option ((List (List TRec)) × Int) :=
  bif (decide ((l.length : Int) > 4096)) then
    some ([], 2)
  else
    (loopF (fun (x : Int) => ref39_Tracks_b4 n l x) n 0).bind fun y19 =>
    match y19 with
    | .inl v =>
      some (v.1, v.2)
    | .inr v =>
      ref39_Tracks_k1 n l
def xref39_Tracks (n : Nat) : Go.AE.Fn := mkFn (A := (List TLine)) (R := (List (List TRec)) × Int) 25 [(false, [.slice 48])] true (fun xs => ((cg (xs.getD 0 []) 0).toSl.map d_TLine)) (fun a => [[.slice (List.map e_TLine a)]]) (fun a => ref39_Tracks n a) (fun r => [.own 0 [.slice 59] 0 r.1.length, .c (.int .i64) (.int r.2)]) (fun r => [.row 57 (List.map e_LTRec r.1)])
theorem cref39_Tracks (n : Nat) : Contract Try.prog (xref39_Tracks n) := by
  have hΓ : ∀ g, g ∈ ([xref39_Layout n] : List Go.AE.Fn) → Contract Try.prog g := by
    intro g hg; simp only [List.mem_cons, List.not_mem_nil, or_false] at hg; subst hg; exact cref39_Layout n
  refine contract_f (Try.f25.body.getD .skip) h00 Try.func25 rfl (by intro args w; exact Try.call25 args w) (by decide) (by intro h; cases h) ?_
  rintro l r H
  try dsimp only at H
  unfold ref39_Tracks at H
  simp only [Try.f25, Option.getD]
  refine Sm.seqA h00 mixed hΓ (by kernel_rfl) fun K1 hK1 => ?_
  simp only [rs]
  repeat (refine opsG fun K hK => ?_; simp only [z, seval]; (repeat first | refine gcI ?_ | intro (_ : _ ≤ _)); refine hK _ ?_; clear hK K)
  refine hK1 _ ?_
  refine Sm.seqK fun K2 hK2 => ?_
  refine Sm.seqA h00 mixed hΓ (by kernel_rfl) fun K3 hK3 => ?_
  simp only [rs]
  repeat (refine opsG fun K hK => ?_; simp only [z, seval]; (repeat first | refine gcI ?_ | intro (_ : _ ≤ _)); refine hK _ ?_; clear hK K)
  refine hK3 _ ?_
  refine Sm.condK (by rfl) fun Ka Kb ha hb => ?_
  simp only [wpCond, z, seval]
  refine ⟨fun h4 => ha ?_, fun h4 => hb ?_⟩
  · replace H := bt h4 H
    refine Sm.seqA h00 mixed hΓ (by kernel_rfl) fun K5 hK5 => ?_
    simp only [rs]
    repeat (refine opsG fun K hK => ?_; simp only [z, seval]; (repeat first | refine gcI ?_ | intro (_ : _ ≤ _)); refine hK _ ?_; clear hK K)
    refine hK5 _ ?_
    refine Sm.ret ?_
    try simp only [seval, Exit.exit.injEq]
    obtain rfl := Option.some.inj H
    refine Ret.ofR [none] (.inr rfl) ?_
    simp only [z, seval]
    try omega
  replace H := bf h4 H
  refine Sm.skip ?_
  refine hK2 _ ?_
  refine Sm.cut (fun (x : Unit) => ref39_Tracks_s1 l) (fun x => ref39_Tracks_k1 n l = some r) ?_ ?_
  · refine Sm.seqA h00 mixed hΓ (by kernel_rfl) fun K18 hK18 => ?_
    simp only [rs]
    repeat (refine opsG fun K hK => ?_; simp only [z, seval]; (repeat first | refine gcI ?_ | intro (_ : _ ≤ _)); refine hK _ ?_; clear hK K)
    refine hK18 _ ?_
    refine Sm.block ?_
    obtain ⟨y19, hy19, Ho19⟩ := bind_some H
    refine Sm.loopB (fun (x : Int) => ref39_Tracks_b4 n l x) (fun x => ref39_Tracks_t4 l x) hy19 ?_ ?_
    · exact weak_b [] rfl rfl rfl (by simp only [wk, z, seval]) (by simp only [wk, z, seval])
    rintro i_1 z19 H
    try dsimp only at H
    unfold ref39_Tracks_b4 at H
    refine Sm.seqK fun K20 hK20 => ?_
    refine Sm.seqA h00 mixed hΓ (by kernel_rfl) fun K21 hK21 => ?_
    simp only [rs]
    repeat (refine opsG fun K hK => ?_; simp only [z, seval, ref39_Tracks_t4]; (repeat first | refine gcI ?_ | intro (_ : _ ≤ _)); refine hK _ ?_; clear hK K)
    refine hK21 _ ?_
    refine Sm.condK (by rfl) fun Ka Kb ha hb => ?_
    simp only [wpCond, z, seval, ref39_Tracks_t4]
    refine ⟨fun h22 => ha ?_, fun h22 => hb ?_⟩
    · replace H := bt h22 H
      refine Sm.skip ?_
      refine hK20 _ ?_
      refine Sm.seqK fun K23 hK23 => ?_
      refine Sm.block ?_
      obtain ⟨hg27, H⟩ := gd_some H
      refine Sm.seqA h00 mixed hΓ (by kernel_rfl) fun K24 hK24 => ?_
      simp only [rs]
      repeat (refine opsG fun K hK => ?_; simp only [z, seval, ref39_Tracks_t4]; (repeat first | refine gcI ?_ | intro (_ : _ ≤ _)); refine hK _ ?_; clear hK K)
      refine hK24 _ ?_
      refine Sm.condK (by rfl) fun Ka Kb ha hb => ?_
      simp only [wpCond, z, seval, ref39_Tracks_t4]
      refine ⟨fun h25 => ha ?_, fun h25 => hb ?_⟩
      · replace H := bt h25 H
        refine Sm.seqA h00 mixed hΓ (by kernel_rfl) fun K26 hK26 => ?_
        simp only [rs]
        repeat (refine opsG fun K hK => ?_; simp only [z, seval, ref39_Tracks_t4]; (repeat first | refine gcI ?_ | intro (_ : _ ≤ _)); refine hK _ ?_; clear hK K)
        refine hK26 _ ?_
        refine Sm.ret ?_
        try simp only [seval, Exit.exit.injEq]
        refine ⟨⟨_, (Option.some.inj H).symm⟩, fun hz => ?_⟩
        have hyy := Sum.inr.inj ((Option.some.inj H).trans hz)
        subst hyy
        have H := Ho19
        try dsimp only at H
        try simp only [seval, Exit.exit.injEq]
        obtain rfl := Option.some.inj H
        refine Ret.ofR [none] (.inr rfl) ?_
        simp only [z, seval, ref39_Tracks_t4]
        try omega
      replace H := bf h25 H
      refine Sm.skip ?_
      refine hK23 _ ?_
      refine Sm.regA h00 mixed hΓ (by kernel_rfl) ?_
      simp only [rs]
      repeat (refine opsG fun K hK => ?_; simp only [z, seval, ref39_Tracks_t4]; (repeat first | refine gcI ?_ | intro (_ : _ ≤ _)); refine hK _ ?_; clear hK K)
      refine opsG0 ?_
      try simp only [seval, Exit.exit.injEq]
      refine ⟨_, (Option.some.inj H).symm, ?_⟩
      exact weak_b [] rfl rfl rfl (by simp only [wk, z, seval, ref39_Tracks_t4]) (by simp only [wk, z, seval, ref39_Tracks_t4])
    replace H := bf h22 H
    refine Sm.exit ?_
    try simp only [seval, Exit.exit.injEq]
    refine ⟨⟨_, (Option.some.inj H).symm⟩, fun hz => ?_⟩
    have hyy := Sum.inr.inj ((Option.some.inj H).trans hz)
    subst hyy
    have H := Ho19
    try dsimp only at H
    try simp only [seval, Exit.exit.injEq]
    refine ⟨(), H, ?_⟩
    exact weak_b [] rfl rfl rfl (by simp only [wk, z, seval, ref39_Tracks_t4]) (by simp only [wk, z, seval, ref39_Tracks_t4])
  rintro ⟨⟩ H
  try dsimp only at H
  unfold ref39_Tracks_k1 at H
  refine Sm.cut (fun (x : Unit) => ref39_Tracks_s2 l) (fun x => ref39_Tracks_k2 n l = some r) ?_ ?_
  · refine Sm.seqA h00 mixed hΓ (by kernel_rfl) fun K7 hK7 => ?_
    simp only [rs]
    repeat (refine opsG fun K hK => ?_; simp only [z, seval, ref39_Tracks_s1]; (repeat first | refine gcI ?_ | intro (_ : _ ≤ _)); refine hK _ ?_; clear hK K)
    refine hK7 _ ?_
    refine Sm.block ?_
    obtain ⟨y8, hy8, Ho8⟩ := bind_some H
    refine Sm.loopB (fun (x : Int) => ref39_Tracks_b3 n l x) (fun x => ref39_Tracks_t3 l x) hy8 ?_ ?_
    · exact weak_b [] rfl rfl rfl (by simp only [wk, z, seval, ref39_Tracks_s1]) (by simp only [wk, z, seval, ref39_Tracks_s1])
    rintro i z8 H
    try dsimp only at H
    unfold ref39_Tracks_b3 at H
    refine Sm.seqK fun K9 hK9 => ?_
    refine Sm.seqA h00 mixed hΓ (by kernel_rfl) fun K10 hK10 => ?_
    simp only [rs]
    repeat (refine opsG fun K hK => ?_; simp only [z, seval, ref39_Tracks_t3]; (repeat first | refine gcI ?_ | intro (_ : _ ≤ _)); refine hK _ ?_; clear hK K)
    refine hK10 _ ?_
    refine Sm.condK (by rfl) fun Ka Kb ha hb => ?_
    simp only [wpCond, z, seval, ref39_Tracks_t3]
    refine ⟨fun h11 => ha ?_, fun h11 => hb ?_⟩
    · replace H := bt h11 H
      refine Sm.skip ?_
      refine hK9 _ ?_
      refine Sm.seqK fun K12 hK12 => ?_
      refine Sm.block ?_
      obtain ⟨⟨hg16, hg17⟩, H⟩ := gd_some H
      refine Sm.seqA h00 mixed hΓ (by kernel_rfl) fun K13 hK13 => ?_
      simp only [rs]
      repeat (refine opsG fun K hK => ?_; simp only [z, seval, ref39_Tracks_t3]; (repeat first | refine gcI ?_ | intro (_ : _ ≤ _)); refine hK _ ?_; clear hK K)
      refine hK13 _ ?_
      refine Sm.condK (by rfl) fun Ka Kb ha hb => ?_
      simp only [wpCond, z, seval, ref39_Tracks_t3]
      refine ⟨fun h14 => ha ?_, fun h14 => hb ?_⟩
      · replace H := bt h14 H
        refine Sm.seqA h00 mixed hΓ (by kernel_rfl) fun K15 hK15 => ?_
        simp only [rs]
        repeat (refine opsG fun K hK => ?_; simp only [z, seval, ref39_Tracks_t3]; (repeat first | refine gcI ?_ | intro (_ : _ ≤ _)); refine hK _ ?_; clear hK K)
        refine hK15 _ ?_
        refine Sm.ret ?_
        try simp only [seval, Exit.exit.injEq]
        refine ⟨⟨_, (Option.some.inj H).symm⟩, fun hz => ?_⟩
        have hyy := Sum.inr.inj ((Option.some.inj H).trans hz)
        subst hyy
        have H := Ho8
        try dsimp only at H
        try simp only [seval, Exit.exit.injEq]
        obtain rfl := Option.some.inj H
        refine Ret.ofR [none] (.inr rfl) ?_
        simp only [z, seval, ref39_Tracks_t3]
        try omega
      replace H := bf h14 H
      refine Sm.skip ?_
      refine hK12 _ ?_
      refine Sm.regA h00 mixed hΓ (by kernel_rfl) ?_
      simp only [rs]
      repeat (refine opsG fun K hK => ?_; simp only [z, seval, ref39_Tracks_t3]; (repeat first | refine gcI ?_ | intro (_ : _ ≤ _)); refine hK _ ?_; clear hK K)
      refine opsG0 ?_
      try simp only [seval, Exit.exit.injEq]
      refine ⟨_, (Option.some.inj H).symm, ?_⟩
      exact weak_b [] rfl rfl rfl (by simp only [wk, z, seval, ref39_Tracks_t3]) (by simp only [wk, z, seval, ref39_Tracks_t3])
    replace H := bf h11 H
    refine Sm.exit ?_
    try simp only [seval, Exit.exit.injEq]
    refine ⟨⟨_, (Option.some.inj H).symm⟩, fun hz => ?_⟩
    have hyy := Sum.inr.inj ((Option.some.inj H).trans hz)
    subst hyy
    have H := Ho8
    try dsimp only at H
    try simp only [seval, Exit.exit.injEq]
    refine ⟨(), H, ?_⟩
    exact weak_b [] rfl rfl rfl (by simp only [wk, z, seval, ref39_Tracks_t3]) (by simp only [wk, z, seval, ref39_Tracks_t3])
  rintro ⟨⟩ H
  try dsimp only at H
  unfold ref39_Tracks_k2 at H
  obtain ⟨r1, hr1, H⟩ := bind_some H
  refine Sm.seqA h00 mixed hΓ (by kernel_rfl) fun K6 hK6 => ?_
  simp only [rs]
  repeat (refine opsG fun K hK => ?_; simp only [z, seval, ref39_Tracks_s2, xref39_Layout, hr1]; (repeat first | refine gcI ?_ | intro (_ : _ ≤ _)); refine hK _ ?_; clear hK K)
  refine hK6 _ ?_
  refine Sm.ret ?_
  try simp only [seval, Exit.exit.injEq]
  obtain rfl := Option.some.inj H
  refine Ret.ofR [some 688] (.inr rfl) ?_
  simp only [z, seval, ref39_Tracks_s2]
  try omega
def law39_lays (n : Nat) (l : List TLine) : Option Bool :=
  (spool_Tracks n l).bind fun r1 =>
  (ref39_Tracks n l).bind fun r2 =>
  (ref15_SameTracks n r1.1 r2.1).bind fun r3 =>
  some (if r3 = true then (r1.2 == r2.2) else false)
def xlaw39_lays (n : Nat) : Go.AE.Fn := mkFn (A := (List TLine)) (R := Bool) 9 [(false, [.slice 48])] false (fun xs => ((cg (xs.getD 0 []) 0).toSl.map d_TLine)) (fun a => [[.slice (List.map e_TLine a)]]) (fun a => law39_lays n a) (fun r => [.c .bool (.bool r)]) (fun r => [])
theorem claw39_lays (n : Nat) : Contract Try.prog (xlaw39_lays n) := by
  have hΓ : ∀ g, g ∈ ([xspool_Tracks n, xref39_Tracks n, xref15_SameTracks n] : List Go.AE.Fn) → Contract Try.prog g := by
    intro g hg; simp only [List.mem_cons, List.not_mem_nil, or_false] at hg; rcases hg with rfl | rfl | rfl; exact cspool_Tracks n; exact cref39_Tracks n; exact cref15_SameTracks n
  refine contract_f (Try.f9.body.getD .skip) h00 Try.func9 rfl (by intro args w; exact Try.call9 args w) (by decide) (by intro _ r; exact ⟨rfl, by simp⟩) ?_
  rintro l r H
  try dsimp only at H
  unfold law39_lays at H
  simp only [Try.f9, Option.getD]
  refine Sm.seqA h00 mixed hΓ (by kernel_rfl) fun K1 hK1 => ?_
  simp only [rs]
  repeat (refine opsG fun K hK => ?_; simp only [z, seval]; (repeat first | refine gcI ?_ | intro (_ : _ ≤ _)); refine hK _ ?_; clear hK K)
  refine hK1 _ ?_
  obtain ⟨r1, hr1, H⟩ := bind_some H
  refine Sm.seqA h00 mixed hΓ (by kernel_rfl) fun K2 hK2 => ?_
  simp only [rs]
  repeat (refine opsG fun K hK => ?_; simp only [z, seval, xspool_Tracks, hr1]; (repeat first | refine gcI ?_ | intro (_ : _ ≤ _)); refine hK _ ?_; clear hK K)
  refine hK2 _ ?_
  obtain ⟨r2, hr2, H⟩ := bind_some H
  refine Sm.seqA h00 mixed hΓ (by kernel_rfl) fun K3 hK3 => ?_
  simp only [rs]
  repeat (refine opsG fun K hK => ?_; simp only [z, seval, xspool_Tracks, xref39_Tracks, hr2]; (repeat first | refine gcI ?_ | intro (_ : _ ≤ _)); refine hK _ ?_; clear hK K)
  refine hK3 _ ?_
  obtain ⟨r3, hr3, H⟩ := bind_some H
  refine Sm.seqA h00 mixed hΓ (by kernel_rfl) fun K4 hK4 => ?_
  simp only [rs]
  repeat (refine opsG fun K hK => ?_; simp only [z, seval, xspool_Tracks, xref39_Tracks, xref15_SameTracks, hr3]; (repeat first | refine gcI ?_ | intro (_ : _ ≤ _)); refine hK _ ?_; clear hK K)
  refine hK4 _ ?_
  refine Sm.ret ?_
  try simp only [seval, Exit.exit.injEq]
  obtain rfl := Option.some.inj H
  refine Ret.ofR [] (.inr rfl) ?_
  simp only [z, seval]
def law39_SpoolLays (n : Nat) (l : List TLine) : Option Bool :=
  (law39_Few n l).bind fun r1 =>
  (law39_lays n r1).bind fun r2 =>
  bif r2 then
    gd (r2 = true) <|
    (law39_Valid n l).bind fun r3 =>
    (law39_lays n r3).bind fun r4 =>
    gd ((r4 = true → (law39_works n).isSome = true)) <|
    some (if r4 = true then ((law39_works n).getD default) else false)
  else
    some false
def xlaw39_SpoolLays (n : Nat) : Go.AE.Fn := mkFn (A := (List TLine)) (R := Bool) 3 [(false, [.slice 48])] false (fun xs => ((cg (xs.getD 0 []) 0).toSl.map d_TLine)) (fun a => [[.slice (List.map e_TLine a)]]) (fun a => law39_SpoolLays n a) (fun r => [.c .bool (.bool r)]) (fun r => [])
theorem claw39_SpoolLays (n : Nat) : Contract Try.prog (xlaw39_SpoolLays n) := by
  have hΓ : ∀ g, g ∈ ([xlaw39_Few n, xlaw39_lays n, xlaw39_Valid n, xlaw39_works n] : List Go.AE.Fn) → Contract Try.prog g := by
    intro g hg; simp only [List.mem_cons, List.not_mem_nil, or_false] at hg; rcases hg with rfl | rfl | rfl | rfl; exact claw39_Few n; exact claw39_lays n; exact claw39_Valid n; exact claw39_works n
  refine contract_f (Try.f3.body.getD .skip) h00 Try.func3 rfl (by intro args w; exact Try.call3 args w) (by decide) (by intro _ r; exact ⟨rfl, by simp⟩) ?_
  rintro l r H
  try dsimp only at H
  unfold law39_SpoolLays at H
  simp only [Try.f3, Option.getD]
  refine Sm.seqA h00 mixed hΓ (by kernel_rfl) fun K1 hK1 => ?_
  simp only [rs]
  repeat (refine opsG fun K hK => ?_; simp only [z, seval]; (repeat first | refine gcI ?_ | intro (_ : _ ≤ _)); refine hK _ ?_; clear hK K)
  refine hK1 _ ?_
  refine Sm.seqX h00 mixed hΓ (by kernel_rfl) fun K2 hK2 => ?_
  simp only [rs]
  obtain ⟨r1, hr1, H⟩ := bind_some H
  obtain ⟨r2, hr2, H⟩ := bind_some H
  (refine opsX fun K hK => ?_; simp only [z, seval, xlaw39_Few, xlaw39_lays, xlaw39_Valid, xlaw39_works]; (repeat first | refine gcI ?_ | intro (_ : _ ≤ _)); refine hK _ ?_; clear hK K)
  (refine opsX fun K hK => ?_; simp only [z, seval, xlaw39_Few, xlaw39_lays, xlaw39_Valid, xlaw39_works, hr1]; (repeat first | refine gcI ?_ | intro (_ : _ ≤ _)); refine hK _ ?_; clear hK K)
  iterate 3 (refine opsX fun K hK => ?_; simp only [z, seval, xlaw39_Few, xlaw39_lays, xlaw39_Valid, xlaw39_works, hr1, hr2]; (repeat first | refine gcI ?_ | intro (_ : _ ≤ _)); refine hK _ ?_; clear hK K)
  refine bif_cases H (fun hs3 H => ?_) (fun hs3 H => ?_)
  · obtain ⟨hg4, H⟩ := gd_some H
    obtain ⟨r3, hr3, H⟩ := bind_some H
    obtain ⟨r4, hr4, H⟩ := bind_some H
    obtain ⟨hg5, H⟩ := gd_some H
    refine opsTG rfl (by simp only [z, seval, xlaw39_Few, xlaw39_lays, xlaw39_Valid, xlaw39_works, hr1, hr2, hs3, hr3]) fun K hK => ?_; simp only [z, seval, xlaw39_Few, xlaw39_lays, xlaw39_Valid, xlaw39_works, hr1, hr2, hs3, hr3]; (repeat first | refine gcI ?_ | intro (_ : _ ≤ _)); refine hK _ ?_; clear hK K
    refine opsTG rfl (by simp only [z, seval, xlaw39_Few, xlaw39_lays, xlaw39_Valid, xlaw39_works, hr1, hr2, hs3, hr3, hr4]) fun K hK => ?_; simp only [z, seval, xlaw39_Few, xlaw39_lays, xlaw39_Valid, xlaw39_works, hr1, hr2, hs3, hr3, hr4]; (repeat first | refine gcI ?_ | intro (_ : _ ≤ _)); refine hK _ ?_; clear hK K
    refine opsP fun K hK => ?_; simp only [z, seval, xlaw39_Few, xlaw39_lays, xlaw39_Valid, xlaw39_works, hr1, hr2, hs3, hr3, hr4]; (repeat first | refine gcI ?_ | intro (_ : _ ≤ _)); refine Or.inl ?_; (repeat first | refine gcI ?_ | intro (_ : _ ≤ _)); refine hK _ ?_; clear hK K
    iterate 4 (refine opsX fun K hK => ?_; simp only [z, seval, xlaw39_Few, xlaw39_lays, xlaw39_Valid, xlaw39_works, hr1, hr2, hs3, hr3, hr4]; (repeat first | refine gcI ?_ | intro (_ : _ ≤ _)); refine hK _ ?_; clear hK K)
    refine hK2 _ ?_
    refine Sm.ret ?_
    try simp only [seval, Exit.exit.injEq]
    obtain rfl := Option.some.inj H
    refine Ret.ofR [] (.inr rfl) ?_
    simp only [z, seval]
  refine opsF rfl (by simp only [z, seval, xlaw39_Few, xlaw39_lays, xlaw39_Valid, xlaw39_works, hr1, hr2, hs3]) ?_
  refine opsF rfl (by simp only [z, seval, xlaw39_Few, xlaw39_lays, xlaw39_Valid, xlaw39_works, hr1, hr2, hs3]) ?_
  refine opsP fun K hK => ?_; simp only [z, seval, xlaw39_Few, xlaw39_lays, xlaw39_Valid, xlaw39_works, hr1, hr2, hs3]; (repeat first | refine gcI ?_ | intro (_ : _ ≤ _)); refine Or.inr ?_; (repeat first | refine gcI ?_ | intro (_ : _ ≤ _)); refine hK _ ?_; clear hK K
  (refine opsX fun K hK => ?_; simp only [z, seval, xlaw39_Few, xlaw39_lays, xlaw39_Valid, xlaw39_works, hr1, hr2, hs3]; (repeat first | refine gcI ?_ | intro (_ : _ ≤ _)); refine hK _ ?_; clear hK K)
  refine opsF rfl (by simp only [z, seval, xlaw39_Few, xlaw39_lays, xlaw39_Valid, xlaw39_works, hr1, hr2, hs3]) ?_
  refine opsP fun K hK => ?_; simp only [z, seval, xlaw39_Few, xlaw39_lays, xlaw39_Valid, xlaw39_works, hr1, hr2, hs3]; (repeat first | refine gcI ?_ | intro (_ : _ ≤ _)); refine Or.inr ?_; (repeat first | refine gcI ?_ | intro (_ : _ ≤ _)); refine hK _ ?_; clear hK K
  (refine opsX fun K hK => ?_; simp only [z, seval, xlaw39_Few, xlaw39_lays, xlaw39_Valid, xlaw39_works, hr1, hr2, hs3]; (repeat first | refine gcI ?_ | intro (_ : _ ≤ _)); refine hK _ ?_; clear hK K)
  refine hK2 _ ?_
  refine Sm.ret ?_
  try simp only [seval, Exit.exit.injEq]
  obtain rfl := Option.some.inj H
  refine Ret.ofR [] (.inr rfl) ?_
  simp only [z, seval]
end Go.Proofs.Ytkebegfopnlkhaa
