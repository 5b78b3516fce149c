/-
  The functions that call one whose contract is written by hand.
-/
import Derived.Test.YtojnggohjbidaaaM
set_option maxHeartbeats 8000000
set_option linter.unusedVariables false
set_option linter.unusedSimpArgs false
set_option maxRecDepth 100000
namespace Go.Proofs.Ytojnggohjbidaaa
open Go.AE
def law20_ExtentComplements (n : Nat) (used : List TExtent) (n_ : Int) (track : Int) : Option Bool :=
  (extent_Free n used n_).bind fun r1 =>
  (extent_Valid n used).bind fun r2 =>
  bif (if (if (!r2) = true then true else (decide (n_ < 0))) = true then true else (decide (n_ > 512))) then
    gd (((((r1.length : Nat) : Int) == 0) = true → (law20_works n).isSome = true)) <|
    some (if (((r1.length : Nat) : Int) == 0) = true then ((law20_works n).getD default) else false)
  else
    bif (if (decide (track < 0)) = true then true else (decide (track ≥ n_))) then
      (extent_Index n r1 track).bind fun r3 =>
      (extent_Check n r1 n_).bind fun r4 =>
      gd (((if r4 = true then (!r3.2) else false) = true → (law20_works n).isSome = true)) <|
      some (if (if r4 = true then (!r3.2) else false) = true then ((law20_works n).getD default) else false)
    else
      (extent_Index n used track).bind fun r5 =>
      (extent_Index n r1 track).bind fun r6 =>
      (extent_Check n r1 n_).bind fun r7 =>
      gd (((if r7 = true then (r5.2 != r6.2) else false) = true → (law20_works n).isSome = true)) <|
      some (if (if r7 = true then (r5.2 != r6.2) else false) = true then ((law20_works n).getD default) else false)

def xlaw20_ExtentComplements (n : Nat) : Go.AE.Fn := mkFn (A := (List TExtent) × Int × Int) (R := Bool) 8 [(false, [.slice 43]), (false, [.int .i64]), (false, [.int .i64])] false (fun xs => (((cg (xs.getD 0 []) 0).toSl.map d_TExtent), (cg (xs.getD 1 []) 0).toInt, (cg (xs.getD 2 []) 0).toInt)) (fun a => [[.slice (List.map e_TExtent a.1)], [.int a.2.1], [.int a.2.2]]) (fun a => law20_ExtentComplements n a.1 a.2.1 a.2.2) (fun r => [.c .bool (.bool r)]) (fun r => [])

theorem claw20_ExtentComplements (n : Nat) : Contract Try.prog (xlaw20_ExtentComplements n) := by
  have hΓ : ∀ g, g ∈ ([xextent_Free n, xextent_Valid n, xlaw20_works n, xextent_Index n, xextent_Check n] : List Go.AE.Fn) → Contract Try.prog g := by
    intro g hg; simp only [List.mem_cons, List.not_mem_nil, or_false] at hg; rcases hg with rfl | rfl | rfl | rfl | rfl; exact cextent_Free n; exact cextent_Valid n; exact claw20_works n; exact cextent_Index n; exact cextent_Check n
  refine contract_f (Try.f8.body.getD .skip) h00 Try.func8 rfl (by intro args w; exact Try.call8 args w) (by decide) (by intro _ r; exact ⟨rfl, by simp⟩) ?_
  rintro ⟨used, n_, track⟩ r H
  try dsimp only at H
  unfold law20_ExtentComplements at H
  simp only [Try.f8, Option.getD]
  refine Sm.seqA h00 mixed hΓ (by kernel_rfl) fun K1 hK1 => ?_
  simp only [rs]
  repeat (refine opsG fun K hK => ?_; simp only [z, seval]; (repeat (first | refine gcI ?_ | refine fun (_ : _ ≤ _) => ?_)); refine hK _ ?_; clear hK K)
  refine hK1 _ ?_
  obtain ⟨r1, hr1, H⟩ := bind_some H
  refine Sm.seqA h00 mixed hΓ (by kernel_rfl) fun K2 hK2 => ?_
  simp only [rs]
  repeat (refine opsG fun K hK => ?_; simp only [z, seval, xextent_Free, hr1]; (repeat (first | refine gcI ?_ | refine fun (_ : _ ≤ _) => ?_)); refine hK _ ?_; clear hK K)
  refine hK2 _ ?_
  refine Sm.seqK fun K3 hK3 => ?_
  obtain ⟨r2, hr2, H⟩ := bind_some H
  refine Sm.seqA h00 mixed hΓ (by kernel_rfl) fun K4 hK4 => ?_
  simp only [rs]
  repeat (refine opsG fun K hK => ?_; simp only [z, seval, xextent_Free, xextent_Valid, hr2]; (repeat (first | refine gcI ?_ | refine fun (_ : _ ≤ _) => ?_)); refine hK _ ?_; clear hK K)
  refine hK4 _ ?_
  refine Sm.condK (by rfl) fun Ka Kb ha hb => ?_
  simp only [wpCond, z, seval]
  refine ⟨fun h5 => ha ?_, fun h5 => hb ?_⟩
  · replace H := bif_t h5 H
    obtain ⟨hg7, H⟩ := gd_some H
    refine Sm.seqA h00 mixed hΓ (by kernel_rfl) fun K6 hK6 => ?_
    simp only [rs]
    repeat (refine opsG fun K hK => ?_; simp only [z, seval, xextent_Free, xextent_Valid, xlaw20_works]; (repeat (first | refine gcI ?_ | refine fun (_ : _ ≤ _) => ?_)); refine hK _ ?_; clear hK K)
    refine hK6 _ ?_
    refine Sm.ret ?_
    try simp only [seval, Exit.exit.injEq]
    obtain rfl := Option.some.inj H
    refine Ret.ofR [] (.inr rfl) ?_
    simp only [z, seval]
  replace H := bif_f h5 H
  refine Sm.skip ?_
  refine hK3 _ ?_
  refine Sm.seqK fun K8 hK8 => ?_
  refine Sm.seqA h00 mixed hΓ (by kernel_rfl) fun K9 hK9 => ?_
  simp only [rs]
  repeat (refine opsG fun K hK => ?_; simp only [z, seval]; (repeat (first | refine gcI ?_ | refine fun (_ : _ ≤ _) => ?_)); refine hK _ ?_; clear hK K)
  refine hK9 _ ?_
  refine Sm.condK (by rfl) fun Ka Kb ha hb => ?_
  simp only [wpCond, z, seval]
  refine ⟨fun h10 => ha ?_, fun h10 => hb ?_⟩
  · replace H := bif_t h10 H
    obtain ⟨r3, hr3, H⟩ := bind_some H
    refine Sm.seqA h00 mixed hΓ (by kernel_rfl) fun K11 hK11 => ?_
    simp only [rs]
    repeat (refine opsG fun K hK => ?_; simp only [z, seval, xextent_Free, xextent_Valid, xlaw20_works, xextent_Index, hr3]; (repeat (first | refine gcI ?_ | refine fun (_ : _ ≤ _) => ?_)); refine hK _ ?_; clear hK K)
    refine hK11 _ ?_
    obtain ⟨r4, hr4, H⟩ := bind_some H
    obtain ⟨hg13, H⟩ := gd_some H
    refine Sm.seqA h00 mixed hΓ (by kernel_rfl) fun K12 hK12 => ?_
    simp only [rs]
    repeat (refine opsG fun K hK => ?_; simp only [z, seval, xextent_Free, xextent_Valid, xlaw20_works, xextent_Index, xextent_Check, hr4]; (repeat (first | refine gcI ?_ | refine fun (_ : _ ≤ _) => ?_)); refine hK _ ?_; clear hK K)
    refine hK12 _ ?_
    refine Sm.ret ?_
    try simp only [seval, Exit.exit.injEq]
    obtain rfl := Option.some.inj H
    refine Ret.ofR [] (.inr rfl) ?_
    simp only [z, seval]
  replace H := bif_f h10 H
  refine Sm.skip ?_
  refine hK8 _ ?_
  obtain ⟨r5, hr5, H⟩ := bind_some H
  refine Sm.seqA h00 mixed hΓ (by kernel_rfl) fun K14 hK14 => ?_
  simp only [rs]
  repeat (refine opsG fun K hK => ?_; simp only [z, seval, xextent_Free, xextent_Valid, xlaw20_works, xextent_Index, hr5]; (repeat (first | refine gcI ?_ | refine fun (_ : _ ≤ _) => ?_)); refine hK _ ?_; clear hK K)
  refine hK14 _ ?_
  obtain ⟨r6, hr6, H⟩ := bind_some H
  refine Sm.seqA h00 mixed hΓ (by kernel_rfl) fun K15 hK15 => ?_
  simp only [rs]
  repeat (refine opsG fun K hK => ?_; simp only [z, seval, xextent_Free, xextent_Valid, xlaw20_works, xextent_Index, hr6]; (repeat (first | refine gcI ?_ | refine fun (_ : _ ≤ _) => ?_)); refine hK _ ?_; clear hK K)
  refine hK15 _ ?_
  obtain ⟨r7, hr7, H⟩ := bind_some H
  obtain ⟨hg17, H⟩ := gd_some H
  refine Sm.seqA h00 mixed hΓ (by kernel_rfl) fun K16 hK16 => ?_
  simp only [rs]
  repeat (refine opsG fun K hK => ?_; simp only [z, seval, xextent_Free, xextent_Valid, xlaw20_works, xextent_Index, xextent_Check, hr7]; (repeat (first | refine gcI ?_ | refine fun (_ : _ ≤ _) => ?_)); refine hK _ ?_; clear hK K)
  refine hK16 _ ?_
  refine Sm.ret ?_
  try simp only [seval, Exit.exit.injEq]
  obtain rfl := Option.some.inj H
  refine Ret.ofR [] (.inr rfl) ?_
  simp only [z, seval]

def law20_ExtentPlaces (n : Nat) (a : List TExtent) (b : List TExtent) (n_ : Int) : Option Bool :=
  (extent_Track n a n_).bind fun r1 =>
  (ref20_Track n a n_).bind fun r2 =>
  (extent_Index n a n_).bind fun r3 =>
  (ref20_Index n a n_).bind fun r4 =>
  (extent_Keep n a n_).bind fun r5 =>
  (ref20_Keep n a n_).bind fun r6 =>
  gd (((if (if (if (r1.1 == r2.1) = true then (r1.2 == r2.2) else false) = true then (r3.1 == r4.1) else false) = true then (r3.2 == r4.2) else false) = true → (ref20_Same n r5.1 r6.1).isSome = true) ∧ ((if (if (if (if (r1.1 == r2.1) = true then (r1.2 == r2.2) else false) = true then (r3.1 == r4.1) else false) = true then (r3.2 == r4.2) else false) = true then ((ref20_Same n r5.1 r6.1).getD default) else false) = true → (ref20_Same n r5.2 r6.2).isSome = true) ∧ ((if (if (if (if (if (r1.1 == r2.1) = true then (r1.2 == r2.2) else false) = true then (r3.1 == r4.1) else false) = true then (r3.2 == r4.2) else false) = true then ((ref20_Same n r5.1 r6.1).getD default) else false) = true then ((ref20_Same n r5.2 r6.2).getD default) else false) = true → (extent_Overlap n a b).isSome = true) ∧ ((if (if (if (if (if (r1.1 == r2.1) = true then (r1.2 == r2.2) else false) = true then (r3.1 == r4.1) else false) = true then (r3.2 == r4.2) else false) = true then ((ref20_Same n r5.1 r6.1).getD default) else false) = true then ((ref20_Same n r5.2 r6.2).getD default) else false) = true → (ref20_Overlap n a b).isSome = true) ∧ ((if (if (if (if (if (if (r1.1 == r2.1) = true then (r1.2 == r2.2) else false) = true then (r3.1 == r4.1) else false) = true then (r3.2 == r4.2) else false) = true then ((ref20_Same n r5.1 r6.1).getD default) else false) = true then ((ref20_Same n r5.2 r6.2).getD default) else false) = true then (((extent_Overlap n a b).getD default) == ((ref20_Overlap n a b).getD default)) else false) = true → (law20_works n).isSome = true)) <|
  some (if (if (if (if (if (if (if (r1.1 == r2.1) = true then (r1.2 == r2.2) else false) = true then (r3.1 == r4.1) else false) = true then (r3.2 == r4.2) else false) = true then ((ref20_Same n r5.1 r6.1).getD default) else false) = true then ((ref20_Same n r5.2 r6.2).getD default) else false) = true then (((extent_Overlap n a b).getD default) == ((ref20_Overlap n a b).getD default)) else false) = true then ((law20_works n).getD default) else false)

def xlaw20_ExtentPlaces (n : Nat) : Go.AE.Fn := mkFn (A := (List TExtent) × (List TExtent) × Int) (R := Bool) 9 [(false, [.slice 43]), (false, [.slice 43]), (false, [.int .i64])] false (fun xs => (((cg (xs.getD 0 []) 0).toSl.map d_TExtent), ((cg (xs.getD 1 []) 0).toSl.map d_TExtent), (cg (xs.getD 2 []) 0).toInt)) (fun a => [[.slice (List.map e_TExtent a.1)], [.slice (List.map e_TExtent a.2.1)], [.int a.2.2]]) (fun a => law20_ExtentPlaces n a.1 a.2.1 a.2.2) (fun r => [.c .bool (.bool r)]) (fun r => [])

theorem claw20_ExtentPlaces (n : Nat) : Contract Try.prog (xlaw20_ExtentPlaces n) := by
  have hΓ : ∀ g, g ∈ ([xextent_Track n, xref20_Track n, xextent_Index n, xref20_Index n, xextent_Keep n, xref20_Keep n, xref20_Same n, xextent_Overlap n, xref20_Overlap n, xlaw20_works n] : List Go.AE.Fn) → Contract Try.prog g := by
    intro g hg; simp only [List.mem_cons, List.not_mem_nil, or_false] at hg; rcases hg with rfl | rfl | rfl | rfl | rfl | rfl | rfl | rfl | rfl | rfl; exact cextent_Track n; exact cref20_Track n; exact cextent_Index n; exact cref20_Index n; exact cextent_Keep n; exact cref20_Keep n; exact cref20_Same n; exact cextent_Overlap n; exact cref20_Overlap n; exact claw20_works n
  refine contract_f (Try.f9.body.getD .skip) h00 Try.func9 rfl (by intro args w; exact Try.call9 args w) (by decide) (by intro _ r; exact ⟨rfl, by simp⟩) ?_
  rintro ⟨a, b, n_⟩ r H
  try dsimp only at H
  unfold law20_ExtentPlaces at H
  simp only [Try.f9, Option.getD]
  refine Sm.seqA h00 mixed hΓ (by kernel_rfl) fun K1 hK1 => ?_
  simp only [rs]
  repeat (refine opsG fun K hK => ?_; simp only [z, seval]; (repeat (first | refine gcI ?_ | refine fun (_ : _ ≤ _) => ?_)); refine hK _ ?_; clear hK K)
  refine hK1 _ ?_
  obtain ⟨r1, hr1, H⟩ := bind_some H
  refine Sm.seqA h00 mixed hΓ (by kernel_rfl) fun K2 hK2 => ?_
  simp only [rs]
  repeat (refine opsG fun K hK => ?_; simp only [z, seval, xextent_Track, hr1]; (repeat (first | refine gcI ?_ | refine fun (_ : _ ≤ _) => ?_)); refine hK _ ?_; clear hK K)
  refine hK2 _ ?_
  obtain ⟨r2, hr2, H⟩ := bind_some H
  refine Sm.seqA h00 mixed hΓ (by kernel_rfl) fun K3 hK3 => ?_
  simp only [rs]
  repeat (refine opsG fun K hK => ?_; simp only [z, seval, xextent_Track, xref20_Track, hr2]; (repeat (first | refine gcI ?_ | refine fun (_ : _ ≤ _) => ?_)); refine hK _ ?_; clear hK K)
  refine hK3 _ ?_
  obtain ⟨r3, hr3, H⟩ := bind_some H
  refine Sm.seqA h00 mixed hΓ (by kernel_rfl) fun K4 hK4 => ?_
  simp only [rs]
  repeat (refine opsG fun K hK => ?_; simp only [z, seval, xextent_Track, xref20_Track, xextent_Index, hr3]; (repeat (first | refine gcI ?_ | refine fun (_ : _ ≤ _) => ?_)); refine hK _ ?_; clear hK K)
  refine hK4 _ ?_
  obtain ⟨r4, hr4, H⟩ := bind_some H
  refine Sm.seqA h00 mixed hΓ (by kernel_rfl) fun K5 hK5 => ?_
  simp only [rs]
  repeat (refine opsG fun K hK => ?_; simp only [z, seval, xextent_Track, xref20_Track, xextent_Index, xref20_Index, hr4]; (repeat (first | refine gcI ?_ | refine fun (_ : _ ≤ _) => ?_)); refine hK _ ?_; clear hK K)
  refine hK5 _ ?_
  obtain ⟨r5, hr5, H⟩ := bind_some H
  refine Sm.seqA h00 mixed hΓ (by kernel_rfl) fun K6 hK6 => ?_
  simp only [rs]
  repeat (refine opsG fun K hK => ?_; simp only [z, seval, xextent_Track, xref20_Track, xextent_Index, xref20_Index, xextent_Keep, hr5]; (repeat (first | refine gcI ?_ | refine fun (_ : _ ≤ _) => ?_)); refine hK _ ?_; clear hK K)
  refine hK6 _ ?_
  obtain ⟨r6, hr6, H⟩ := bind_some H
  refine Sm.seqA h00 mixed hΓ (by kernel_rfl) fun K7 hK7 => ?_
  simp only [rs]
  repeat (refine opsG fun K hK => ?_; simp only [z, seval, xextent_Track, xref20_Track, xextent_Index, xref20_Index, xextent_Keep, xref20_Keep, hr6]; (repeat (first | refine gcI ?_ | refine fun (_ : _ ≤ _) => ?_)); refine hK _ ?_; clear hK K)
  refine hK7 _ ?_
  obtain ⟨⟨hg9, hg10, hg11, hg12, hg13⟩, H⟩ := gd_some H
  refine Sm.seqA h00 mixed hΓ (by kernel_rfl) fun K8 hK8 => ?_
  simp only [rs]
  repeat (refine opsG fun K hK => ?_; simp only [z, seval, xextent_Track, xref20_Track, xextent_Index, xref20_Index, xextent_Keep, xref20_Keep, xref20_Same, xextent_Overlap, xref20_Overlap, xlaw20_works]; (repeat (first | refine gcI ?_ | refine fun (_ : _ ≤ _) => ?_)); refine hK _ ?_; clear hK K)
  refine hK8 _ ?_
  refine Sm.ret ?_
  try simp only [seval, Exit.exit.injEq]
  obtain rfl := Option.some.inj H
  refine Ret.ofR [] (.inr rfl) ?_
  simp only [z, seval]
end Go.Proofs.Ytojnggohjbidaaa
