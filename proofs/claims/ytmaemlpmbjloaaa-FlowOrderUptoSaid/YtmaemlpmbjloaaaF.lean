/-
  The functions of the seat, as functions; their contracts.
-/
import Derived.Test.YtmaemlpmbjloaaaF1
set_option maxHeartbeats 8000000
set_option linter.unusedVariables false
set_option linter.unusedSimpArgs false
set_option maxRecDepth 100000
namespace Go.Proofs.Ytmaemlpmbjloaaa
open Go.AE
abbrev ref36_Dispositions_s5 (disp_1 : Int) (normal_1 : Int) (abend_2 : Int) : S := stB [(0, .c (.int .i64) (.int disp_1)), (1, .c (.int .i64) (.int normal_1)), (2, .c (.int .i64) (.int abend_2))] []

def ref36_Dispositions_k5 (n : Nat) (disp_1 : Int) (normal_1 : Int) (abend_2 : Int) : Option (Int × Int × Int) :=
  some (disp_1, normal_1, abend_2)

abbrev ref36_Dispositions_s4 (disp_1 : Int) (normal_1 : Int) (abend_1 : Int) (other : Int) : S := stB [(0, .c (.int .i64) (.int disp_1)), (1, .c (.int .i64) (.int normal_1)), (2, .c (.int .i64) (.int abend_1)), (9, .c (.int .i64) (.int other))] []

def ref36_Dispositions_k4 (n : Nat) (disp_1 : Int) (normal_1 : Int) (abend_1 : Int) (other : Int) : Option (Int × Int × Int) :=
  bif (abend_1 == 0) then
    ref36_Dispositions_k5 n disp_1 normal_1 other
  else
    ref36_Dispositions_k5 n disp_1 normal_1 abend_1

abbrev ref36_Dispositions_s3 (disp_1 : Int) (normal_1 : Int) (abend : Int) (other : Int) : S := stB [(0, .c (.int .i64) (.int disp_1)), (1, .c (.int .i64) (.int normal_1)), (2, .c (.int .i64) (.int abend)), (9, .c (.int .i64) (.int other))] []

def ref36_Dispositions_k3 (n : Nat) (disp_1 : Int) (normal_1 : Int) (abend : Int) (other : Int) : Option (Int × Int × Int) :=
  bif (if (abend == 0) = true then (normal_1 != 5) else false) then
    ref36_Dispositions_k4 n disp_1 normal_1 normal_1 other
  else
    ref36_Dispositions_k4 n disp_1 normal_1 abend other

abbrev ref36_Dispositions_s2 (disp_1 : Int) (normal : Int) (abend : Int) (other : Int) : S := stB [(0, .c (.int .i64) (.int disp_1)), (1, .c (.int .i64) (.int normal)), (2, .c (.int .i64) (.int abend)), (9, .c (.int .i64) (.int other))] []

def ref36_Dispositions_k2 (n : Nat) (disp_1 : Int) (normal : Int) (abend : Int) (other : Int) : Option (Int × Int × Int) :=
  bif (normal == 0) then
    ref36_Dispositions_k3 n disp_1 other abend other
  else
    ref36_Dispositions_k3 n disp_1 normal abend other

abbrev ref36_Dispositions_s1 (disp_1 : Int) (normal : Int) (abend : Int) : S := stB [(0, .c (.int .i64) (.int disp_1)), (1, .c (.int .i64) (.int normal)), (2, .c (.int .i64) (.int abend))] []

def ref36_Dispositions_k1 (n : Nat) (disp_1 : Int) (normal : Int) (abend : Int) : Option (Int × Int × Int) :=
  bif (disp_1 == 1) then
    ref36_Dispositions_k2 n disp_1 normal abend 2
  else
    ref36_Dispositions_k2 n disp_1 normal abend 1

def ref36_Dispositions (n : Nat) (disp : Int) (normal : Int) (abend : Int) : Option (Int × Int × Int) :=
  bif (disp == 0) then
    ref36_Dispositions_k1 n 1 normal abend
  else
    ref36_Dispositions_k1 n disp normal abend

def xref36_Dispositions (n : Nat) : Go.AE.Fn := mkFn (A := Int × Int × Int) (R := Int × Int × Int) 20 [(false, [.int .i64]), (false, [.int .i64]), (false, [.int .i64])] false (fun xs => ((cg (xs.getD 0 []) 0).toInt, (cg (xs.getD 1 []) 0).toInt, (cg (xs.getD 2 []) 0).toInt)) (fun a => [[.int a.1], [.int a.2.1], [.int a.2.2]]) (fun a => ref36_Dispositions n a.1 a.2.1 a.2.2) (fun r => [.c (.int .i64) (.int r.1), .c (.int .i64) (.int r.2.1), .c (.int .i64) (.int r.2.2)]) (fun r => [])

theorem cref36_Dispositions (n : Nat) : Contract Try.prog (xref36_Dispositions n) := by
  have hΓ : ∀ g, g ∈ ([] : List Go.AE.Fn) → Contract Try.prog g := by simp
  refine contract_f (Try.f20.body.getD .skip) h00 Try.func20 rfl (by intro args w; exact Try.call20 args w) (by decide) (by intro _ r; exact ⟨rfl, by simp⟩) ?_
  rintro ⟨disp, normal, abend⟩ r H
  try dsimp only at H
  unfold ref36_Dispositions at H
  simp only [Try.f20, Option.getD]
  refine Sm.seqK fun K1 hK1 => ?_
  refine Sm.regA (Γ := []) h00 mixed hΓ (by kernel_rfl) ?_
  simp only [rs]
  repeat (refine opsG fun K hK => ?_; simp (maxSteps := 2000000) only [ev, ew, tys, tl, ↓reduceIte, reduceCtorEq, Nat.reduceAdd, Nat.reduceMul, Nat.reduceSub, Nat.reduceEqDiff, Nat.reduceLeDiff, Nat.reduceLT, Int.reduceToNat, ref36_Dispositions_s5, ref36_Dispositions_s4, ref36_Dispositions_s3, ref36_Dispositions_s2, ref36_Dispositions_s1, Option.isSome_some, Option.getD_some]; (repeat (first | refine ⟨by first | with_reducible assumption | omega | (intro hh; (repeat refine ⟨hh, ?_⟩); revert hh; with_reducible assumption), ?_⟩ | refine fun (_ : _ ≤ _) => ?_)); refine hK _ ?_; clear hK K)
  refine opsG0 ?_
  refine hK1 _ ?_
  refine Sm.cut (fun (x : Int) => ref36_Dispositions_s1 x normal abend) (fun x => ref36_Dispositions_k1 n x normal abend = some r) ?_ ?_
  · refine Sm.seqK fun K12 hK12 => ?_
    refine Sm.regA (Γ := []) h00 mixed hΓ (by kernel_rfl) ?_
    simp only [rs]
    repeat (refine opsG fun K hK => ?_; simp (maxSteps := 2000000) only [ev, ew, tys, tl, ↓reduceIte, reduceCtorEq, Nat.reduceAdd, Nat.reduceMul, Nat.reduceSub, Nat.reduceEqDiff, Nat.reduceLeDiff, Nat.reduceLT, Int.reduceToNat, ref36_Dispositions_s5, ref36_Dispositions_s4, ref36_Dispositions_s3, ref36_Dispositions_s2, ref36_Dispositions_s1, Option.isSome_some, Option.getD_some]; (repeat (first | refine ⟨by first | with_reducible assumption | omega | (intro hh; (repeat refine ⟨hh, ?_⟩); revert hh; with_reducible assumption), ?_⟩ | refine fun (_ : _ ≤ _) => ?_)); refine hK _ ?_; clear hK K)
    refine opsG0 ?_
    refine hK12 _ ?_
    refine Sm.condK (by rfl) fun Ka Kb ha hb => ?_
    simp only [wpCond, ev, ew, tys, tl, ↓reduceIte, reduceCtorEq, Nat.reduceAdd, Nat.reduceMul, Nat.reduceSub, Nat.reduceEqDiff, Nat.reduceLeDiff, Nat.reduceLT, Int.reduceToNat, ref36_Dispositions_s5, ref36_Dispositions_s4, ref36_Dispositions_s3, ref36_Dispositions_s2, ref36_Dispositions_s1, Option.isSome_some, Option.getD_some]
    refine ⟨fun h13 => ha ?_, fun h13 => hb ?_⟩
    · replace H := bif_t h13 H
      refine Sm.regA (Γ := []) h00 mixed hΓ (by kernel_rfl) ?_
      simp only [rs]
      repeat (refine opsG fun K hK => ?_; simp (maxSteps := 2000000) only [ev, ew, tys, tl, ↓reduceIte, reduceCtorEq, Nat.reduceAdd, Nat.reduceMul, Nat.reduceSub, Nat.reduceEqDiff, Nat.reduceLeDiff, Nat.reduceLT, Int.reduceToNat, ref36_Dispositions_s5, ref36_Dispositions_s4, ref36_Dispositions_s3, ref36_Dispositions_s2, ref36_Dispositions_s1, Option.isSome_some, Option.getD_some]; (repeat (first | refine ⟨by first | with_reducible assumption | omega | (intro hh; (repeat refine ⟨hh, ?_⟩); revert hh; with_reducible assumption), ?_⟩ | refine fun (_ : _ ≤ _) => ?_)); refine hK _ ?_; clear hK K)
      refine opsG0 ?_
      try simp only [↓reduceIte, reduceCtorEq, Exit.exit.injEq]
      refine ⟨_, H, ?_⟩
      exact weak_b [] rfl rfl (by simp only [wk, ev, ew, tys, tl, ↓reduceIte, reduceCtorEq, Nat.reduceAdd, Nat.reduceMul, Nat.reduceSub, Nat.reduceEqDiff, Nat.reduceLeDiff, Nat.reduceLT, Int.reduceToNat, ref36_Dispositions_s5, ref36_Dispositions_s4, ref36_Dispositions_s3, ref36_Dispositions_s2, ref36_Dispositions_s1]) (by simp only [wk, ev, ew, tys, tl, ↓reduceIte, reduceCtorEq, Nat.reduceAdd, Nat.reduceMul, Nat.reduceSub, Nat.reduceEqDiff, Nat.reduceLeDiff, Nat.reduceLT, Int.reduceToNat, ref36_Dispositions_s5, ref36_Dispositions_s4, ref36_Dispositions_s3, ref36_Dispositions_s2, ref36_Dispositions_s1])
    · replace H := bif_f h13 H
      refine Sm.skip ?_
      try simp only [↓reduceIte, reduceCtorEq, Exit.exit.injEq]
      refine ⟨_, H, ?_⟩
      exact weak_b [] rfl rfl (by simp only [wk, ev, ew, tys, tl, ↓reduceIte, reduceCtorEq, Nat.reduceAdd, Nat.reduceMul, Nat.reduceSub, Nat.reduceEqDiff, Nat.reduceLeDiff, Nat.reduceLT, Int.reduceToNat, ref36_Dispositions_s5, ref36_Dispositions_s4, ref36_Dispositions_s3, ref36_Dispositions_s2, ref36_Dispositions_s1]) (by simp only [wk, ev, ew, tys, tl, ↓reduceIte, reduceCtorEq, Nat.reduceAdd, Nat.reduceMul, Nat.reduceSub, Nat.reduceEqDiff, Nat.reduceLeDiff, Nat.reduceLT, Int.reduceToNat, ref36_Dispositions_s5, ref36_Dispositions_s4, ref36_Dispositions_s3, ref36_Dispositions_s2, ref36_Dispositions_s1])
  · rintro disp_1 H
    try dsimp only at H
    unfold ref36_Dispositions_k1 at H
    refine Sm.seqK fun K2 hK2 => ?_
    refine Sm.regA (Γ := []) h00 mixed hΓ (by kernel_rfl) ?_
    simp only [rs]
    repeat (refine opsG fun K hK => ?_; simp (maxSteps := 2000000) only [ev, ew, tys, tl, ↓reduceIte, reduceCtorEq, Nat.reduceAdd, Nat.reduceMul, Nat.reduceSub, Nat.reduceEqDiff, Nat.reduceLeDiff, Nat.reduceLT, Int.reduceToNat, ref36_Dispositions_s5, ref36_Dispositions_s4, ref36_Dispositions_s3, ref36_Dispositions_s2, ref36_Dispositions_s1, Option.isSome_some, Option.getD_some]; (repeat (first | refine ⟨by first | with_reducible assumption | omega | (intro hh; (repeat refine ⟨hh, ?_⟩); revert hh; with_reducible assumption), ?_⟩ | refine fun (_ : _ ≤ _) => ?_)); refine hK _ ?_; clear hK K)
    refine opsG0 ?_
    refine hK2 _ ?_
    refine Sm.cut (fun (x : Int) => ref36_Dispositions_s2 disp_1 normal abend x) (fun x => ref36_Dispositions_k2 n disp_1 normal abend x = some r) ?_ ?_
    · refine Sm.seqK fun K10 hK10 => ?_
      refine Sm.regA (Γ := []) h00 mixed hΓ (by kernel_rfl) ?_
      simp only [rs]
      repeat (refine opsG fun K hK => ?_; simp (maxSteps := 2000000) only [ev, ew, tys, tl, ↓reduceIte, reduceCtorEq, Nat.reduceAdd, Nat.reduceMul, Nat.reduceSub, Nat.reduceEqDiff, Nat.reduceLeDiff, Nat.reduceLT, Int.reduceToNat, ref36_Dispositions_s5, ref36_Dispositions_s4, ref36_Dispositions_s3, ref36_Dispositions_s2, ref36_Dispositions_s1, Option.isSome_some, Option.getD_some]; (repeat (first | refine ⟨by first | with_reducible assumption | omega | (intro hh; (repeat refine ⟨hh, ?_⟩); revert hh; with_reducible assumption), ?_⟩ | refine fun (_ : _ ≤ _) => ?_)); refine hK _ ?_; clear hK K)
      refine opsG0 ?_
      refine hK10 _ ?_
      refine Sm.condK (by rfl) fun Ka Kb ha hb => ?_
      simp only [wpCond, ev, ew, tys, tl, ↓reduceIte, reduceCtorEq, Nat.reduceAdd, Nat.reduceMul, Nat.reduceSub, Nat.reduceEqDiff, Nat.reduceLeDiff, Nat.reduceLT, Int.reduceToNat, ref36_Dispositions_s5, ref36_Dispositions_s4, ref36_Dispositions_s3, ref36_Dispositions_s2, ref36_Dispositions_s1, Option.isSome_some, Option.getD_some]
      refine ⟨fun h11 => ha ?_, fun h11 => hb ?_⟩
      · replace H := bif_t h11 H
        refine Sm.regA (Γ := []) h00 mixed hΓ (by kernel_rfl) ?_
        simp only [rs]
        repeat (refine opsG fun K hK => ?_; simp (maxSteps := 2000000) only [ev, ew, tys, tl, ↓reduceIte, reduceCtorEq, Nat.reduceAdd, Nat.reduceMul, Nat.reduceSub, Nat.reduceEqDiff, Nat.reduceLeDiff, Nat.reduceLT, Int.reduceToNat, ref36_Dispositions_s5, ref36_Dispositions_s4, ref36_Dispositions_s3, ref36_Dispositions_s2, ref36_Dispositions_s1, Option.isSome_some, Option.getD_some]; (repeat (first | refine ⟨by first | with_reducible assumption | omega | (intro hh; (repeat refine ⟨hh, ?_⟩); revert hh; with_reducible assumption), ?_⟩ | refine fun (_ : _ ≤ _) => ?_)); refine hK _ ?_; clear hK K)
        refine opsG0 ?_
        try simp only [↓reduceIte, reduceCtorEq, Exit.exit.injEq]
        refine ⟨_, H, ?_⟩
        exact weak_b [] rfl rfl (by simp only [wk, ev, ew, tys, tl, ↓reduceIte, reduceCtorEq, Nat.reduceAdd, Nat.reduceMul, Nat.reduceSub, Nat.reduceEqDiff, Nat.reduceLeDiff, Nat.reduceLT, Int.reduceToNat, ref36_Dispositions_s5, ref36_Dispositions_s4, ref36_Dispositions_s3, ref36_Dispositions_s2, ref36_Dispositions_s1]) (by simp only [wk, ev, ew, tys, tl, ↓reduceIte, reduceCtorEq, Nat.reduceAdd, Nat.reduceMul, Nat.reduceSub, Nat.reduceEqDiff, Nat.reduceLeDiff, Nat.reduceLT, Int.reduceToNat, ref36_Dispositions_s5, ref36_Dispositions_s4, ref36_Dispositions_s3, ref36_Dispositions_s2, ref36_Dispositions_s1])
      · replace H := bif_f h11 H
        refine Sm.skip ?_
        try simp only [↓reduceIte, reduceCtorEq, Exit.exit.injEq]
        refine ⟨_, H, ?_⟩
        exact weak_b [] rfl rfl (by simp only [wk, ev, ew, tys, tl, ↓reduceIte, reduceCtorEq, Nat.reduceAdd, Nat.reduceMul, Nat.reduceSub, Nat.reduceEqDiff, Nat.reduceLeDiff, Nat.reduceLT, Int.reduceToNat, ref36_Dispositions_s5, ref36_Dispositions_s4, ref36_Dispositions_s3, ref36_Dispositions_s2, ref36_Dispositions_s1]) (by simp only [wk, ev, ew, tys, tl, ↓reduceIte, reduceCtorEq, Nat.reduceAdd, Nat.reduceMul, Nat.reduceSub, Nat.reduceEqDiff, Nat.reduceLeDiff, Nat.reduceLT, Int.reduceToNat, ref36_Dispositions_s5, ref36_Dispositions_s4, ref36_Dispositions_s3, ref36_Dispositions_s2, ref36_Dispositions_s1])
    · rintro other H
      try dsimp only at H
      unfold ref36_Dispositions_k2 at H
      refine Sm.cut (fun (x : Int) => ref36_Dispositions_s3 disp_1 x abend other) (fun x => ref36_Dispositions_k3 n disp_1 x abend other = some r) ?_ ?_
      · refine Sm.seqK fun K8 hK8 => ?_
        refine Sm.regA (Γ := []) h00 mixed hΓ (by kernel_rfl) ?_
        simp only [rs]
        repeat (refine opsG fun K hK => ?_; simp (maxSteps := 2000000) only [ev, ew, tys, tl, ↓reduceIte, reduceCtorEq, Nat.reduceAdd, Nat.reduceMul, Nat.reduceSub, Nat.reduceEqDiff, Nat.reduceLeDiff, Nat.reduceLT, Int.reduceToNat, ref36_Dispositions_s5, ref36_Dispositions_s4, ref36_Dispositions_s3, ref36_Dispositions_s2, ref36_Dispositions_s1, Option.isSome_some, Option.getD_some]; (repeat (first | refine ⟨by first | with_reducible assumption | omega | (intro hh; (repeat refine ⟨hh, ?_⟩); revert hh; with_reducible assumption), ?_⟩ | refine fun (_ : _ ≤ _) => ?_)); refine hK _ ?_; clear hK K)
        refine opsG0 ?_
        refine hK8 _ ?_
        refine Sm.condK (by rfl) fun Ka Kb ha hb => ?_
        simp only [wpCond, ev, ew, tys, tl, ↓reduceIte, reduceCtorEq, Nat.reduceAdd, Nat.reduceMul, Nat.reduceSub, Nat.reduceEqDiff, Nat.reduceLeDiff, Nat.reduceLT, Int.reduceToNat, ref36_Dispositions_s5, ref36_Dispositions_s4, ref36_Dispositions_s3, ref36_Dispositions_s2, ref36_Dispositions_s1, Option.isSome_some, Option.getD_some]
        refine ⟨fun h9 => ha ?_, fun h9 => hb ?_⟩
        · replace H := bif_t h9 H
          refine Sm.regA (Γ := []) h00 mixed hΓ (by kernel_rfl) ?_
          simp only [rs]
          repeat (refine opsG fun K hK => ?_; simp (maxSteps := 2000000) only [ev, ew, tys, tl, ↓reduceIte, reduceCtorEq, Nat.reduceAdd, Nat.reduceMul, Nat.reduceSub, Nat.reduceEqDiff, Nat.reduceLeDiff, Nat.reduceLT, Int.reduceToNat, ref36_Dispositions_s5, ref36_Dispositions_s4, ref36_Dispositions_s3, ref36_Dispositions_s2, ref36_Dispositions_s1, Option.isSome_some, Option.getD_some]; (repeat (first | refine ⟨by first | with_reducible assumption | omega | (intro hh; (repeat refine ⟨hh, ?_⟩); revert hh; with_reducible assumption), ?_⟩ | refine fun (_ : _ ≤ _) => ?_)); refine hK _ ?_; clear hK K)
          refine opsG0 ?_
          try simp only [↓reduceIte, reduceCtorEq, Exit.exit.injEq]
          refine ⟨_, H, ?_⟩
          exact weak_b [] rfl rfl (by simp only [wk, ev, ew, tys, tl, ↓reduceIte, reduceCtorEq, Nat.reduceAdd, Nat.reduceMul, Nat.reduceSub, Nat.reduceEqDiff, Nat.reduceLeDiff, Nat.reduceLT, Int.reduceToNat, ref36_Dispositions_s5, ref36_Dispositions_s4, ref36_Dispositions_s3, ref36_Dispositions_s2, ref36_Dispositions_s1]) (by simp only [wk, ev, ew, tys, tl, ↓reduceIte, reduceCtorEq, Nat.reduceAdd, Nat.reduceMul, Nat.reduceSub, Nat.reduceEqDiff, Nat.reduceLeDiff, Nat.reduceLT, Int.reduceToNat, ref36_Dispositions_s5, ref36_Dispositions_s4, ref36_Dispositions_s3, ref36_Dispositions_s2, ref36_Dispositions_s1])
        · replace H := bif_f h9 H
          refine Sm.skip ?_
          try simp only [↓reduceIte, reduceCtorEq, Exit.exit.injEq]
          refine ⟨_, H, ?_⟩
          exact weak_b [] rfl rfl (by simp only [wk, ev, ew, tys, tl, ↓reduceIte, reduceCtorEq, Nat.reduceAdd, Nat.reduceMul, Nat.reduceSub, Nat.reduceEqDiff, Nat.reduceLeDiff, Nat.reduceLT, Int.reduceToNat, ref36_Dispositions_s5, ref36_Dispositions_s4, ref36_Dispositions_s3, ref36_Dispositions_s2, ref36_Dispositions_s1]) (by simp only [wk, ev, ew, tys, tl, ↓reduceIte, reduceCtorEq, Nat.reduceAdd, Nat.reduceMul, Nat.reduceSub, Nat.reduceEqDiff, Nat.reduceLeDiff, Nat.reduceLT, Int.reduceToNat, ref36_Dispositions_s5, ref36_Dispositions_s4, ref36_Dispositions_s3, ref36_Dispositions_s2, ref36_Dispositions_s1])
      · rintro normal_1 H
        try dsimp only at H
        unfold ref36_Dispositions_k3 at H
        refine Sm.cut (fun (x : Int) => ref36_Dispositions_s4 disp_1 normal_1 x other) (fun x => ref36_Dispositions_k4 n disp_1 normal_1 x other = some r) ?_ ?_
        · refine Sm.seqK fun K6 hK6 => ?_
          refine Sm.regA (Γ := []) h00 mixed hΓ (by kernel_rfl) ?_
          simp only [rs]
          repeat (refine opsG fun K hK => ?_; simp (maxSteps := 2000000) only [ev, ew, tys, tl, ↓reduceIte, reduceCtorEq, Nat.reduceAdd, Nat.reduceMul, Nat.reduceSub, Nat.reduceEqDiff, Nat.reduceLeDiff, Nat.reduceLT, Int.reduceToNat, ref36_Dispositions_s5, ref36_Dispositions_s4, ref36_Dispositions_s3, ref36_Dispositions_s2, ref36_Dispositions_s1, Option.isSome_some, Option.getD_some]; (repeat (first | refine ⟨by first | with_reducible assumption | omega | (intro hh; (repeat refine ⟨hh, ?_⟩); revert hh; with_reducible assumption), ?_⟩ | refine fun (_ : _ ≤ _) => ?_)); refine hK _ ?_; clear hK K)
          refine opsG0 ?_
          refine hK6 _ ?_
          refine Sm.condK (by rfl) fun Ka Kb ha hb => ?_
          simp only [wpCond, ev, ew, tys, tl, ↓reduceIte, reduceCtorEq, Nat.reduceAdd, Nat.reduceMul, Nat.reduceSub, Nat.reduceEqDiff, Nat.reduceLeDiff, Nat.reduceLT, Int.reduceToNat, ref36_Dispositions_s5, ref36_Dispositions_s4, ref36_Dispositions_s3, ref36_Dispositions_s2, ref36_Dispositions_s1, Option.isSome_some, Option.getD_some]
          refine ⟨fun h7 => ha ?_, fun h7 => hb ?_⟩
          · replace H := bif_t h7 H
            refine Sm.regA (Γ := []) h00 mixed hΓ (by kernel_rfl) ?_
            simp only [rs]
            repeat (refine opsG fun K hK => ?_; simp (maxSteps := 2000000) only [ev, ew, tys, tl, ↓reduceIte, reduceCtorEq, Nat.reduceAdd, Nat.reduceMul, Nat.reduceSub, Nat.reduceEqDiff, Nat.reduceLeDiff, Nat.reduceLT, Int.reduceToNat, ref36_Dispositions_s5, ref36_Dispositions_s4, ref36_Dispositions_s3, ref36_Dispositions_s2, ref36_Dispositions_s1, Option.isSome_some, Option.getD_some]; (repeat (first | refine ⟨by first | with_reducible assumption | omega | (intro hh; (repeat refine ⟨hh, ?_⟩); revert hh; with_reducible assumption), ?_⟩ | refine fun (_ : _ ≤ _) => ?_)); refine hK _ ?_; clear hK K)
            refine opsG0 ?_
            try simp only [↓reduceIte, reduceCtorEq, Exit.exit.injEq]
            refine ⟨_, H, ?_⟩
            exact weak_b [] rfl rfl (by simp only [wk, ev, ew, tys, tl, ↓reduceIte, reduceCtorEq, Nat.reduceAdd, Nat.reduceMul, Nat.reduceSub, Nat.reduceEqDiff, Nat.reduceLeDiff, Nat.reduceLT, Int.reduceToNat, ref36_Dispositions_s5, ref36_Dispositions_s4, ref36_Dispositions_s3, ref36_Dispositions_s2, ref36_Dispositions_s1]) (by simp only [wk, ev, ew, tys, tl, ↓reduceIte, reduceCtorEq, Nat.reduceAdd, Nat.reduceMul, Nat.reduceSub, Nat.reduceEqDiff, Nat.reduceLeDiff, Nat.reduceLT, Int.reduceToNat, ref36_Dispositions_s5, ref36_Dispositions_s4, ref36_Dispositions_s3, ref36_Dispositions_s2, ref36_Dispositions_s1])
          · replace H := bif_f h7 H
            refine Sm.skip ?_
            try simp only [↓reduceIte, reduceCtorEq, Exit.exit.injEq]
            refine ⟨_, H, ?_⟩
            exact weak_b [] rfl rfl (by simp only [wk, ev, ew, tys, tl, ↓reduceIte, reduceCtorEq, Nat.reduceAdd, Nat.reduceMul, Nat.reduceSub, Nat.reduceEqDiff, Nat.reduceLeDiff, Nat.reduceLT, Int.reduceToNat, ref36_Dispositions_s5, ref36_Dispositions_s4, ref36_Dispositions_s3, ref36_Dispositions_s2, ref36_Dispositions_s1]) (by simp only [wk, ev, ew, tys, tl, ↓reduceIte, reduceCtorEq, Nat.reduceAdd, Nat.reduceMul, Nat.reduceSub, Nat.reduceEqDiff, Nat.reduceLeDiff, Nat.reduceLT, Int.reduceToNat, ref36_Dispositions_s5, ref36_Dispositions_s4, ref36_Dispositions_s3, ref36_Dispositions_s2, ref36_Dispositions_s1])
        · rintro abend_1 H
          try dsimp only at H
          unfold ref36_Dispositions_k4 at H
          refine Sm.cut (fun (x : Int) => ref36_Dispositions_s5 disp_1 normal_1 x) (fun x => ref36_Dispositions_k5 n disp_1 normal_1 x = some r) ?_ ?_
          · refine Sm.seqK fun K4 hK4 => ?_
            refine Sm.regA (Γ := []) h00 mixed hΓ (by kernel_rfl) ?_
            simp only [rs]
            repeat (refine opsG fun K hK => ?_; simp (maxSteps := 2000000) only [ev, ew, tys, tl, ↓reduceIte, reduceCtorEq, Nat.reduceAdd, Nat.reduceMul, Nat.reduceSub, Nat.reduceEqDiff, Nat.reduceLeDiff, Nat.reduceLT, Int.reduceToNat, ref36_Dispositions_s5, ref36_Dispositions_s4, ref36_Dispositions_s3, ref36_Dispositions_s2, ref36_Dispositions_s1, Option.isSome_some, Option.getD_some]; (repeat (first | refine ⟨by first | with_reducible assumption | omega | (intro hh; (repeat refine ⟨hh, ?_⟩); revert hh; with_reducible assumption), ?_⟩ | refine fun (_ : _ ≤ _) => ?_)); refine hK _ ?_; clear hK K)
            refine opsG0 ?_
            refine hK4 _ ?_
            refine Sm.condK (by rfl) fun Ka Kb ha hb => ?_
            simp only [wpCond, ev, ew, tys, tl, ↓reduceIte, reduceCtorEq, Nat.reduceAdd, Nat.reduceMul, Nat.reduceSub, Nat.reduceEqDiff, Nat.reduceLeDiff, Nat.reduceLT, Int.reduceToNat, ref36_Dispositions_s5, ref36_Dispositions_s4, ref36_Dispositions_s3, ref36_Dispositions_s2, ref36_Dispositions_s1, Option.isSome_some, Option.getD_some]
            refine ⟨fun h5 => ha ?_, fun h5 => hb ?_⟩
            · replace H := bif_t h5 H
              refine Sm.regA (Γ := []) h00 mixed hΓ (by kernel_rfl) ?_
              simp only [rs]
              repeat (refine opsG fun K hK => ?_; simp (maxSteps := 2000000) only [ev, ew, tys, tl, ↓reduceIte, reduceCtorEq, Nat.reduceAdd, Nat.reduceMul, Nat.reduceSub, Nat.reduceEqDiff, Nat.reduceLeDiff, Nat.reduceLT, Int.reduceToNat, ref36_Dispositions_s5, ref36_Dispositions_s4, ref36_Dispositions_s3, ref36_Dispositions_s2, ref36_Dispositions_s1, Option.isSome_some, Option.getD_some]; (repeat (first | refine ⟨by first | with_reducible assumption | omega | (intro hh; (repeat refine ⟨hh, ?_⟩); revert hh; with_reducible assumption), ?_⟩ | refine fun (_ : _ ≤ _) => ?_)); refine hK _ ?_; clear hK K)
              refine opsG0 ?_
              try simp only [↓reduceIte, reduceCtorEq, Exit.exit.injEq]
              refine ⟨_, H, ?_⟩
              exact weak_b [] rfl rfl (by simp only [wk, ev, ew, tys, tl, ↓reduceIte, reduceCtorEq, Nat.reduceAdd, Nat.reduceMul, Nat.reduceSub, Nat.reduceEqDiff, Nat.reduceLeDiff, Nat.reduceLT, Int.reduceToNat, ref36_Dispositions_s5, ref36_Dispositions_s4, ref36_Dispositions_s3, ref36_Dispositions_s2, ref36_Dispositions_s1]) (by simp only [wk, ev, ew, tys, tl, ↓reduceIte, reduceCtorEq, Nat.reduceAdd, Nat.reduceMul, Nat.reduceSub, Nat.reduceEqDiff, Nat.reduceLeDiff, Nat.reduceLT, Int.reduceToNat, ref36_Dispositions_s5, ref36_Dispositions_s4, ref36_Dispositions_s3, ref36_Dispositions_s2, ref36_Dispositions_s1])
            · replace H := bif_f h5 H
              refine Sm.skip ?_
              try simp only [↓reduceIte, reduceCtorEq, Exit.exit.injEq]
              refine ⟨_, H, ?_⟩
              exact weak_b [] rfl rfl (by simp only [wk, ev, ew, tys, tl, ↓reduceIte, reduceCtorEq, Nat.reduceAdd, Nat.reduceMul, Nat.reduceSub, Nat.reduceEqDiff, Nat.reduceLeDiff, Nat.reduceLT, Int.reduceToNat, ref36_Dispositions_s5, ref36_Dispositions_s4, ref36_Dispositions_s3, ref36_Dispositions_s2, ref36_Dispositions_s1]) (by simp only [wk, ev, ew, tys, tl, ↓reduceIte, reduceCtorEq, Nat.reduceAdd, Nat.reduceMul, Nat.reduceSub, Nat.reduceEqDiff, Nat.reduceLeDiff, Nat.reduceLT, Int.reduceToNat, ref36_Dispositions_s5, ref36_Dispositions_s4, ref36_Dispositions_s3, ref36_Dispositions_s2, ref36_Dispositions_s1])
          · rintro abend_2 H
            try dsimp only at H
            unfold ref36_Dispositions_k5 at H
            refine Sm.seqK fun K3 hK3 => ?_
            refine Sm.regA (Γ := []) h00 mixed hΓ (by kernel_rfl) ?_
            simp only [rs]
            repeat (refine opsG fun K hK => ?_; simp (maxSteps := 2000000) only [ev, ew, tys, tl, ↓reduceIte, reduceCtorEq, Nat.reduceAdd, Nat.reduceMul, Nat.reduceSub, Nat.reduceEqDiff, Nat.reduceLeDiff, Nat.reduceLT, Int.reduceToNat, ref36_Dispositions_s5, ref36_Dispositions_s4, ref36_Dispositions_s3, ref36_Dispositions_s2, ref36_Dispositions_s1, Option.isSome_some, Option.getD_some]; (repeat (first | refine ⟨by first | with_reducible assumption | omega | (intro hh; (repeat refine ⟨hh, ?_⟩); revert hh; with_reducible assumption), ?_⟩ | refine fun (_ : _ ≤ _) => ?_)); refine hK _ ?_; clear hK K)
            refine opsG0 ?_
            refine hK3 _ ?_
            refine Sm.ret ?_
            try simp only [↓reduceIte, reduceCtorEq, Exit.exit.injEq]
            obtain rfl := Option.some.inj H
            refine Ret.ofR [] (.inr rfl) ?_
            simp (maxSteps := 2000000) only [ev, ew, tys, tl, ↓reduceIte, reduceCtorEq, Nat.reduceAdd, Nat.reduceMul, Nat.reduceSub, Nat.reduceEqDiff, Nat.reduceLeDiff, Nat.reduceLT, Int.reduceToNat, ref36_Dispositions_s5, ref36_Dispositions_s4, ref36_Dispositions_s3, ref36_Dispositions_s2, ref36_Dispositions_s1, Option.isSome_some, Option.getD_some]
            done

def ref36_Named (n : Nat) (d : TDD) : Option Bool :=
  some (if (if (if (d.Dsn != []) = true then (!d.Dummy) else false) = true then (d.Sysout == []) else false) = true then (!d.HasData) else false)

def xref36_Named (n : Nat) : Go.AE.Fn := mkFn (A := TDD) (R := Bool) 26 [(true, [.str, .str, .str, .int .i64, .bool, .int .i64, .int .i64, .int .i64, .int .i64, .str, .int .i64, .int .i64, .int .i64, .int .i64, .int .i64, .bool, .bool, .int .i64, .int .i64, .int .i64, .int .i64, .str, .slice 9, .bool, .bool])] false (fun xs => (⟨(cg (xs.getD 0 []) 0).toStr, (cg (xs.getD 0 []) 1).toStr, (cg (xs.getD 0 []) 2).toStr, (cg (xs.getD 0 []) 3).toInt, (cg (xs.getD 0 []) 4).toBool, (cg (xs.getD 0 []) 5).toInt, (cg (xs.getD 0 []) 6).toInt, (cg (xs.getD 0 []) 7).toInt, (cg (xs.getD 0 []) 8).toInt, (cg (xs.getD 0 []) 9).toStr, (cg (xs.getD 0 []) 10).toInt, (cg (xs.getD 0 []) 11).toInt, (cg (xs.getD 0 []) 12).toInt, (⟨(cg (xs.getD 0 []) 13).toInt, (cg (xs.getD 0 []) 14).toInt, (cg (xs.getD 0 []) 15).toBool, (cg (xs.getD 0 []) 16).toBool, (cg (xs.getD 0 []) 17).toInt, (cg (xs.getD 0 []) 18).toInt, (cg (xs.getD 0 []) 19).toInt, (cg (xs.getD 0 []) 20).toInt⟩ : TDcb), (cg (xs.getD 0 []) 21).toStr, ((cg (xs.getD 0 []) 22).toSl.map d_Str), (cg (xs.getD 0 []) 23).toBool, (cg (xs.getD 0 []) 24).toBool⟩ : TDD)) (fun a => [[.str a.Name, .str a.Dsn, .str a.Member, .int a.Gen, .bool a.HasGen, .int a.Disp, .int a.Normal, .int a.Abend, .int a.Unit, .str a.Vol, .int a.Tracks, .int a.More, .int a.File, .int a.Dcb.Org, .int a.Dcb.Format, .bool a.Dcb.Blocked, .bool a.Dcb.Asa, .int a.Dcb.Lrecl, .int a.Dcb.Blksize, .int a.Dcb.KeyLen, .int a.Dcb.KeyPos, .str a.Sysout, .slice (List.map e_Str a.Instream), .bool a.HasData, .bool a.Dummy]]) (fun a => ref36_Named n a) (fun r => [.c .bool (.bool r)]) (fun r => [])

theorem cref36_Named (n : Nat) : Contract Try.prog (xref36_Named n) := by
  have hΓ : ∀ g, g ∈ ([] : List Go.AE.Fn) → Contract Try.prog g := by simp
  refine contract_f (Try.f26.body.getD .skip) h00 Try.func26 rfl (by intro args w; exact Try.call26 args w) (by decide) (by intro _ r; exact ⟨rfl, by simp⟩) ?_
  rintro d r H
  try dsimp only at H
  unfold ref36_Named at H
  simp only [Try.f26, Option.getD]
  refine Sm.seqK fun K1 hK1 => ?_
  refine Sm.regA (Γ := []) h00 mixed hΓ (by kernel_rfl) ?_
  simp only [rs]
  repeat (refine opsG fun K hK => ?_; simp (maxSteps := 2000000) only [ev, ew, tys, tl, ↓reduceIte, reduceCtorEq, Nat.reduceAdd, Nat.reduceMul, Nat.reduceSub, Nat.reduceEqDiff, Nat.reduceLeDiff, Nat.reduceLT, Int.reduceToNat, Option.isSome_some, Option.getD_some]; (repeat (first | refine ⟨by first | with_reducible assumption | omega | (intro hh; (repeat refine ⟨hh, ?_⟩); revert hh; with_reducible assumption), ?_⟩ | refine fun (_ : _ ≤ _) => ?_)); refine hK _ ?_; clear hK K)
  refine opsG0 ?_
  refine hK1 _ ?_
  refine Sm.seqK fun K2 hK2 => ?_
  refine Sm.regA (Γ := []) h00 mixed hΓ (by kernel_rfl) ?_
  simp only [rs]
  repeat (refine opsG fun K hK => ?_; simp (maxSteps := 2000000) only [ev, ew, tys, tl, ↓reduceIte, reduceCtorEq, Nat.reduceAdd, Nat.reduceMul, Nat.reduceSub, Nat.reduceEqDiff, Nat.reduceLeDiff, Nat.reduceLT, Int.reduceToNat, Option.isSome_some, Option.getD_some]; (repeat (first | refine ⟨by first | with_reducible assumption | omega | (intro hh; (repeat refine ⟨hh, ?_⟩); revert hh; with_reducible assumption), ?_⟩ | refine fun (_ : _ ≤ _) => ?_)); refine hK _ ?_; clear hK K)
  refine opsG0 ?_
  refine hK2 _ ?_
  refine Sm.ret ?_
  try simp only [↓reduceIte, reduceCtorEq, Exit.exit.injEq]
  obtain rfl := Option.some.inj H
  refine Ret.ofR [] (.inr rfl) ?_
  simp (maxSteps := 2000000) only [ev, ew, tys, tl, ↓reduceIte, reduceCtorEq, Nat.reduceAdd, Nat.reduceMul, Nat.reduceSub, Nat.reduceEqDiff, Nat.reduceLeDiff, Nat.reduceLT, Int.reduceToNat, Option.isSome_some, Option.getD_some]
  done

abbrev ref36_After_s1 (d : TDD) (end_ : TStepEnd) (disp : Int) : S := stB [(3, .box 9000 0), (4, .box 9001 0), (7, .c (.int .i64) (.int disp))] [(9000, .box [.c .str (.str d.Name), .c .str (.str d.Dsn), .c .str (.str d.Member), .c (.int .i64) (.int d.Gen), .c .bool (.bool d.HasGen), .c (.int .i64) (.int d.Disp), .c (.int .i64) (.int d.Normal), .c (.int .i64) (.int d.Abend), .c (.int .i64) (.int d.Unit), .c .str (.str d.Vol), .c (.int .i64) (.int d.Tracks), .c (.int .i64) (.int d.More), .c (.int .i64) (.int d.File), .c (.int .i64) (.int d.Dcb.Org), .c (.int .i64) (.int d.Dcb.Format), .c .bool (.bool d.Dcb.Blocked), .c .bool (.bool d.Dcb.Asa), .c (.int .i64) (.int d.Dcb.Lrecl), .c (.int .i64) (.int d.Dcb.Blksize), .c (.int .i64) (.int d.Dcb.KeyLen), .c (.int .i64) (.int d.Dcb.KeyPos), .c .str (.str d.Sysout), .c (.slice 9) (.slice (List.map e_Str d.Instream)), .c .bool (.bool d.HasData), .c .bool (.bool d.Dummy)]), (9001, .box [.c (.int .i64) (.int end_.Kind), .c (.int .i64) (.int end_.Code), .c (.int .i64) (.int end_.Ins), .c (.int .i64) (.int end_.Ios)])]

def ref36_After_k1 (n : Nat) (d : TDD) (end_ : TStepEnd) (disp : Int) : Option Int :=
  (ref36_Dispositions n disp d.Normal d.Abend).bind fun r1 =>
  (ref36_Named n d).bind fun r2 =>
  bif (!r2) then
    some 0
  else
    bif (end_.Kind == 1) then
      some r1.2.1
    else
      bif (end_.Kind == 2) then
        some r1.2.2
      else
        some 0

def ref36_After (n : Nat) (d : TDD) (end_ : TStepEnd) (created : Bool) : Option Int :=
  bif (if (d.Disp == 4) = true then created else false) then
    ref36_After_k1 n d end_ 1
  else
    ref36_After_k1 n d end_ d.Disp

def xref36_After (n : Nat) : Go.AE.Fn := mkFn (A := TDD × TStepEnd × Bool) (R := Int) 17 [(true, [.str, .str, .str, .int .i64, .bool, .int .i64, .int .i64, .int .i64, .int .i64, .str, .int .i64, .int .i64, .int .i64, .int .i64, .int .i64, .bool, .bool, .int .i64, .int .i64, .int .i64, .int .i64, .str, .slice 9, .bool, .bool]), (true, [.int .i64, .int .i64, .int .i64, .int .i64]), (false, [.bool])] false (fun xs => ((⟨(cg (xs.getD 0 []) 0).toStr, (cg (xs.getD 0 []) 1).toStr, (cg (xs.getD 0 []) 2).toStr, (cg (xs.getD 0 []) 3).toInt, (cg (xs.getD 0 []) 4).toBool, (cg (xs.getD 0 []) 5).toInt, (cg (xs.getD 0 []) 6).toInt, (cg (xs.getD 0 []) 7).toInt, (cg (xs.getD 0 []) 8).toInt, (cg (xs.getD 0 []) 9).toStr, (cg (xs.getD 0 []) 10).toInt, (cg (xs.getD 0 []) 11).toInt, (cg (xs.getD 0 []) 12).toInt, (⟨(cg (xs.getD 0 []) 13).toInt, (cg (xs.getD 0 []) 14).toInt, (cg (xs.getD 0 []) 15).toBool, (cg (xs.getD 0 []) 16).toBool, (cg (xs.getD 0 []) 17).toInt, (cg (xs.getD 0 []) 18).toInt, (cg (xs.getD 0 []) 19).toInt, (cg (xs.getD 0 []) 20).toInt⟩ : TDcb), (cg (xs.getD 0 []) 21).toStr, ((cg (xs.getD 0 []) 22).toSl.map d_Str), (cg (xs.getD 0 []) 23).toBool, (cg (xs.getD 0 []) 24).toBool⟩ : TDD), (⟨(cg (xs.getD 1 []) 0).toInt, (cg (xs.getD 1 []) 1).toInt, (cg (xs.getD 1 []) 2).toInt, (cg (xs.getD 1 []) 3).toInt⟩ : TStepEnd), (cg (xs.getD 2 []) 0).toBool)) (fun a => [[.str a.1.Name, .str a.1.Dsn, .str a.1.Member, .int a.1.Gen, .bool a.1.HasGen, .int a.1.Disp, .int a.1.Normal, .int a.1.Abend, .int a.1.Unit, .str a.1.Vol, .int a.1.Tracks, .int a.1.More, .int a.1.File, .int a.1.Dcb.Org, .int a.1.Dcb.Format, .bool a.1.Dcb.Blocked, .bool a.1.Dcb.Asa, .int a.1.Dcb.Lrecl, .int a.1.Dcb.Blksize, .int a.1.Dcb.KeyLen, .int a.1.Dcb.KeyPos, .str a.1.Sysout, .slice (List.map e_Str a.1.Instream), .bool a.1.HasData, .bool a.1.Dummy], [.int a.2.1.Kind, .int a.2.1.Code, .int a.2.1.Ins, .int a.2.1.Ios], [.bool a.2.2]]) (fun a => ref36_After n a.1 a.2.1 a.2.2) (fun r => [.c (.int .i64) (.int r)]) (fun r => [])

theorem cref36_After (n : Nat) : Contract Try.prog (xref36_After n) := by
  have hΓ : ∀ g, g ∈ ([xref36_Dispositions n, xref36_Named n] : List Go.AE.Fn) → Contract Try.prog g := by
    intro g hg; simp only [List.mem_cons, List.not_mem_nil, or_false] at hg; rcases hg with rfl | rfl; exact cref36_Dispositions n; exact cref36_Named n
  refine contract_f (Try.f17.body.getD .skip) h00 Try.func17 rfl (by intro args w; exact Try.call17 args w) (by decide) (by intro _ r; exact ⟨rfl, by simp⟩) ?_
  rintro ⟨d, end_, created⟩ r H
  try dsimp only at H
  unfold ref36_After at H
  simp only [Try.f17, Option.getD]
  refine Sm.seqK fun K1 hK1 => ?_
  refine Sm.regA (Γ := [xref36_Dispositions n, xref36_Named n]) h00 mixed hΓ (by kernel_rfl) ?_
  simp only [rs]
  repeat (refine opsG fun K hK => ?_; simp (maxSteps := 2000000) only [ev, ew, tys, tl, ↓reduceIte, reduceCtorEq, Nat.reduceAdd, Nat.reduceMul, Nat.reduceSub, Nat.reduceEqDiff, Nat.reduceLeDiff, Nat.reduceLT, Int.reduceToNat, xref36_Dispositions, xref36_Named, ref36_After_s1, Option.isSome_some, Option.getD_some]; (repeat (first | refine ⟨by first | with_reducible assumption | omega | (intro hh; (repeat refine ⟨hh, ?_⟩); revert hh; with_reducible assumption), ?_⟩ | refine fun (_ : _ ≤ _) => ?_)); refine hK _ ?_; clear hK K)
  refine opsG0 ?_
  refine hK1 _ ?_
  refine Sm.seqK fun K2 hK2 => ?_
  refine Sm.regA (Γ := [xref36_Dispositions n, xref36_Named n]) h00 mixed hΓ (by kernel_rfl) ?_
  simp only [rs]
  repeat (refine opsG fun K hK => ?_; simp (maxSteps := 2000000) only [ev, ew, tys, tl, ↓reduceIte, reduceCtorEq, Nat.reduceAdd, Nat.reduceMul, Nat.reduceSub, Nat.reduceEqDiff, Nat.reduceLeDiff, Nat.reduceLT, Int.reduceToNat, xref36_Dispositions, xref36_Named, ref36_After_s1, Option.isSome_some, Option.getD_some]; (repeat (first | refine ⟨by first | with_reducible assumption | omega | (intro hh; (repeat refine ⟨hh, ?_⟩); revert hh; with_reducible assumption), ?_⟩ | refine fun (_ : _ ≤ _) => ?_)); refine hK _ ?_; clear hK K)
  refine opsG0 ?_
  refine hK2 _ ?_
  refine Sm.cut (fun (x : Int) => ref36_After_s1 d end_ x) (fun x => ref36_After_k1 n d end_ x = some r) ?_ ?_
  · refine Sm.seqK fun K17 hK17 => ?_
    refine Sm.regA (Γ := [xref36_Dispositions n, xref36_Named n]) h00 mixed hΓ (by kernel_rfl) ?_
    simp only [rs]
    repeat (refine opsG fun K hK => ?_; simp (maxSteps := 2000000) only [ev, ew, tys, tl, ↓reduceIte, reduceCtorEq, Nat.reduceAdd, Nat.reduceMul, Nat.reduceSub, Nat.reduceEqDiff, Nat.reduceLeDiff, Nat.reduceLT, Int.reduceToNat, xref36_Dispositions, xref36_Named, ref36_After_s1, Option.isSome_some, Option.getD_some]; (repeat (first | refine ⟨by first | with_reducible assumption | omega | (intro hh; (repeat refine ⟨hh, ?_⟩); revert hh; with_reducible assumption), ?_⟩ | refine fun (_ : _ ≤ _) => ?_)); refine hK _ ?_; clear hK K)
    refine opsG0 ?_
    refine hK17 _ ?_
    refine Sm.condK (by rfl) fun Ka Kb ha hb => ?_
    simp only [wpCond, ev, ew, tys, tl, ↓reduceIte, reduceCtorEq, Nat.reduceAdd, Nat.reduceMul, Nat.reduceSub, Nat.reduceEqDiff, Nat.reduceLeDiff, Nat.reduceLT, Int.reduceToNat, xref36_Dispositions, xref36_Named, ref36_After_s1, Option.isSome_some, Option.getD_some]
    refine ⟨fun h18 => ha ?_, fun h18 => hb ?_⟩
    · replace H := bif_t h18 H
      refine Sm.regA (Γ := [xref36_Dispositions n, xref36_Named n]) h00 mixed hΓ (by kernel_rfl) ?_
      simp only [rs]
      repeat (refine opsG fun K hK => ?_; simp (maxSteps := 2000000) only [ev, ew, tys, tl, ↓reduceIte, reduceCtorEq, Nat.reduceAdd, Nat.reduceMul, Nat.reduceSub, Nat.reduceEqDiff, Nat.reduceLeDiff, Nat.reduceLT, Int.reduceToNat, xref36_Dispositions, xref36_Named, ref36_After_s1, Option.isSome_some, Option.getD_some]; (repeat (first | refine ⟨by first | with_reducible assumption | omega | (intro hh; (repeat refine ⟨hh, ?_⟩); revert hh; with_reducible assumption), ?_⟩ | refine fun (_ : _ ≤ _) => ?_)); refine hK _ ?_; clear hK K)
      refine opsG0 ?_
      try simp only [↓reduceIte, reduceCtorEq, Exit.exit.injEq]
      refine ⟨_, H, ?_⟩
      exact weak_b [some 48, some 64] rfl rfl (by simp only [wk, ev, ew, tys, tl, ↓reduceIte, reduceCtorEq, Nat.reduceAdd, Nat.reduceMul, Nat.reduceSub, Nat.reduceEqDiff, Nat.reduceLeDiff, Nat.reduceLT, Int.reduceToNat, ref36_After_s1]) (by simp only [wk, ev, ew, tys, tl, ↓reduceIte, reduceCtorEq, Nat.reduceAdd, Nat.reduceMul, Nat.reduceSub, Nat.reduceEqDiff, Nat.reduceLeDiff, Nat.reduceLT, Int.reduceToNat, ref36_After_s1])
    · replace H := bif_f h18 H
      refine Sm.skip ?_
      try simp only [↓reduceIte, reduceCtorEq, Exit.exit.injEq]
      refine ⟨_, H, ?_⟩
      exact weak_b [some 48, some 64] rfl rfl (by simp only [wk, ev, ew, tys, tl, ↓reduceIte, reduceCtorEq, Nat.reduceAdd, Nat.reduceMul, Nat.reduceSub, Nat.reduceEqDiff, Nat.reduceLeDiff, Nat.reduceLT, Int.reduceToNat, ref36_After_s1]) (by simp only [wk, ev, ew, tys, tl, ↓reduceIte, reduceCtorEq, Nat.reduceAdd, Nat.reduceMul, Nat.reduceSub, Nat.reduceEqDiff, Nat.reduceLeDiff, Nat.reduceLT, Int.reduceToNat, ref36_After_s1])
  · rintro disp H
    try dsimp only at H
    unfold ref36_After_k1 at H
    refine Sm.seqK fun K3 hK3 => ?_
    obtain ⟨r1, hr1, H⟩ := bind_some H
    refine Sm.regA (Γ := [xref36_Dispositions n, xref36_Named n]) h00 mixed hΓ (by kernel_rfl) ?_
    simp only [rs]
    repeat (refine opsG fun K hK => ?_; simp (maxSteps := 2000000) only [ev, ew, tys, tl, ↓reduceIte, reduceCtorEq, Nat.reduceAdd, Nat.reduceMul, Nat.reduceSub, Nat.reduceEqDiff, Nat.reduceLeDiff, Nat.reduceLT, Int.reduceToNat, xref36_Dispositions, xref36_Named, ref36_After_s1, Option.isSome_some, Option.getD_some, hr1]; (repeat (first | refine ⟨by first | with_reducible assumption | omega | (intro hh; (repeat refine ⟨hh, ?_⟩); revert hh; with_reducible assumption), ?_⟩ | refine fun (_ : _ ≤ _) => ?_)); refine hK _ ?_; clear hK K)
    refine opsG0 ?_
    refine hK3 _ ?_
    refine Sm.seqK fun K4 hK4 => ?_
    refine Sm.seqK fun K5 hK5 => ?_
    obtain ⟨r2, hr2, H⟩ := bind_some H
    refine Sm.regA (Γ := [xref36_Dispositions n, xref36_Named n]) h00 mixed hΓ (by kernel_rfl) ?_
    simp only [rs]
    repeat (refine opsG fun K hK => ?_; simp (maxSteps := 2000000) only [ev, ew, tys, tl, ↓reduceIte, reduceCtorEq, Nat.reduceAdd, Nat.reduceMul, Nat.reduceSub, Nat.reduceEqDiff, Nat.reduceLeDiff, Nat.reduceLT, Int.reduceToNat, xref36_Dispositions, xref36_Named, ref36_After_s1, Option.isSome_some, Option.getD_some, hr2]; (repeat (first | refine ⟨by first | with_reducible assumption | omega | (intro hh; (repeat refine ⟨hh, ?_⟩); revert hh; with_reducible assumption), ?_⟩ | refine fun (_ : _ ≤ _) => ?_)); refine hK _ ?_; clear hK K)
    refine opsG0 ?_
    refine hK5 _ ?_
    refine Sm.condK (by rfl) fun Ka Kb ha hb => ?_
    simp only [wpCond, ev, ew, tys, tl, ↓reduceIte, reduceCtorEq, Nat.reduceAdd, Nat.reduceMul, Nat.reduceSub, Nat.reduceEqDiff, Nat.reduceLeDiff, Nat.reduceLT, Int.reduceToNat, xref36_Dispositions, xref36_Named, ref36_After_s1, Option.isSome_some, Option.getD_some]
    refine ⟨fun h6 => ha ?_, fun h6 => hb ?_⟩
    · replace H := bif_t h6 H
      refine Sm.seqK fun K7 hK7 => ?_
      refine Sm.regA (Γ := [xref36_Dispositions n, xref36_Named n]) h00 mixed hΓ (by kernel_rfl) ?_
      simp only [rs]
      repeat (refine opsG fun K hK => ?_; simp (maxSteps := 2000000) only [ev, ew, tys, tl, ↓reduceIte, reduceCtorEq, Nat.reduceAdd, Nat.reduceMul, Nat.reduceSub, Nat.reduceEqDiff, Nat.reduceLeDiff, Nat.reduceLT, Int.reduceToNat, xref36_Dispositions, xref36_Named, ref36_After_s1, Option.isSome_some, Option.getD_some]; (repeat (first | refine ⟨by first | with_reducible assumption | omega | (intro hh; (repeat refine ⟨hh, ?_⟩); revert hh; with_reducible assumption), ?_⟩ | refine fun (_ : _ ≤ _) => ?_)); refine hK _ ?_; clear hK K)
      refine opsG0 ?_
      refine hK7 _ ?_
      refine Sm.ret ?_
      try simp only [↓reduceIte, reduceCtorEq, Exit.exit.injEq]
      obtain rfl := Option.some.inj H
      refine Ret.ofR [] (.inr rfl) ?_
      simp (maxSteps := 2000000) only [ev, ew, tys, tl, ↓reduceIte, reduceCtorEq, Nat.reduceAdd, Nat.reduceMul, Nat.reduceSub, Nat.reduceEqDiff, Nat.reduceLeDiff, Nat.reduceLT, Int.reduceToNat, xref36_Dispositions, xref36_Named, ref36_After_s1, Option.isSome_some, Option.getD_some]
      done
    · replace H := bif_f h6 H
      refine Sm.skip ?_
      refine hK4 _ ?_
      refine Sm.seqK fun K8 hK8 => ?_
      refine Sm.seqK fun K9 hK9 => ?_
      refine Sm.regA (Γ := [xref36_Dispositions n, xref36_Named n]) h00 mixed hΓ (by kernel_rfl) ?_
      simp only [rs]
      repeat (refine opsG fun K hK => ?_; simp (maxSteps := 2000000) only [ev, ew, tys, tl, ↓reduceIte, reduceCtorEq, Nat.reduceAdd, Nat.reduceMul, Nat.reduceSub, Nat.reduceEqDiff, Nat.reduceLeDiff, Nat.reduceLT, Int.reduceToNat, xref36_Dispositions, xref36_Named, ref36_After_s1, Option.isSome_some, Option.getD_some]; (repeat (first | refine ⟨by first | with_reducible assumption | omega | (intro hh; (repeat refine ⟨hh, ?_⟩); revert hh; with_reducible assumption), ?_⟩ | refine fun (_ : _ ≤ _) => ?_)); refine hK _ ?_; clear hK K)
      refine opsG0 ?_
      refine hK9 _ ?_
      refine Sm.block ?_
      refine Sm.seqK fun K10 hK10 => ?_
      refine Sm.regA (Γ := [xref36_Dispositions n, xref36_Named n]) h00 mixed hΓ (by kernel_rfl) ?_
      simp only [rs]
      repeat (refine opsG fun K hK => ?_; simp (maxSteps := 2000000) only [ev, ew, tys, tl, ↓reduceIte, reduceCtorEq, Nat.reduceAdd, Nat.reduceMul, Nat.reduceSub, Nat.reduceEqDiff, Nat.reduceLeDiff, Nat.reduceLT, Int.reduceToNat, xref36_Dispositions, xref36_Named, ref36_After_s1, Option.isSome_some, Option.getD_some]; (repeat (first | refine ⟨by first | with_reducible assumption | omega | (intro hh; (repeat refine ⟨hh, ?_⟩); revert hh; with_reducible assumption), ?_⟩ | refine fun (_ : _ ≤ _) => ?_)); refine hK _ ?_; clear hK K)
      refine opsG0 ?_
      refine hK10 _ ?_
      refine Sm.condK (by rfl) fun Ka Kb ha hb => ?_
      simp only [wpCond, ev, ew, tys, tl, ↓reduceIte, reduceCtorEq, Nat.reduceAdd, Nat.reduceMul, Nat.reduceSub, Nat.reduceEqDiff, Nat.reduceLeDiff, Nat.reduceLT, Int.reduceToNat, xref36_Dispositions, xref36_Named, ref36_After_s1, Option.isSome_some, Option.getD_some]
      refine ⟨fun h11 => ha ?_, fun h11 => hb ?_⟩
      · replace H := bif_t h11 H
        refine Sm.seqK fun K12 hK12 => ?_
        refine Sm.regA (Γ := [xref36_Dispositions n, xref36_Named n]) h00 mixed hΓ (by kernel_rfl) ?_
        simp only [rs]
        repeat (refine opsG fun K hK => ?_; simp (maxSteps := 2000000) only [ev, ew, tys, tl, ↓reduceIte, reduceCtorEq, Nat.reduceAdd, Nat.reduceMul, Nat.reduceSub, Nat.reduceEqDiff, Nat.reduceLeDiff, Nat.reduceLT, Int.reduceToNat, xref36_Dispositions, xref36_Named, ref36_After_s1, Option.isSome_some, Option.getD_some]; (repeat (first | refine ⟨by first | with_reducible assumption | omega | (intro hh; (repeat refine ⟨hh, ?_⟩); revert hh; with_reducible assumption), ?_⟩ | refine fun (_ : _ ≤ _) => ?_)); refine hK _ ?_; clear hK K)
        refine opsG0 ?_
        refine hK12 _ ?_
        refine Sm.ret ?_
        try simp only [↓reduceIte, reduceCtorEq, Exit.exit.injEq]
        obtain rfl := Option.some.inj H
        refine Ret.ofR [] (.inr rfl) ?_
        simp (maxSteps := 2000000) only [ev, ew, tys, tl, ↓reduceIte, reduceCtorEq, Nat.reduceAdd, Nat.reduceMul, Nat.reduceSub, Nat.reduceEqDiff, Nat.reduceLeDiff, Nat.reduceLT, Int.reduceToNat, xref36_Dispositions, xref36_Named, ref36_After_s1, Option.isSome_some, Option.getD_some]
        done
      · replace H := bif_f h11 H
        refine Sm.seqK fun K13 hK13 => ?_
        refine Sm.regA (Γ := [xref36_Dispositions n, xref36_Named n]) h00 mixed hΓ (by kernel_rfl) ?_
        simp only [rs]
        repeat (refine opsG fun K hK => ?_; simp (maxSteps := 2000000) only [ev, ew, tys, tl, ↓reduceIte, reduceCtorEq, Nat.reduceAdd, Nat.reduceMul, Nat.reduceSub, Nat.reduceEqDiff, Nat.reduceLeDiff, Nat.reduceLT, Int.reduceToNat, xref36_Dispositions, xref36_Named, ref36_After_s1, Option.isSome_some, Option.getD_some]; (repeat (first | refine ⟨by first | with_reducible assumption | omega | (intro hh; (repeat refine ⟨hh, ?_⟩); revert hh; with_reducible assumption), ?_⟩ | refine fun (_ : _ ≤ _) => ?_)); refine hK _ ?_; clear hK K)
        refine opsG0 ?_
        refine hK13 _ ?_
        refine Sm.condK (by rfl) fun Ka Kb ha hb => ?_
        simp only [wpCond, ev, ew, tys, tl, ↓reduceIte, reduceCtorEq, Nat.reduceAdd, Nat.reduceMul, Nat.reduceSub, Nat.reduceEqDiff, Nat.reduceLeDiff, Nat.reduceLT, Int.reduceToNat, xref36_Dispositions, xref36_Named, ref36_After_s1, Option.isSome_some, Option.getD_some]
        refine ⟨fun h14 => ha ?_, fun h14 => hb ?_⟩
        · replace H := bif_t h14 H
          refine Sm.seqK fun K15 hK15 => ?_
          refine Sm.regA (Γ := [xref36_Dispositions n, xref36_Named n]) h00 mixed hΓ (by kernel_rfl) ?_
          simp only [rs]
          repeat (refine opsG fun K hK => ?_; simp (maxSteps := 2000000) only [ev, ew, tys, tl, ↓reduceIte, reduceCtorEq, Nat.reduceAdd, Nat.reduceMul, Nat.reduceSub, Nat.reduceEqDiff, Nat.reduceLeDiff, Nat.reduceLT, Int.reduceToNat, xref36_Dispositions, xref36_Named, ref36_After_s1, Option.isSome_some, Option.getD_some]; (repeat (first | refine ⟨by first | with_reducible assumption | omega | (intro hh; (repeat refine ⟨hh, ?_⟩); revert hh; with_reducible assumption), ?_⟩ | refine fun (_ : _ ≤ _) => ?_)); refine hK _ ?_; clear hK K)
          refine opsG0 ?_
          refine hK15 _ ?_
          refine Sm.ret ?_
          try simp only [↓reduceIte, reduceCtorEq, Exit.exit.injEq]
          obtain rfl := Option.some.inj H
          refine Ret.ofR [] (.inr rfl) ?_
          simp (maxSteps := 2000000) only [ev, ew, tys, tl, ↓reduceIte, reduceCtorEq, Nat.reduceAdd, Nat.reduceMul, Nat.reduceSub, Nat.reduceEqDiff, Nat.reduceLeDiff, Nat.reduceLT, Int.reduceToNat, xref36_Dispositions, xref36_Named, ref36_After_s1, Option.isSome_some, Option.getD_some]
          done
        · replace H := bif_f h14 H
          refine Sm.skip ?_
          refine hK8 _ ?_
          refine Sm.seqK fun K16 hK16 => ?_
          refine Sm.regA (Γ := [xref36_Dispositions n, xref36_Named n]) h00 mixed hΓ (by kernel_rfl) ?_
          simp only [rs]
          repeat (refine opsG fun K hK => ?_; simp (maxSteps := 2000000) only [ev, ew, tys, tl, ↓reduceIte, reduceCtorEq, Nat.reduceAdd, Nat.reduceMul, Nat.reduceSub, Nat.reduceEqDiff, Nat.reduceLeDiff, Nat.reduceLT, Int.reduceToNat, xref36_Dispositions, xref36_Named, ref36_After_s1, Option.isSome_some, Option.getD_some]; (repeat (first | refine ⟨by first | with_reducible assumption | omega | (intro hh; (repeat refine ⟨hh, ?_⟩); revert hh; with_reducible assumption), ?_⟩ | refine fun (_ : _ ≤ _) => ?_)); refine hK _ ?_; clear hK K)
          refine opsG0 ?_
          refine hK16 _ ?_
          refine Sm.ret ?_
          try simp only [↓reduceIte, reduceCtorEq, Exit.exit.injEq]
          obtain rfl := Option.some.inj H
          refine Ret.ofR [] (.inr rfl) ?_
          simp (maxSteps := 2000000) only [ev, ew, tys, tl, ↓reduceIte, reduceCtorEq, Nat.reduceAdd, Nat.reduceMul, Nat.reduceSub, Nat.reduceEqDiff, Nat.reduceLeDiff, Nat.reduceLT, Int.reduceToNat, xref36_Dispositions, xref36_Named, ref36_After_s1, Option.isSome_some, Option.getD_some]
          done

def law36_FlowAfter (n : Nat) (d : TDD) (end_ : TStepEnd) (created : Bool) : Option Bool :=
  (flow_After n d end_ created).bind fun r1 =>
  (ref36_After n d end_ created).bind fun r2 =>
  gd (((r1 == r2) = true → (law36_works n).isSome = true)) <|
  some (if (r1 == r2) = true then ((law36_works n).getD default) else false)

def xlaw36_FlowAfter (n : Nat) : Go.AE.Fn := mkFn (A := TDD × TStepEnd × Bool) (R := Bool) 5 [(true, [.str, .str, .str, .int .i64, .bool, .int .i64, .int .i64, .int .i64, .int .i64, .str, .int .i64, .int .i64, .int .i64, .int .i64, .int .i64, .bool, .bool, .int .i64, .int .i64, .int .i64, .int .i64, .str, .slice 9, .bool, .bool]), (true, [.int .i64, .int .i64, .int .i64, .int .i64]), (false, [.bool])] false (fun xs => ((⟨(cg (xs.getD 0 []) 0).toStr, (cg (xs.getD 0 []) 1).toStr, (cg (xs.getD 0 []) 2).toStr, (cg (xs.getD 0 []) 3).toInt, (cg (xs.getD 0 []) 4).toBool, (cg (xs.getD 0 []) 5).toInt, (cg (xs.getD 0 []) 6).toInt, (cg (xs.getD 0 []) 7).toInt, (cg (xs.getD 0 []) 8).toInt, (cg (xs.getD 0 []) 9).toStr, (cg (xs.getD 0 []) 10).toInt, (cg (xs.getD 0 []) 11).toInt, (cg (xs.getD 0 []) 12).toInt, (⟨(cg (xs.getD 0 []) 13).toInt, (cg (xs.getD 0 []) 14).toInt, (cg (xs.getD 0 []) 15).toBool, (cg (xs.getD 0 []) 16).toBool, (cg (xs.getD 0 []) 17).toInt, (cg (xs.getD 0 []) 18).toInt, (cg (xs.getD 0 []) 19).toInt, (cg (xs.getD 0 []) 20).toInt⟩ : TDcb), (cg (xs.getD 0 []) 21).toStr, ((cg (xs.getD 0 []) 22).toSl.map d_Str), (cg (xs.getD 0 []) 23).toBool, (cg (xs.getD 0 []) 24).toBool⟩ : TDD), (⟨(cg (xs.getD 1 []) 0).toInt, (cg (xs.getD 1 []) 1).toInt, (cg (xs.getD 1 []) 2).toInt, (cg (xs.getD 1 []) 3).toInt⟩ : TStepEnd), (cg (xs.getD 2 []) 0).toBool)) (fun a => [[.str a.1.Name, .str a.1.Dsn, .str a.1.Member, .int a.1.Gen, .bool a.1.HasGen, .int a.1.Disp, .int a.1.Normal, .int a.1.Abend, .int a.1.Unit, .str a.1.Vol, .int a.1.Tracks, .int a.1.More, .int a.1.File, .int a.1.Dcb.Org, .int a.1.Dcb.Format, .bool a.1.Dcb.Blocked, .bool a.1.Dcb.Asa, .int a.1.Dcb.Lrecl, .int a.1.Dcb.Blksize, .int a.1.Dcb.KeyLen, .int a.1.Dcb.KeyPos, .str a.1.Sysout, .slice (List.map e_Str a.1.Instream), .bool a.1.HasData, .bool a.1.Dummy], [.int a.2.1.Kind, .int a.2.1.Code, .int a.2.1.Ins, .int a.2.1.Ios], [.bool a.2.2]]) (fun a => law36_FlowAfter n a.1 a.2.1 a.2.2) (fun r => [.c .bool (.bool r)]) (fun r => [])

theorem claw36_FlowAfter (n : Nat) : Contract Try.prog (xlaw36_FlowAfter n) := by
  have hΓ : ∀ g, g ∈ ([xflow_After n, xref36_After n, xlaw36_works n] : List Go.AE.Fn) → Contract Try.prog g := by
    intro g hg; simp only [List.mem_cons, List.not_mem_nil, or_false] at hg; rcases hg with rfl | rfl | rfl; exact cflow_After n; exact cref36_After n; exact claw36_works n
  refine contract_f (Try.f5.body.getD .skip) h00 Try.func5 rfl (by intro args w; exact Try.call5 args w) (by decide) (by intro _ r; exact ⟨rfl, by simp⟩) ?_
  rintro ⟨d, end_, created⟩ r H
  try dsimp only at H
  unfold law36_FlowAfter at H
  simp only [Try.f5, Option.getD]
  refine Sm.seqK fun K1 hK1 => ?_
  refine Sm.regA (Γ := [xflow_After n, xref36_After n, xlaw36_works n]) h00 mixed hΓ (by kernel_rfl) ?_
  simp only [rs]
  repeat (refine opsG fun K hK => ?_; simp (maxSteps := 2000000) only [ev, ew, tys, tl, ↓reduceIte, reduceCtorEq, Nat.reduceAdd, Nat.reduceMul, Nat.reduceSub, Nat.reduceEqDiff, Nat.reduceLeDiff, Nat.reduceLT, Int.reduceToNat, xflow_After, xref36_After, xlaw36_works, Option.isSome_some, Option.getD_some]; (repeat (first | refine ⟨by first | with_reducible assumption | omega | (intro hh; (repeat refine ⟨hh, ?_⟩); revert hh; with_reducible assumption), ?_⟩ | refine fun (_ : _ ≤ _) => ?_)); refine hK _ ?_; clear hK K)
  refine opsG0 ?_
  refine hK1 _ ?_
  refine Sm.seqK fun K2 hK2 => ?_
  obtain ⟨r1, hr1, H⟩ := bind_some H
  obtain ⟨r2, hr2, H⟩ := bind_some H
  obtain ⟨hg3, H⟩ := gd_some H
  refine Sm.regD (Γ := [xflow_After n, xref36_After n, xlaw36_works n]) h00 mixed hΓ (by kernel_rfl) ?_
  simp only [rs]
  repeat (refine opsH fun K hK => ?_; simp (maxSteps := 2000000) only [ev, ew, tys, tl, ↓reduceIte, reduceCtorEq, Nat.reduceAdd, Nat.reduceMul, Nat.reduceSub, Nat.reduceEqDiff, Nat.reduceLeDiff, Nat.reduceLT, Int.reduceToNat, xflow_After, xref36_After, xlaw36_works, Option.isSome_some, Option.getD_some, hr1, hr2]; (repeat (first | refine ⟨by first | with_reducible assumption | omega | (intro hh; (repeat refine ⟨hh, ?_⟩); revert hh; with_reducible assumption), ?_⟩ | refine fun (_ : _ ≤ _) => ?_)); refine hK _ ?_; clear hK K)
  refine opsH0 ?_
  refine hK2 _ ?_
  refine Sm.ret ?_
  try simp only [↓reduceIte, reduceCtorEq, Exit.exit.injEq]
  obtain rfl := Option.some.inj H
  refine Ret.ofR [] (.inr rfl) ?_
  simp (maxSteps := 2000000) only [ev, ew, tys, tl, ↓reduceIte, reduceCtorEq, Nat.reduceAdd, Nat.reduceMul, Nat.reduceSub, Nat.reduceEqDiff, Nat.reduceLeDiff, Nat.reduceLT, Int.reduceToNat, xflow_After, xref36_After, xlaw36_works, Option.isSome_some, Option.getD_some]
  done

abbrev law36_FlowOrder_s2 (names : List (List UInt8)) (ends : List TStepEnd) (s : TJobStep) (t : List TCond) (all : Bool) (any : Bool) : S := stB [(1, .c (.slice 9) (.slice (List.map e_Str names))), (2, .c (.slice 24) (.slice (List.map e_TStepEnd ends))), (7, .box 9003 0), (10, .c .bool (.bool all)), (11, .c .bool (.bool any))] [(9003, .box [.c .str (.str s.Name), .c .str (.str s.Pgm), .c .str (.str s.Parm), .own 9004 [.int .i64, .int .i64, .str] 0 t.length, .c .bool (.bool s.Even), .c .bool (.bool s.Only), .c (.int .i64) (.int s.Time), .c (.slice 39) (.slice (List.map e_TDD s.DDs))]), (9004, .row 27 (List.map e_TCond t))]

def law36_FlowOrder_k2 (n : Nat) (names : List (List UInt8)) (ends : List TStepEnd) (s : TJobStep) (t : List TCond) (all : Bool) (any : Bool) : Option Bool :=
  (flow_Skip n (⟨s.Name, s.Pgm, s.Parm, t, s.Even, s.Only, s.Time, s.DDs⟩ : TJobStep) names ends).bind fun r3 =>
  gd (((if (r3 == all) = true then (any == all) else false) = true → (law36_works n).isSome = true)) <|
  some (if (if (r3 == all) = true then (any == all) else false) = true then ((law36_works n).getD default) else false)

abbrev law36_FlowOrder_t3 (names : List (List UInt8)) (ends : List TStepEnd) (s : TJobStep) (t : List TCond) (all : Bool) (any : Bool) (i : Int) : S := stB [(1, .c (.slice 9) (.slice (List.map e_Str names))), (2, .c (.slice 24) (.slice (List.map e_TStepEnd ends))), (3, .box 9008 0), (7, .box 9009 0), (10, .c .bool (.bool all)), (11, .c .bool (.bool any)), (12, .c (.int .i64) (.int i))] [(9008, .box [.c .str (.str s.Name), .c .str (.str s.Pgm), .c .str (.str s.Parm), .c (.slice 27) (.slice (List.map e_TCond s.Conds)), .c .bool (.bool s.Even), .c .bool (.bool s.Only), .c (.int .i64) (.int s.Time), .c (.slice 39) (.slice (List.map e_TDD s.DDs))]), (9009, .box [.c .str (.str s.Name), .c .str (.str s.Pgm), .c .str (.str s.Parm), .own 9010 [.int .i64, .int .i64, .str] 0 t.length, .c .bool (.bool s.Even), .c .bool (.bool s.Only), .c (.int .i64) (.int s.Time), .c (.slice 39) (.slice (List.map e_TDD s.DDs))]), (9010, .row 27 (List.map e_TCond t))]

def law36_FlowOrder_b3 (n : Nat) (names : List (List UInt8)) (ends : List TStepEnd) (s : TJobStep) (t : List TCond) (all : Bool) (any : Bool) (i : Int) : Option ((Bool × Int) ⊕ ((Bool))) :=
  bif (decide (i < (s.Conds.length : Int))) then
    gd ((0 ≤ i ∧ i < (s.Conds.length : Int))) <|
    gd (((!any) = true → (flow_Skip n (⟨s.Name, s.Pgm, s.Parm, [(gt s.Conds (Int.toNat i))], s.Even, s.Only, s.Time, s.DDs⟩ : TJobStep) names ends).isSome = true)) <|
    some (.inl ((if any = true then true else ((flow_Skip n (⟨s.Name, s.Pgm, s.Parm, [(gt s.Conds (Int.toNat i))], s.Even, s.Only, s.Time, s.DDs⟩ : TJobStep) names ends).getD default)), (IntKind.wrap .i64 (i + 1))))
  else
    some (.inr any)

abbrev law36_FlowOrder_s1 (names : List (List UInt8)) (ends : List TStepEnd) (s : TJobStep) (t : List TCond) : S := stB [(1, .c (.slice 9) (.slice (List.map e_Str names))), (2, .c (.slice 24) (.slice (List.map e_TStepEnd ends))), (3, .box 9000 0), (7, .box 9001 0)] [(9000, .box [.c .str (.str s.Name), .c .str (.str s.Pgm), .c .str (.str s.Parm), .c (.slice 27) (.slice (List.map e_TCond s.Conds)), .c .bool (.bool s.Even), .c .bool (.bool s.Only), .c (.int .i64) (.int s.Time), .c (.slice 39) (.slice (List.map e_TDD s.DDs))]), (9001, .box [.c .str (.str s.Name), .c .str (.str s.Pgm), .c .str (.str s.Parm), .own 9002 [.int .i64, .int .i64, .str] 0 t.length, .c .bool (.bool s.Even), .c .bool (.bool s.Only), .c (.int .i64) (.int s.Time), .c (.slice 39) (.slice (List.map e_TDD s.DDs))]), (9002, .row 27 (List.map e_TCond t))]

def law36_FlowOrder_k1 (n : Nat) (names : List (List UInt8)) (ends : List TStepEnd) (s : TJobStep) (t : List TCond) : Option Bool :=
  (flow_Skip n s names ends).bind fun r1 =>
  (flow_Skip n (⟨s.Name, s.Pgm, s.Parm, [], s.Even, s.Only, s.Time, s.DDs⟩ : TJobStep) names ends).bind fun r2 =>
  (loopF (fun (x : Bool × Int) => law36_FlowOrder_b3 n names ends s t r1 x.1 x.2) n (r2, 0)).bind fun y11 =>
  law36_FlowOrder_k2 n names ends s t r1 y11

abbrev law36_FlowOrder_t4 (names : List (List UInt8)) (ends : List TStepEnd) (s : TJobStep) (t : List TCond) (i_1 : Int) : S := stB [(1, .c (.slice 9) (.slice (List.map e_Str names))), (2, .c (.slice 24) (.slice (List.map e_TStepEnd ends))), (3, .box 9016 0), (7, .box 9017 0), (8, .c (.int .i64) (.int i_1))] [(9016, .box [.c .str (.str s.Name), .c .str (.str s.Pgm), .c .str (.str s.Parm), .c (.slice 27) (.slice (List.map e_TCond s.Conds)), .c .bool (.bool s.Even), .c .bool (.bool s.Only), .c (.int .i64) (.int s.Time), .c (.slice 39) (.slice (List.map e_TDD s.DDs))]), (9017, .box [.c .str (.str s.Name), .c .str (.str s.Pgm), .c .str (.str s.Parm), .own 9018 [.int .i64, .int .i64, .str] 0 t.length, .c .bool (.bool s.Even), .c .bool (.bool s.Only), .c (.int .i64) (.int s.Time), .c (.slice 39) (.slice (List.map e_TDD s.DDs))]), (9018, .row 27 (List.map e_TCond t))]

def law36_FlowOrder_b4 (n : Nat) (names : List (List UInt8)) (ends : List TStepEnd) (s : TJobStep) (t : List TCond) (i_1 : Int) : Option (((List TCond) × Int) ⊕ (((List TCond)))) :=
  bif (decide (i_1 ≥ 0)) then
    gd ((0 ≤ i_1 ∧ i_1 < (s.Conds.length : Int)) ∧ (t.length + 1) ≤ 2147483648) <|
    some (.inl ((t ++ [(gt s.Conds (Int.toNat i_1))]), (IntKind.wrap .i64 (i_1 - 1))))
  else
    some (.inr t)

def law36_FlowOrder (n : Nat) (s : TJobStep) (names : List (List UInt8)) (ends : List TStepEnd) : Option Bool :=
  (loopF (fun (x : (List TCond) × Int) => law36_FlowOrder_b4 n names ends s x.1 x.2) n ([], (IntKind.wrap .i64 ((s.Conds.length : Int) - 1)))).bind fun y21 =>
  law36_FlowOrder_k1 n names ends s y21

def xlaw36_FlowOrder (n : Nat) : Go.AE.Fn := mkFn (A := TJobStep × (List (List UInt8)) × (List TStepEnd)) (R := Bool) 6 [(true, [.str, .str, .str, .slice 27, .bool, .bool, .int .i64, .slice 39]), (false, [.slice 9]), (false, [.slice 24])] false (fun xs => ((⟨(cg (xs.getD 0 []) 0).toStr, (cg (xs.getD 0 []) 1).toStr, (cg (xs.getD 0 []) 2).toStr, ((cg (xs.getD 0 []) 3).toSl.map d_TCond), (cg (xs.getD 0 []) 4).toBool, (cg (xs.getD 0 []) 5).toBool, (cg (xs.getD 0 []) 6).toInt, ((cg (xs.getD 0 []) 7).toSl.map d_TDD)⟩ : TJobStep), ((cg (xs.getD 1 []) 0).toSl.map d_Str), ((cg (xs.getD 2 []) 0).toSl.map d_TStepEnd))) (fun a => [[.str a.1.Name, .str a.1.Pgm, .str a.1.Parm, .slice (List.map e_TCond a.1.Conds), .bool a.1.Even, .bool a.1.Only, .int a.1.Time, .slice (List.map e_TDD a.1.DDs)], [.slice (List.map e_Str a.2.1)], [.slice (List.map e_TStepEnd a.2.2)]]) (fun a => law36_FlowOrder n a.1 a.2.1 a.2.2) (fun r => [.c .bool (.bool r)]) (fun r => [])

theorem claw36_FlowOrder (n : Nat) : Contract Try.prog (xlaw36_FlowOrder n) := by
  have hΓ : ∀ g, g ∈ ([xflow_Skip n, xlaw36_works n] : List Go.AE.Fn) → Contract Try.prog g := by
    intro g hg; simp only [List.mem_cons, List.not_mem_nil, or_false] at hg; rcases hg with rfl | rfl; exact cflow_Skip n; exact claw36_works n
  refine contract_f (Try.f6.body.getD .skip) h00 Try.func6 rfl (by intro args w; exact Try.call6 args w) (by decide) (by intro _ r; exact ⟨rfl, by simp⟩) ?_
  rintro ⟨s, names, ends⟩ r H
  try dsimp only at H
  unfold law36_FlowOrder at H
  simp only [Try.f6, Option.getD]
  refine Sm.seqK fun K1 hK1 => ?_
  refine Sm.regA (Γ := [xflow_Skip n, xlaw36_works n]) h00 mixed hΓ (by kernel_rfl) ?_
  simp only [rs]
  repeat (refine opsG fun K hK => ?_; simp (maxSteps := 2000000) only [ev, ew, tys, tl, ↓reduceIte, reduceCtorEq, Nat.reduceAdd, Nat.reduceMul, Nat.reduceSub, Nat.reduceEqDiff, Nat.reduceLeDiff, Nat.reduceLT, Int.reduceToNat, xflow_Skip, xlaw36_works, law36_FlowOrder_s2, law36_FlowOrder_t3, law36_FlowOrder_s1, law36_FlowOrder_t4, Option.isSome_some, Option.getD_some]; (repeat (first | refine ⟨by first | with_reducible assumption | omega | (intro hh; (repeat refine ⟨hh, ?_⟩); revert hh; with_reducible assumption), ?_⟩ | refine fun (_ : _ ≤ _) => ?_)); refine hK _ ?_; clear hK K)
  refine opsG0 ?_
  refine hK1 _ ?_
  refine Sm.seqK fun K2 hK2 => ?_
  refine Sm.regA (Γ := [xflow_Skip n, xlaw36_works n]) h00 mixed hΓ (by kernel_rfl) ?_
  simp only [rs]
  repeat (refine opsG fun K hK => ?_; simp (maxSteps := 2000000) only [ev, ew, tys, tl, ↓reduceIte, reduceCtorEq, Nat.reduceAdd, Nat.reduceMul, Nat.reduceSub, Nat.reduceEqDiff, Nat.reduceLeDiff, Nat.reduceLT, Int.reduceToNat, xflow_Skip, xlaw36_works, law36_FlowOrder_s2, law36_FlowOrder_t3, law36_FlowOrder_s1, law36_FlowOrder_t4, Option.isSome_some, Option.getD_some]; (repeat (first | refine ⟨by first | with_reducible assumption | omega | (intro hh; (repeat refine ⟨hh, ?_⟩); revert hh; with_reducible assumption), ?_⟩ | refine fun (_ : _ ≤ _) => ?_)); refine hK _ ?_; clear hK K)
  refine opsG0 ?_
  refine hK2 _ ?_
  refine Sm.seqK fun K3 hK3 => ?_
  refine Sm.regA (Γ := [xflow_Skip n, xlaw36_works n]) h00 mixed hΓ (by kernel_rfl) ?_
  simp only [rs]
  repeat (refine opsG fun K hK => ?_; simp (maxSteps := 2000000) only [ev, ew, tys, tl, ↓reduceIte, reduceCtorEq, Nat.reduceAdd, Nat.reduceMul, Nat.reduceSub, Nat.reduceEqDiff, Nat.reduceLeDiff, Nat.reduceLT, Int.reduceToNat, xflow_Skip, xlaw36_works, law36_FlowOrder_s2, law36_FlowOrder_t3, law36_FlowOrder_s1, law36_FlowOrder_t4, Option.isSome_some, Option.getD_some]; (repeat (first | refine ⟨by first | with_reducible assumption | omega | (intro hh; (repeat refine ⟨hh, ?_⟩); revert hh; with_reducible assumption), ?_⟩ | refine fun (_ : _ ≤ _) => ?_)); refine hK _ ?_; clear hK K)
  refine opsG0 ?_
  refine hK3 _ ?_
  refine Sm.cut (fun (x : (List TCond)) => law36_FlowOrder_s1 names ends s x) (fun x => law36_FlowOrder_k1 n names ends s x = some r) ?_ ?_
  · refine Sm.seqK fun K20 hK20 => ?_
    refine Sm.regA (Γ := [xflow_Skip n, xlaw36_works n]) h00 mixed hΓ (by kernel_rfl) ?_
    simp only [rs]
    repeat (refine opsG fun K hK => ?_; simp (maxSteps := 2000000) only [ev, ew, tys, tl, ↓reduceIte, reduceCtorEq, Nat.reduceAdd, Nat.reduceMul, Nat.reduceSub, Nat.reduceEqDiff, Nat.reduceLeDiff, Nat.reduceLT, Int.reduceToNat, xflow_Skip, xlaw36_works, law36_FlowOrder_s2, law36_FlowOrder_t3, law36_FlowOrder_s1, law36_FlowOrder_t4, Option.isSome_some, Option.getD_some]; (repeat (first | refine ⟨by first | with_reducible assumption | omega | (intro hh; (repeat refine ⟨hh, ?_⟩); revert hh; with_reducible assumption), ?_⟩ | refine fun (_ : _ ≤ _) => ?_)); refine hK _ ?_; clear hK K)
    refine opsG0 ?_
    refine hK20 _ ?_
    refine Sm.block ?_
    obtain ⟨y21, hy21, Ho21⟩ := bind_some H
    refine Sm.loopB (fun (x : (List TCond) × Int) => law36_FlowOrder_b4 n names ends s x.1 x.2) (fun x => law36_FlowOrder_t4 names ends s x.1 x.2) hy21 ?_ ?_
    · exact weak_b [some 48, some 112, none] rfl rfl (by simp only [wk, ev, ew, tys, tl, ↓reduceIte, reduceCtorEq, Nat.reduceAdd, Nat.reduceMul, Nat.reduceSub, Nat.reduceEqDiff, Nat.reduceLeDiff, Nat.reduceLT, Int.reduceToNat, law36_FlowOrder_s2, law36_FlowOrder_t3, law36_FlowOrder_s1, law36_FlowOrder_t4]) (by simp only [wk, ev, ew, tys, tl, ↓reduceIte, reduceCtorEq, Nat.reduceAdd, Nat.reduceMul, Nat.reduceSub, Nat.reduceEqDiff, Nat.reduceLeDiff, Nat.reduceLT, Int.reduceToNat, law36_FlowOrder_s2, law36_FlowOrder_t3, law36_FlowOrder_s1, law36_FlowOrder_t4])
    · rintro ⟨t, i_1⟩ z21 H
      try dsimp only at H
      unfold law36_FlowOrder_b4 at H
      refine Sm.seqK fun K22 hK22 => ?_
      refine Sm.seqK fun K23 hK23 => ?_
      refine Sm.regA (Γ := [xflow_Skip n, xlaw36_works n]) h00 mixed hΓ (by kernel_rfl) ?_
      simp only [rs]
      repeat (refine opsG fun K hK => ?_; simp (maxSteps := 2000000) only [ev, ew, tys, tl, ↓reduceIte, reduceCtorEq, Nat.reduceAdd, Nat.reduceMul, Nat.reduceSub, Nat.reduceEqDiff, Nat.reduceLeDiff, Nat.reduceLT, Int.reduceToNat, xflow_Skip, xlaw36_works, law36_FlowOrder_s2, law36_FlowOrder_t3, law36_FlowOrder_s1, law36_FlowOrder_t4, Option.isSome_some, Option.getD_some]; (repeat (first | refine ⟨by first | with_reducible assumption | omega | (intro hh; (repeat refine ⟨hh, ?_⟩); revert hh; with_reducible assumption), ?_⟩ | refine fun (_ : _ ≤ _) => ?_)); refine hK _ ?_; clear hK K)
      refine opsG0 ?_
      refine hK23 _ ?_
      refine Sm.condK (by rfl) fun Ka Kb ha hb => ?_
      simp only [wpCond, ev, ew, tys, tl, ↓reduceIte, reduceCtorEq, Nat.reduceAdd, Nat.reduceMul, Nat.reduceSub, Nat.reduceEqDiff, Nat.reduceLeDiff, Nat.reduceLT, Int.reduceToNat, xflow_Skip, xlaw36_works, law36_FlowOrder_s2, law36_FlowOrder_t3, law36_FlowOrder_s1, law36_FlowOrder_t4, Option.isSome_some, Option.getD_some]
      refine ⟨fun h24 => ha ?_, fun h24 => hb ?_⟩
      · replace H := bif_t h24 H
        refine Sm.skip ?_
        refine hK22 _ ?_
        refine Sm.seqK fun K25 hK25 => ?_
        refine Sm.block ?_
        obtain ⟨⟨hg26, hg27⟩, H⟩ := gd_some H
        refine Sm.regD (Γ := [xflow_Skip n, xlaw36_works n]) h00 mixed hΓ (by kernel_rfl) ?_
        simp only [rs]
        repeat (refine opsH fun K hK => ?_; simp (maxSteps := 2000000) only [ev, ew, tys, tl, ↓reduceIte, reduceCtorEq, Nat.reduceAdd, Nat.reduceMul, Nat.reduceSub, Nat.reduceEqDiff, Nat.reduceLeDiff, Nat.reduceLT, Int.reduceToNat, xflow_Skip, xlaw36_works, law36_FlowOrder_s2, law36_FlowOrder_t3, law36_FlowOrder_s1, law36_FlowOrder_t4, Option.isSome_some, Option.getD_some]; (repeat (first | refine ⟨by first | with_reducible assumption | omega | (intro hh; (repeat refine ⟨hh, ?_⟩); revert hh; with_reducible assumption), ?_⟩ | refine fun (_ : _ ≤ _) => ?_)); refine hK _ ?_; clear hK K)
        refine opsH0 ?_
        refine hK25 _ ?_
        refine Sm.regA (Γ := [xflow_Skip n, xlaw36_works n]) h00 mixed hΓ (by kernel_rfl) ?_
        simp only [rs]
        repeat (refine opsG fun K hK => ?_; simp (maxSteps := 2000000) only [ev, ew, tys, tl, ↓reduceIte, reduceCtorEq, Nat.reduceAdd, Nat.reduceMul, Nat.reduceSub, Nat.reduceEqDiff, Nat.reduceLeDiff, Nat.reduceLT, Int.reduceToNat, xflow_Skip, xlaw36_works, law36_FlowOrder_s2, law36_FlowOrder_t3, law36_FlowOrder_s1, law36_FlowOrder_t4, Option.isSome_some, Option.getD_some]; (repeat (first | refine ⟨by first | with_reducible assumption | omega | (intro hh; (repeat refine ⟨hh, ?_⟩); revert hh; with_reducible assumption), ?_⟩ | refine fun (_ : _ ≤ _) => ?_)); refine hK _ ?_; clear hK K)
        refine opsG0 ?_
        try simp only [↓reduceIte, reduceCtorEq, Exit.exit.injEq]
        refine ⟨(_, _), (Option.some.inj H).symm, ?_⟩
        exact weak_b [some 9016, some 9017, some 512] rfl rfl (by simp only [wk, ev, ew, tys, tl, ↓reduceIte, reduceCtorEq, Nat.reduceAdd, Nat.reduceMul, Nat.reduceSub, Nat.reduceEqDiff, Nat.reduceLeDiff, Nat.reduceLT, Int.reduceToNat, law36_FlowOrder_s2, law36_FlowOrder_t3, law36_FlowOrder_s1, law36_FlowOrder_t4]) (by simp only [wk, ev, ew, tys, tl, ↓reduceIte, reduceCtorEq, Nat.reduceAdd, Nat.reduceMul, Nat.reduceSub, Nat.reduceEqDiff, Nat.reduceLeDiff, Nat.reduceLT, Int.reduceToNat, law36_FlowOrder_s2, law36_FlowOrder_t3, law36_FlowOrder_s1, law36_FlowOrder_t4])
      · replace H := bif_f h24 H
        refine Sm.exit ?_
        try simp only [↓reduceIte, reduceCtorEq, Exit.exit.injEq]
        refine ⟨⟨_, (Option.some.inj H).symm⟩, fun hz => ?_⟩
        have hyy := Sum.inr.inj ((Option.some.inj H).trans hz)
        subst hyy
        have H := Ho21
        try dsimp only at H
        try simp only [↓reduceIte, reduceCtorEq, Exit.exit.injEq]
        refine ⟨_, H, ?_⟩
        exact weak_b [some 9016, some 9017, some 9018] rfl rfl (by simp only [wk, ev, ew, tys, tl, ↓reduceIte, reduceCtorEq, Nat.reduceAdd, Nat.reduceMul, Nat.reduceSub, Nat.reduceEqDiff, Nat.reduceLeDiff, Nat.reduceLT, Int.reduceToNat, law36_FlowOrder_s2, law36_FlowOrder_t3, law36_FlowOrder_s1, law36_FlowOrder_t4]) (by simp only [wk, ev, ew, tys, tl, ↓reduceIte, reduceCtorEq, Nat.reduceAdd, Nat.reduceMul, Nat.reduceSub, Nat.reduceEqDiff, Nat.reduceLeDiff, Nat.reduceLT, Int.reduceToNat, law36_FlowOrder_s2, law36_FlowOrder_t3, law36_FlowOrder_s1, law36_FlowOrder_t4])
  · rintro t H
    try dsimp only at H
    unfold law36_FlowOrder_k1 at H
    refine Sm.seqK fun K4 hK4 => ?_
    refine Sm.regA (Γ := [xflow_Skip n, xlaw36_works n]) h00 mixed hΓ (by kernel_rfl) ?_
    simp only [rs]
    repeat (refine opsG fun K hK => ?_; simp (maxSteps := 2000000) only [ev, ew, tys, tl, ↓reduceIte, reduceCtorEq, Nat.reduceAdd, Nat.reduceMul, Nat.reduceSub, Nat.reduceEqDiff, Nat.reduceLeDiff, Nat.reduceLT, Int.reduceToNat, xflow_Skip, xlaw36_works, law36_FlowOrder_s2, law36_FlowOrder_t3, law36_FlowOrder_s1, law36_FlowOrder_t4, Option.isSome_some, Option.getD_some]; (repeat (first | refine ⟨by first | with_reducible assumption | omega | (intro hh; (repeat refine ⟨hh, ?_⟩); revert hh; with_reducible assumption), ?_⟩ | refine fun (_ : _ ≤ _) => ?_)); refine hK _ ?_; clear hK K)
    refine opsG0 ?_
    refine hK4 _ ?_
    refine Sm.seqK fun K5 hK5 => ?_
    refine Sm.regA (Γ := [xflow_Skip n, xlaw36_works n]) h00 mixed hΓ (by kernel_rfl) ?_
    simp only [rs]
    repeat (refine opsG fun K hK => ?_; simp (maxSteps := 2000000) only [ev, ew, tys, tl, ↓reduceIte, reduceCtorEq, Nat.reduceAdd, Nat.reduceMul, Nat.reduceSub, Nat.reduceEqDiff, Nat.reduceLeDiff, Nat.reduceLT, Int.reduceToNat, xflow_Skip, xlaw36_works, law36_FlowOrder_s2, law36_FlowOrder_t3, law36_FlowOrder_s1, law36_FlowOrder_t4, Option.isSome_some, Option.getD_some]; (repeat (first | refine ⟨by first | with_reducible assumption | omega | (intro hh; (repeat refine ⟨hh, ?_⟩); revert hh; with_reducible assumption), ?_⟩ | refine fun (_ : _ ≤ _) => ?_)); refine hK _ ?_; clear hK K)
    refine opsG0 ?_
    refine hK5 _ ?_
    refine Sm.seqK fun K6 hK6 => ?_
    obtain ⟨r1, hr1, H⟩ := bind_some H
    refine Sm.regA (Γ := [xflow_Skip n, xlaw36_works n]) h00 mixed hΓ (by kernel_rfl) ?_
    simp only [rs]
    repeat (refine opsG fun K hK => ?_; simp (maxSteps := 2000000) only [ev, ew, tys, tl, ↓reduceIte, reduceCtorEq, Nat.reduceAdd, Nat.reduceMul, Nat.reduceSub, Nat.reduceEqDiff, Nat.reduceLeDiff, Nat.reduceLT, Int.reduceToNat, xflow_Skip, xlaw36_works, law36_FlowOrder_s2, law36_FlowOrder_t3, law36_FlowOrder_s1, law36_FlowOrder_t4, Option.isSome_some, Option.getD_some, hr1]; (repeat (first | refine ⟨by first | with_reducible assumption | omega | (intro hh; (repeat refine ⟨hh, ?_⟩); revert hh; with_reducible assumption), ?_⟩ | refine fun (_ : _ ≤ _) => ?_)); refine hK _ ?_; clear hK K)
    refine opsG0 ?_
    refine hK6 _ ?_
    refine Sm.seqK fun K7 hK7 => ?_
    obtain ⟨r2, hr2, H⟩ := bind_some H
    refine Sm.regA (Γ := [xflow_Skip n, xlaw36_works n]) h00 mixed hΓ (by kernel_rfl) ?_
    simp only [rs]
    repeat (refine opsG fun K hK => ?_; simp (maxSteps := 2000000) only [ev, ew, tys, tl, ↓reduceIte, reduceCtorEq, Nat.reduceAdd, Nat.reduceMul, Nat.reduceSub, Nat.reduceEqDiff, Nat.reduceLeDiff, Nat.reduceLT, Int.reduceToNat, xflow_Skip, xlaw36_works, law36_FlowOrder_s2, law36_FlowOrder_t3, law36_FlowOrder_s1, law36_FlowOrder_t4, Option.isSome_some, Option.getD_some, hr2]; (repeat (first | refine ⟨by first | with_reducible assumption | omega | (intro hh; (repeat refine ⟨hh, ?_⟩); revert hh; with_reducible assumption), ?_⟩ | refine fun (_ : _ ≤ _) => ?_)); refine hK _ ?_; clear hK K)
    refine opsG0 ?_
    refine hK7 _ ?_
    refine Sm.cut (fun (x : Bool × Bool) => law36_FlowOrder_s2 names ends s t x.1 x.2) (fun x => law36_FlowOrder_k2 n names ends s t x.1 x.2 = some r) ?_ ?_
    · refine Sm.seqK fun K10 hK10 => ?_
      refine Sm.regA (Γ := [xflow_Skip n, xlaw36_works n]) h00 mixed hΓ (by kernel_rfl) ?_
      simp only [rs]
      repeat (refine opsG fun K hK => ?_; simp (maxSteps := 2000000) only [ev, ew, tys, tl, ↓reduceIte, reduceCtorEq, Nat.reduceAdd, Nat.reduceMul, Nat.reduceSub, Nat.reduceEqDiff, Nat.reduceLeDiff, Nat.reduceLT, Int.reduceToNat, xflow_Skip, xlaw36_works, law36_FlowOrder_s2, law36_FlowOrder_t3, law36_FlowOrder_s1, law36_FlowOrder_t4, Option.isSome_some, Option.getD_some]; (repeat (first | refine ⟨by first | with_reducible assumption | omega | (intro hh; (repeat refine ⟨hh, ?_⟩); revert hh; with_reducible assumption), ?_⟩ | refine fun (_ : _ ≤ _) => ?_)); refine hK _ ?_; clear hK K)
      refine opsG0 ?_
      refine hK10 _ ?_
      refine Sm.block ?_
      obtain ⟨y11, hy11, Ho11⟩ := bind_some H
      refine Sm.loopB (fun (x : Bool × Int) => law36_FlowOrder_b3 n names ends s t r1 x.1 x.2) (fun x => law36_FlowOrder_t3 names ends s t r1 x.1 x.2) hy11 ?_ ?_
      · exact weak_b [some 9000, some 9001, some 9002] rfl rfl (by simp only [wk, ev, ew, tys, tl, ↓reduceIte, reduceCtorEq, Nat.reduceAdd, Nat.reduceMul, Nat.reduceSub, Nat.reduceEqDiff, Nat.reduceLeDiff, Nat.reduceLT, Int.reduceToNat, law36_FlowOrder_s2, law36_FlowOrder_t3, law36_FlowOrder_s1, law36_FlowOrder_t4]) (by simp only [wk, ev, ew, tys, tl, ↓reduceIte, reduceCtorEq, Nat.reduceAdd, Nat.reduceMul, Nat.reduceSub, Nat.reduceEqDiff, Nat.reduceLeDiff, Nat.reduceLT, Int.reduceToNat, law36_FlowOrder_s2, law36_FlowOrder_t3, law36_FlowOrder_s1, law36_FlowOrder_t4])
      · rintro ⟨any, i⟩ z11 H
        try dsimp only at H
        unfold law36_FlowOrder_b3 at H
        refine Sm.seqK fun K12 hK12 => ?_
        refine Sm.seqK fun K13 hK13 => ?_
        refine Sm.regA (Γ := [xflow_Skip n, xlaw36_works n]) h00 mixed hΓ (by kernel_rfl) ?_
        simp only [rs]
        repeat (refine opsG fun K hK => ?_; simp (maxSteps := 2000000) only [ev, ew, tys, tl, ↓reduceIte, reduceCtorEq, Nat.reduceAdd, Nat.reduceMul, Nat.reduceSub, Nat.reduceEqDiff, Nat.reduceLeDiff, Nat.reduceLT, Int.reduceToNat, xflow_Skip, xlaw36_works, law36_FlowOrder_s2, law36_FlowOrder_t3, law36_FlowOrder_s1, law36_FlowOrder_t4, Option.isSome_some, Option.getD_some]; (repeat (first | refine ⟨by first | with_reducible assumption | omega | (intro hh; (repeat refine ⟨hh, ?_⟩); revert hh; with_reducible assumption), ?_⟩ | refine fun (_ : _ ≤ _) => ?_)); refine hK _ ?_; clear hK K)
        refine opsG0 ?_
        refine hK13 _ ?_
        refine Sm.condK (by rfl) fun Ka Kb ha hb => ?_
        simp only [wpCond, ev, ew, tys, tl, ↓reduceIte, reduceCtorEq, Nat.reduceAdd, Nat.reduceMul, Nat.reduceSub, Nat.reduceEqDiff, Nat.reduceLeDiff, Nat.reduceLT, Int.reduceToNat, xflow_Skip, xlaw36_works, law36_FlowOrder_s2, law36_FlowOrder_t3, law36_FlowOrder_s1, law36_FlowOrder_t4, Option.isSome_some, Option.getD_some]
        refine ⟨fun h14 => ha ?_, fun h14 => hb ?_⟩
        · replace H := bif_t h14 H
          refine Sm.skip ?_
          refine hK12 _ ?_
          refine Sm.seqK fun K15 hK15 => ?_
          refine Sm.block ?_
          refine Sm.seqK fun K16 hK16 => ?_
          refine Sm.regA (Γ := [xflow_Skip n, xlaw36_works n]) h00 mixed hΓ (by kernel_rfl) ?_
          simp only [rs]
          repeat (refine opsG fun K hK => ?_; simp (maxSteps := 2000000) only [ev, ew, tys, tl, ↓reduceIte, reduceCtorEq, Nat.reduceAdd, Nat.reduceMul, Nat.reduceSub, Nat.reduceEqDiff, Nat.reduceLeDiff, Nat.reduceLT, Int.reduceToNat, xflow_Skip, xlaw36_works, law36_FlowOrder_s2, law36_FlowOrder_t3, law36_FlowOrder_s1, law36_FlowOrder_t4, Option.isSome_some, Option.getD_some]; (repeat (first | refine ⟨by first | with_reducible assumption | omega | (intro hh; (repeat refine ⟨hh, ?_⟩); revert hh; with_reducible assumption), ?_⟩ | refine fun (_ : _ ≤ _) => ?_)); refine hK _ ?_; clear hK K)
          refine opsG0 ?_
          refine hK16 _ ?_
          refine Sm.seqK fun K17 hK17 => ?_
          obtain ⟨hg19, H⟩ := gd_some H
          refine Sm.regA (Γ := [xflow_Skip n, xlaw36_works n]) h00 mixed hΓ (by kernel_rfl) ?_
          simp only [rs]
          repeat (refine opsG fun K hK => ?_; simp (maxSteps := 2000000) only [ev, ew, tys, tl, ↓reduceIte, reduceCtorEq, Nat.reduceAdd, Nat.reduceMul, Nat.reduceSub, Nat.reduceEqDiff, Nat.reduceLeDiff, Nat.reduceLT, Int.reduceToNat, xflow_Skip, xlaw36_works, law36_FlowOrder_s2, law36_FlowOrder_t3, law36_FlowOrder_s1, law36_FlowOrder_t4, Option.isSome_some, Option.getD_some]; (repeat (first | refine ⟨by first | with_reducible assumption | omega | (intro hh; (repeat refine ⟨hh, ?_⟩); revert hh; with_reducible assumption), ?_⟩ | refine fun (_ : _ ≤ _) => ?_)); refine hK _ ?_; clear hK K)
          refine opsG0 ?_
          refine hK17 _ ?_
          obtain ⟨hg18, H⟩ := gd_some H
          refine Sm.regA (Γ := [xflow_Skip n, xlaw36_works n]) h00 mixed hΓ (by kernel_rfl) ?_
          simp only [rs]
          repeat (refine opsG fun K hK => ?_; simp (maxSteps := 2000000) only [ev, ew, tys, tl, ↓reduceIte, reduceCtorEq, Nat.reduceAdd, Nat.reduceMul, Nat.reduceSub, Nat.reduceEqDiff, Nat.reduceLeDiff, Nat.reduceLT, Int.reduceToNat, xflow_Skip, xlaw36_works, law36_FlowOrder_s2, law36_FlowOrder_t3, law36_FlowOrder_s1, law36_FlowOrder_t4, Option.isSome_some, Option.getD_some]; (repeat (first | refine ⟨by first | with_reducible assumption | omega | (intro hh; (repeat refine ⟨hh, ?_⟩); revert hh; with_reducible assumption), ?_⟩ | refine fun (_ : _ ≤ _) => ?_)); refine hK _ ?_; clear hK K)
          refine opsG0 ?_
          refine hK15 _ ?_
          refine Sm.regA (Γ := [xflow_Skip n, xlaw36_works n]) h00 mixed hΓ (by kernel_rfl) ?_
          simp only [rs]
          repeat (refine opsG fun K hK => ?_; simp (maxSteps := 2000000) only [ev, ew, tys, tl, ↓reduceIte, reduceCtorEq, Nat.reduceAdd, Nat.reduceMul, Nat.reduceSub, Nat.reduceEqDiff, Nat.reduceLeDiff, Nat.reduceLT, Int.reduceToNat, xflow_Skip, xlaw36_works, law36_FlowOrder_s2, law36_FlowOrder_t3, law36_FlowOrder_s1, law36_FlowOrder_t4, Option.isSome_some, Option.getD_some]; (repeat (first | refine ⟨by first | with_reducible assumption | omega | (intro hh; (repeat refine ⟨hh, ?_⟩); revert hh; with_reducible assumption), ?_⟩ | refine fun (_ : _ ≤ _) => ?_)); refine hK _ ?_; clear hK K)
          refine opsG0 ?_
          try simp only [↓reduceIte, reduceCtorEq, Exit.exit.injEq]
          refine ⟨(_, _), (Option.some.inj H).symm, ?_⟩
          exact weak_b [some 9008, some 9009, some 9010] rfl rfl (by simp only [wk, ev, ew, tys, tl, ↓reduceIte, reduceCtorEq, Nat.reduceAdd, Nat.reduceMul, Nat.reduceSub, Nat.reduceEqDiff, Nat.reduceLeDiff, Nat.reduceLT, Int.reduceToNat, law36_FlowOrder_s2, law36_FlowOrder_t3, law36_FlowOrder_s1, law36_FlowOrder_t4]) (by simp only [wk, ev, ew, tys, tl, ↓reduceIte, reduceCtorEq, Nat.reduceAdd, Nat.reduceMul, Nat.reduceSub, Nat.reduceEqDiff, Nat.reduceLeDiff, Nat.reduceLT, Int.reduceToNat, law36_FlowOrder_s2, law36_FlowOrder_t3, law36_FlowOrder_s1, law36_FlowOrder_t4])
        · replace H := bif_f h14 H
          refine Sm.exit ?_
          try simp only [↓reduceIte, reduceCtorEq, Exit.exit.injEq]
          refine ⟨⟨_, (Option.some.inj H).symm⟩, fun hz => ?_⟩
          have hyy := Sum.inr.inj ((Option.some.inj H).trans hz)
          subst hyy
          have H := Ho11
          try dsimp only at H
          try simp only [↓reduceIte, reduceCtorEq, Exit.exit.injEq]
          refine ⟨(r1, any), H, ?_⟩
          exact weak_b [some 9009, some 9010] rfl rfl (by simp only [wk, ev, ew, tys, tl, ↓reduceIte, reduceCtorEq, Nat.reduceAdd, Nat.reduceMul, Nat.reduceSub, Nat.reduceEqDiff, Nat.reduceLeDiff, Nat.reduceLT, Int.reduceToNat, law36_FlowOrder_s2, law36_FlowOrder_t3, law36_FlowOrder_s1, law36_FlowOrder_t4]) (by simp only [wk, ev, ew, tys, tl, ↓reduceIte, reduceCtorEq, Nat.reduceAdd, Nat.reduceMul, Nat.reduceSub, Nat.reduceEqDiff, Nat.reduceLeDiff, Nat.reduceLT, Int.reduceToNat, law36_FlowOrder_s2, law36_FlowOrder_t3, law36_FlowOrder_s1, law36_FlowOrder_t4])
    · rintro ⟨all, any⟩ H
      try dsimp only at H
      unfold law36_FlowOrder_k2 at H
      refine Sm.seqK fun K8 hK8 => ?_
      obtain ⟨r3, hr3, H⟩ := bind_some H
      obtain ⟨hg9, H⟩ := gd_some H
      refine Sm.regA (Γ := [xflow_Skip n, xlaw36_works n]) h00 mixed hΓ (by kernel_rfl) ?_
      simp only [rs]
      repeat (refine opsG fun K hK => ?_; simp (maxSteps := 2000000) only [ev, ew, tys, tl, ↓reduceIte, reduceCtorEq, Nat.reduceAdd, Nat.reduceMul, Nat.reduceSub, Nat.reduceEqDiff, Nat.reduceLeDiff, Nat.reduceLT, Int.reduceToNat, xflow_Skip, xlaw36_works, law36_FlowOrder_s2, law36_FlowOrder_t3, law36_FlowOrder_s1, law36_FlowOrder_t4, Option.isSome_some, Option.getD_some, hr3]; (repeat (first | refine ⟨by first | with_reducible assumption | omega | (intro hh; (repeat refine ⟨hh, ?_⟩); revert hh; with_reducible assumption), ?_⟩ | refine fun (_ : _ ≤ _) => ?_)); refine hK _ ?_; clear hK K)
      refine opsG0 ?_
      refine hK8 _ ?_
      refine Sm.ret ?_
      try simp only [↓reduceIte, reduceCtorEq, Exit.exit.injEq]
      obtain rfl := Option.some.inj H
      refine Ret.ofR [] (.inr rfl) ?_
      simp (maxSteps := 2000000) only [ev, ew, tys, tl, ↓reduceIte, reduceCtorEq, Nat.reduceAdd, Nat.reduceMul, Nat.reduceSub, Nat.reduceEqDiff, Nat.reduceLeDiff, Nat.reduceLT, Int.reduceToNat, xflow_Skip, xlaw36_works, law36_FlowOrder_s2, law36_FlowOrder_t3, law36_FlowOrder_s1, law36_FlowOrder_t4, Option.isSome_some, Option.getD_some]
      done

abbrev law36_Rest_s1 (a : TDD) (b : TDD) : S := stB [(2, .box 9000 0), (3, .box 9001 0)] [(9000, .box [.c .str (.str a.Name), .c .str (.str a.Dsn), .c .str (.str a.Member), .c (.int .i64) (.int a.Gen), .c .bool (.bool a.HasGen), .c (.int .i64) (.int a.Disp), .c (.int .i64) (.int a.Normal), .c (.int .i64) (.int a.Abend), .c (.int .i64) (.int a.Unit), .c .str (.str a.Vol), .c (.int .i64) (.int a.Tracks), .c (.int .i64) (.int a.More), .c (.int .i64) (.int a.File), .c (.int .i64) (.int a.Dcb.Org), .c (.int .i64) (.int a.Dcb.Format), .c .bool (.bool a.Dcb.Blocked), .c .bool (.bool a.Dcb.Asa), .c (.int .i64) (.int a.Dcb.Lrecl), .c (.int .i64) (.int a.Dcb.Blksize), .c (.int .i64) (.int a.Dcb.KeyLen), .c (.int .i64) (.int a.Dcb.KeyPos), .c .str (.str a.Sysout), .c (.slice 9) (.slice (List.map e_Str a.Instream)), .c .bool (.bool a.HasData), .c .bool (.bool a.Dummy)]), (9001, .box [.c .str (.str b.Name), .c .str (.str b.Dsn), .c .str (.str b.Member), .c (.int .i64) (.int b.Gen), .c .bool (.bool b.HasGen), .c (.int .i64) (.int b.Disp), .c (.int .i64) (.int b.Normal), .c (.int .i64) (.int b.Abend), .c (.int .i64) (.int b.Unit), .c .str (.str b.Vol), .c (.int .i64) (.int b.Tracks), .c (.int .i64) (.int b.More), .c (.int .i64) (.int b.File), .c (.int .i64) (.int b.Dcb.Org), .c (.int .i64) (.int b.Dcb.Format), .c .bool (.bool b.Dcb.Blocked), .c .bool (.bool b.Dcb.Asa), .c (.int .i64) (.int b.Dcb.Lrecl), .c (.int .i64) (.int b.Dcb.Blksize), .c (.int .i64) (.int b.Dcb.KeyLen), .c (.int .i64) (.int b.Dcb.KeyPos), .c .str (.str b.Sysout), .c (.slice 9) (.slice (List.map e_Str b.Instream)), .c .bool (.bool b.HasData), .c .bool (.bool b.Dummy)])]

def law36_Rest_k1 (n : Nat) (a : TDD) (b : TDD) : Option Bool :=
  some (if (if (if (if (if (if (if (if (if (if (if (if (if (a.Name == b.Name) = true then (a.Dsn == b.Dsn) else false) = true then (a.Member == b.Member) else false) = true then (a.Gen == b.Gen) else false) = true then (a.HasGen == b.HasGen) else false) = true then (a.Unit == b.Unit) else false) = true then (a.Vol == b.Vol) else false) = true then (a.Tracks == b.Tracks) else false) = true then (a.More == b.More) else false) = true then (a.File == b.File) else false) = true then ((a.Dcb.Org == b.Dcb.Org) && ((a.Dcb.Format == b.Dcb.Format) && ((a.Dcb.Blocked == b.Dcb.Blocked) && ((a.Dcb.Asa == b.Dcb.Asa) && ((a.Dcb.Lrecl == b.Dcb.Lrecl) && ((a.Dcb.Blksize == b.Dcb.Blksize) && ((a.Dcb.KeyLen == b.Dcb.KeyLen) && (a.Dcb.KeyPos == b.Dcb.KeyPos)))))))) else false) = true then (a.Sysout == b.Sysout) else false) = true then (a.HasData == b.HasData) else false) = true then (a.Dummy == b.Dummy) else false)

abbrev law36_Rest_t2 (a : TDD) (b : TDD) (i : Int) : S := stB [(2, .box 9004 0), (3, .box 9005 0), (5, .c (.int .i64) (.int i))] [(9004, .box [.c .str (.str a.Name), .c .str (.str a.Dsn), .c .str (.str a.Member), .c (.int .i64) (.int a.Gen), .c .bool (.bool a.HasGen), .c (.int .i64) (.int a.Disp), .c (.int .i64) (.int a.Normal), .c (.int .i64) (.int a.Abend), .c (.int .i64) (.int a.Unit), .c .str (.str a.Vol), .c (.int .i64) (.int a.Tracks), .c (.int .i64) (.int a.More), .c (.int .i64) (.int a.File), .c (.int .i64) (.int a.Dcb.Org), .c (.int .i64) (.int a.Dcb.Format), .c .bool (.bool a.Dcb.Blocked), .c .bool (.bool a.Dcb.Asa), .c (.int .i64) (.int a.Dcb.Lrecl), .c (.int .i64) (.int a.Dcb.Blksize), .c (.int .i64) (.int a.Dcb.KeyLen), .c (.int .i64) (.int a.Dcb.KeyPos), .c .str (.str a.Sysout), .c (.slice 9) (.slice (List.map e_Str a.Instream)), .c .bool (.bool a.HasData), .c .bool (.bool a.Dummy)]), (9005, .box [.c .str (.str b.Name), .c .str (.str b.Dsn), .c .str (.str b.Member), .c (.int .i64) (.int b.Gen), .c .bool (.bool b.HasGen), .c (.int .i64) (.int b.Disp), .c (.int .i64) (.int b.Normal), .c (.int .i64) (.int b.Abend), .c (.int .i64) (.int b.Unit), .c .str (.str b.Vol), .c (.int .i64) (.int b.Tracks), .c (.int .i64) (.int b.More), .c (.int .i64) (.int b.File), .c (.int .i64) (.int b.Dcb.Org), .c (.int .i64) (.int b.Dcb.Format), .c .bool (.bool b.Dcb.Blocked), .c .bool (.bool b.Dcb.Asa), .c (.int .i64) (.int b.Dcb.Lrecl), .c (.int .i64) (.int b.Dcb.Blksize), .c (.int .i64) (.int b.Dcb.KeyLen), .c (.int .i64) (.int b.Dcb.KeyPos), .c .str (.str b.Sysout), .c (.slice 9) (.slice (List.map e_Str b.Instream)), .c .bool (.bool b.HasData), .c .bool (.bool b.Dummy)])]

def law36_Rest_b2 (n : Nat) (a : TDD) (b : TDD) (i : Int) : Option ((Int) ⊕ (((Bool) ⊕ (Unit)))) :=
  bif (decide (i < (a.Instream.length : Int))) then
    gd ((0 ≤ i ∧ i < (a.Instream.length : Int)) ∧ (0 ≤ i ∧ i < (b.Instream.length : Int))) <|
    bif ((gt a.Instream (Int.toNat i)) != (gt b.Instream (Int.toNat i))) then
      some (.inr (.inl false))
    else
      some (.inl (IntKind.wrap .i64 (i + 1)))
  else
    some (.inr (.inr ()))

def law36_Rest (n : Nat) (a : TDD) (b : TDD) : Option Bool :=
  bif ((a.Instream.length : Int) != (b.Instream.length : Int)) then
    some false
  else
    (loopF (fun (x : Int) => law36_Rest_b2 n a b x) n 0).bind fun y8 =>
    match y8 with
    | .inl v =>
      some v
    | .inr v =>
      law36_Rest_k1 n a b

def xlaw36_Rest (n : Nat) : Go.AE.Fn := mkFn (A := TDD × TDD) (R := Bool) 19 [(true, [.str, .str, .str, .int .i64, .bool, .int .i64, .int .i64, .int .i64, .int .i64, .str, .int .i64, .int .i64, .int .i64, .int .i64, .int .i64, .bool, .bool, .int .i64, .int .i64, .int .i64, .int .i64, .str, .slice 9, .bool, .bool]), (true, [.str, .str, .str, .int .i64, .bool, .int .i64, .int .i64, .int .i64, .int .i64, .str, .int .i64, .int .i64, .int .i64, .int .i64, .int .i64, .bool, .bool, .int .i64, .int .i64, .int .i64, .int .i64, .str, .slice 9, .bool, .bool])] false (fun xs => ((⟨(cg (xs.getD 0 []) 0).toStr, (cg (xs.getD 0 []) 1).toStr, (cg (xs.getD 0 []) 2).toStr, (cg (xs.getD 0 []) 3).toInt, (cg (xs.getD 0 []) 4).toBool, (cg (xs.getD 0 []) 5).toInt, (cg (xs.getD 0 []) 6).toInt, (cg (xs.getD 0 []) 7).toInt, (cg (xs.getD 0 []) 8).toInt, (cg (xs.getD 0 []) 9).toStr, (cg (xs.getD 0 []) 10).toInt, (cg (xs.getD 0 []) 11).toInt, (cg (xs.getD 0 []) 12).toInt, (⟨(cg (xs.getD 0 []) 13).toInt, (cg (xs.getD 0 []) 14).toInt, (cg (xs.getD 0 []) 15).toBool, (cg (xs.getD 0 []) 16).toBool, (cg (xs.getD 0 []) 17).toInt, (cg (xs.getD 0 []) 18).toInt, (cg (xs.getD 0 []) 19).toInt, (cg (xs.getD 0 []) 20).toInt⟩ : TDcb), (cg (xs.getD 0 []) 21).toStr, ((cg (xs.getD 0 []) 22).toSl.map d_Str), (cg (xs.getD 0 []) 23).toBool, (cg (xs.getD 0 []) 24).toBool⟩ : TDD), (⟨(cg (xs.getD 1 []) 0).toStr, (cg (xs.getD 1 []) 1).toStr, (cg (xs.getD 1 []) 2).toStr, (cg (xs.getD 1 []) 3).toInt, (cg (xs.getD 1 []) 4).toBool, (cg (xs.getD 1 []) 5).toInt, (cg (xs.getD 1 []) 6).toInt, (cg (xs.getD 1 []) 7).toInt, (cg (xs.getD 1 []) 8).toInt, (cg (xs.getD 1 []) 9).toStr, (cg (xs.getD 1 []) 10).toInt, (cg (xs.getD 1 []) 11).toInt, (cg (xs.getD 1 []) 12).toInt, (⟨(cg (xs.getD 1 []) 13).toInt, (cg (xs.getD 1 []) 14).toInt, (cg (xs.getD 1 []) 15).toBool, (cg (xs.getD 1 []) 16).toBool, (cg (xs.getD 1 []) 17).toInt, (cg (xs.getD 1 []) 18).toInt, (cg (xs.getD 1 []) 19).toInt, (cg (xs.getD 1 []) 20).toInt⟩ : TDcb), (cg (xs.getD 1 []) 21).toStr, ((cg (xs.getD 1 []) 22).toSl.map d_Str), (cg (xs.getD 1 []) 23).toBool, (cg (xs.getD 1 []) 24).toBool⟩ : TDD))) (fun a => [[.str a.1.Name, .str a.1.Dsn, .str a.1.Member, .int a.1.Gen, .bool a.1.HasGen, .int a.1.Disp, .int a.1.Normal, .int a.1.Abend, .int a.1.Unit, .str a.1.Vol, .int a.1.Tracks, .int a.1.More, .int a.1.File, .int a.1.Dcb.Org, .int a.1.Dcb.Format, .bool a.1.Dcb.Blocked, .bool a.1.Dcb.Asa, .int a.1.Dcb.Lrecl, .int a.1.Dcb.Blksize, .int a.1.Dcb.KeyLen, .int a.1.Dcb.KeyPos, .str a.1.Sysout, .slice (List.map e_Str a.1.Instream), .bool a.1.HasData, .bool a.1.Dummy], [.str a.2.Name, .str a.2.Dsn, .str a.2.Member, .int a.2.Gen, .bool a.2.HasGen, .int a.2.Disp, .int a.2.Normal, .int a.2.Abend, .int a.2.Unit, .str a.2.Vol, .int a.2.Tracks, .int a.2.More, .int a.2.File, .int a.2.Dcb.Org, .int a.2.Dcb.Format, .bool a.2.Dcb.Blocked, .bool a.2.Dcb.Asa, .int a.2.Dcb.Lrecl, .int a.2.Dcb.Blksize, .int a.2.Dcb.KeyLen, .int a.2.Dcb.KeyPos, .str a.2.Sysout, .slice (List.map e_Str a.2.Instream), .bool a.2.HasData, .bool a.2.Dummy]]) (fun a => law36_Rest n a.1 a.2) (fun r => [.c .bool (.bool r)]) (fun r => [])

theorem claw36_Rest (n : Nat) : Contract Try.prog (xlaw36_Rest n) := by
  have hΓ : ∀ g, g ∈ ([] : List Go.AE.Fn) → Contract Try.prog g := by simp
  refine contract_f (Try.f19.body.getD .skip) h00 Try.func19 rfl (by intro args w; exact Try.call19 args w) (by decide) (by intro _ r; exact ⟨rfl, by simp⟩) ?_
  rintro ⟨a, b⟩ r H
  try dsimp only at H
  unfold law36_Rest at H
  simp only [Try.f19, Option.getD]
  refine Sm.seqK fun K1 hK1 => ?_
  refine Sm.regA (Γ := []) h00 mixed hΓ (by kernel_rfl) ?_
  simp only [rs]
  repeat (refine opsG fun K hK => ?_; simp (maxSteps := 2000000) only [ev, ew, tys, tl, ↓reduceIte, reduceCtorEq, Nat.reduceAdd, Nat.reduceMul, Nat.reduceSub, Nat.reduceEqDiff, Nat.reduceLeDiff, Nat.reduceLT, Int.reduceToNat, law36_Rest_s1, law36_Rest_t2, Option.isSome_some, Option.getD_some]; (repeat (first | refine ⟨by first | with_reducible assumption | omega | (intro hh; (repeat refine ⟨hh, ?_⟩); revert hh; with_reducible assumption), ?_⟩ | refine fun (_ : _ ≤ _) => ?_)); refine hK _ ?_; clear hK K)
  refine opsG0 ?_
  refine hK1 _ ?_
  refine Sm.seqK fun K2 hK2 => ?_
  refine Sm.seqK fun K3 hK3 => ?_
  refine Sm.regA (Γ := []) h00 mixed hΓ (by kernel_rfl) ?_
  simp only [rs]
  repeat (refine opsG fun K hK => ?_; simp (maxSteps := 2000000) only [ev, ew, tys, tl, ↓reduceIte, reduceCtorEq, Nat.reduceAdd, Nat.reduceMul, Nat.reduceSub, Nat.reduceEqDiff, Nat.reduceLeDiff, Nat.reduceLT, Int.reduceToNat, law36_Rest_s1, law36_Rest_t2, Option.isSome_some, Option.getD_some]; (repeat (first | refine ⟨by first | with_reducible assumption | omega | (intro hh; (repeat refine ⟨hh, ?_⟩); revert hh; with_reducible assumption), ?_⟩ | refine fun (_ : _ ≤ _) => ?_)); refine hK _ ?_; clear hK K)
  refine opsG0 ?_
  refine hK3 _ ?_
  refine Sm.condK (by rfl) fun Ka Kb ha hb => ?_
  simp only [wpCond, ev, ew, tys, tl, ↓reduceIte, reduceCtorEq, Nat.reduceAdd, Nat.reduceMul, Nat.reduceSub, Nat.reduceEqDiff, Nat.reduceLeDiff, Nat.reduceLT, Int.reduceToNat, law36_Rest_s1, law36_Rest_t2, Option.isSome_some, Option.getD_some]
  refine ⟨fun h4 => ha ?_, fun h4 => hb ?_⟩
  · replace H := bif_t h4 H
    refine Sm.seqK fun K5 hK5 => ?_
    refine Sm.regA (Γ := []) h00 mixed hΓ (by kernel_rfl) ?_
    simp only [rs]
    repeat (refine opsG fun K hK => ?_; simp (maxSteps := 2000000) only [ev, ew, tys, tl, ↓reduceIte, reduceCtorEq, Nat.reduceAdd, Nat.reduceMul, Nat.reduceSub, Nat.reduceEqDiff, Nat.reduceLeDiff, Nat.reduceLT, Int.reduceToNat, law36_Rest_s1, law36_Rest_t2, Option.isSome_some, Option.getD_some]; (repeat (first | refine ⟨by first | with_reducible assumption | omega | (intro hh; (repeat refine ⟨hh, ?_⟩); revert hh; with_reducible assumption), ?_⟩ | refine fun (_ : _ ≤ _) => ?_)); refine hK _ ?_; clear hK K)
    refine opsG0 ?_
    refine hK5 _ ?_
    refine Sm.ret ?_
    try simp only [↓reduceIte, reduceCtorEq, Exit.exit.injEq]
    obtain rfl := Option.some.inj H
    refine Ret.ofR [] (.inr rfl) ?_
    simp (maxSteps := 2000000) only [ev, ew, tys, tl, ↓reduceIte, reduceCtorEq, Nat.reduceAdd, Nat.reduceMul, Nat.reduceSub, Nat.reduceEqDiff, Nat.reduceLeDiff, Nat.reduceLT, Int.reduceToNat, law36_Rest_s1, law36_Rest_t2, Option.isSome_some, Option.getD_some]
    done
  · replace H := bif_f h4 H
    refine Sm.skip ?_
    refine hK2 _ ?_
    refine Sm.cut (fun (x : Unit) => law36_Rest_s1 a b) (fun x => law36_Rest_k1 n a b = some r) ?_ ?_
    · refine Sm.seqK fun K7 hK7 => ?_
      refine Sm.regA (Γ := []) h00 mixed hΓ (by kernel_rfl) ?_
      simp only [rs]
      repeat (refine opsG fun K hK => ?_; simp (maxSteps := 2000000) only [ev, ew, tys, tl, ↓reduceIte, reduceCtorEq, Nat.reduceAdd, Nat.reduceMul, Nat.reduceSub, Nat.reduceEqDiff, Nat.reduceLeDiff, Nat.reduceLT, Int.reduceToNat, law36_Rest_s1, law36_Rest_t2, Option.isSome_some, Option.getD_some]; (repeat (first | refine ⟨by first | with_reducible assumption | omega | (intro hh; (repeat refine ⟨hh, ?_⟩); revert hh; with_reducible assumption), ?_⟩ | refine fun (_ : _ ≤ _) => ?_)); refine hK _ ?_; clear hK K)
      refine opsG0 ?_
      refine hK7 _ ?_
      refine Sm.block ?_
      obtain ⟨y8, hy8, Ho8⟩ := bind_some H
      refine Sm.loopB (fun (x : Int) => law36_Rest_b2 n a b x) (fun x => law36_Rest_t2 a b x) hy8 ?_ ?_
      · exact weak_b [some 32, some 48] rfl rfl (by simp only [wk, ev, ew, tys, tl, ↓reduceIte, reduceCtorEq, Nat.reduceAdd, Nat.reduceMul, Nat.reduceSub, Nat.reduceEqDiff, Nat.reduceLeDiff, Nat.reduceLT, Int.reduceToNat, law36_Rest_s1, law36_Rest_t2]) (by simp only [wk, ev, ew, tys, tl, ↓reduceIte, reduceCtorEq, Nat.reduceAdd, Nat.reduceMul, Nat.reduceSub, Nat.reduceEqDiff, Nat.reduceLeDiff, Nat.reduceLT, Int.reduceToNat, law36_Rest_s1, law36_Rest_t2])
      · rintro i z8 H
        try dsimp only at H
        unfold law36_Rest_b2 at H
        refine Sm.seqK fun K9 hK9 => ?_
        refine Sm.seqK fun K10 hK10 => ?_
        refine Sm.regA (Γ := []) h00 mixed hΓ (by kernel_rfl) ?_
        simp only [rs]
        repeat (refine opsG fun K hK => ?_; simp (maxSteps := 2000000) only [ev, ew, tys, tl, ↓reduceIte, reduceCtorEq, Nat.reduceAdd, Nat.reduceMul, Nat.reduceSub, Nat.reduceEqDiff, Nat.reduceLeDiff, Nat.reduceLT, Int.reduceToNat, law36_Rest_s1, law36_Rest_t2, Option.isSome_some, Option.getD_some]; (repeat (first | refine ⟨by first | with_reducible assumption | omega | (intro hh; (repeat refine ⟨hh, ?_⟩); revert hh; with_reducible assumption), ?_⟩ | refine fun (_ : _ ≤ _) => ?_)); refine hK _ ?_; clear hK K)
        refine opsG0 ?_
        refine hK10 _ ?_
        refine Sm.condK (by rfl) fun Ka Kb ha hb => ?_
        simp only [wpCond, ev, ew, tys, tl, ↓reduceIte, reduceCtorEq, Nat.reduceAdd, Nat.reduceMul, Nat.reduceSub, Nat.reduceEqDiff, Nat.reduceLeDiff, Nat.reduceLT, Int.reduceToNat, law36_Rest_s1, law36_Rest_t2, Option.isSome_some, Option.getD_some]
        refine ⟨fun h11 => ha ?_, fun h11 => hb ?_⟩
        · replace H := bif_t h11 H
          refine Sm.skip ?_
          refine hK9 _ ?_
          refine Sm.seqK fun K12 hK12 => ?_
          refine Sm.block ?_
          refine Sm.seqK fun K13 hK13 => ?_
          obtain ⟨⟨hg16, hg17⟩, H⟩ := gd_some H
          refine Sm.regD (Γ := []) h00 mixed hΓ (by kernel_rfl) ?_
          simp only [rs]
          repeat (refine opsH fun K hK => ?_; simp (maxSteps := 2000000) only [ev, ew, tys, tl, ↓reduceIte, reduceCtorEq, Nat.reduceAdd, Nat.reduceMul, Nat.reduceSub, Nat.reduceEqDiff, Nat.reduceLeDiff, Nat.reduceLT, Int.reduceToNat, law36_Rest_s1, law36_Rest_t2, Option.isSome_some, Option.getD_some]; (repeat (first | refine ⟨by first | with_reducible assumption | omega | (intro hh; (repeat refine ⟨hh, ?_⟩); revert hh; with_reducible assumption), ?_⟩ | refine fun (_ : _ ≤ _) => ?_)); refine hK _ ?_; clear hK K)
          refine opsH0 ?_
          refine hK13 _ ?_
          refine Sm.condK (by rfl) fun Ka Kb ha hb => ?_
          simp only [wpCond, ev, ew, tys, tl, ↓reduceIte, reduceCtorEq, Nat.reduceAdd, Nat.reduceMul, Nat.reduceSub, Nat.reduceEqDiff, Nat.reduceLeDiff, Nat.reduceLT, Int.reduceToNat, law36_Rest_s1, law36_Rest_t2, Option.isSome_some, Option.getD_some]
          refine ⟨fun h14 => ha ?_, fun h14 => hb ?_⟩
          · replace H := bif_t h14 H
            refine Sm.seqK fun K15 hK15 => ?_
            refine Sm.regA (Γ := []) h00 mixed hΓ (by kernel_rfl) ?_
            simp only [rs]
            repeat (refine opsG fun K hK => ?_; simp (maxSteps := 2000000) only [ev, ew, tys, tl, ↓reduceIte, reduceCtorEq, Nat.reduceAdd, Nat.reduceMul, Nat.reduceSub, Nat.reduceEqDiff, Nat.reduceLeDiff, Nat.reduceLT, Int.reduceToNat, law36_Rest_s1, law36_Rest_t2, Option.isSome_some, Option.getD_some]; (repeat (first | refine ⟨by first | with_reducible assumption | omega | (intro hh; (repeat refine ⟨hh, ?_⟩); revert hh; with_reducible assumption), ?_⟩ | refine fun (_ : _ ≤ _) => ?_)); refine hK _ ?_; clear hK K)
            refine opsG0 ?_
            refine hK15 _ ?_
            refine Sm.ret ?_
            try simp only [↓reduceIte, reduceCtorEq, Exit.exit.injEq]
            refine ⟨⟨_, (Option.some.inj H).symm⟩, fun hz => ?_⟩
            have hyy := Sum.inr.inj ((Option.some.inj H).trans hz)
            subst hyy
            have H := Ho8
            try dsimp only at H
            try simp only [↓reduceIte, reduceCtorEq, Exit.exit.injEq]
            obtain rfl := Option.some.inj H
            refine Ret.ofR [] (.inr rfl) ?_
            simp (maxSteps := 2000000) only [ev, ew, tys, tl, ↓reduceIte, reduceCtorEq, Nat.reduceAdd, Nat.reduceMul, Nat.reduceSub, Nat.reduceEqDiff, Nat.reduceLeDiff, Nat.reduceLT, Int.reduceToNat, law36_Rest_s1, law36_Rest_t2, Option.isSome_some, Option.getD_some]
            done
          · replace H := bif_f h14 H
            refine Sm.skip ?_
            refine hK12 _ ?_
            refine Sm.regA (Γ := []) h00 mixed hΓ (by kernel_rfl) ?_
            simp only [rs]
            repeat (refine opsG fun K hK => ?_; simp (maxSteps := 2000000) only [ev, ew, tys, tl, ↓reduceIte, reduceCtorEq, Nat.reduceAdd, Nat.reduceMul, Nat.reduceSub, Nat.reduceEqDiff, Nat.reduceLeDiff, Nat.reduceLT, Int.reduceToNat, law36_Rest_s1, law36_Rest_t2, Option.isSome_some, Option.getD_some]; (repeat (first | refine ⟨by first | with_reducible assumption | omega | (intro hh; (repeat refine ⟨hh, ?_⟩); revert hh; with_reducible assumption), ?_⟩ | refine fun (_ : _ ≤ _) => ?_)); refine hK _ ?_; clear hK K)
            refine opsG0 ?_
            try simp only [↓reduceIte, reduceCtorEq, Exit.exit.injEq]
            refine ⟨_, (Option.some.inj H).symm, ?_⟩
            exact weak_b [some 9004, some 9005] rfl rfl (by simp only [wk, ev, ew, tys, tl, ↓reduceIte, reduceCtorEq, Nat.reduceAdd, Nat.reduceMul, Nat.reduceSub, Nat.reduceEqDiff, Nat.reduceLeDiff, Nat.reduceLT, Int.reduceToNat, law36_Rest_s1, law36_Rest_t2]) (by simp only [wk, ev, ew, tys, tl, ↓reduceIte, reduceCtorEq, Nat.reduceAdd, Nat.reduceMul, Nat.reduceSub, Nat.reduceEqDiff, Nat.reduceLeDiff, Nat.reduceLT, Int.reduceToNat, law36_Rest_s1, law36_Rest_t2])
        · replace H := bif_f h11 H
          refine Sm.exit ?_
          try simp only [↓reduceIte, reduceCtorEq, Exit.exit.injEq]
          refine ⟨⟨_, (Option.some.inj H).symm⟩, fun hz => ?_⟩
          have hyy := Sum.inr.inj ((Option.some.inj H).trans hz)
          subst hyy
          have H := Ho8
          try dsimp only at H
          try simp only [↓reduceIte, reduceCtorEq, Exit.exit.injEq]
          refine ⟨(), H, ?_⟩
          exact weak_b [some 9004, some 9005] rfl rfl (by simp only [wk, ev, ew, tys, tl, ↓reduceIte, reduceCtorEq, Nat.reduceAdd, Nat.reduceMul, Nat.reduceSub, Nat.reduceEqDiff, Nat.reduceLeDiff, Nat.reduceLT, Int.reduceToNat, law36_Rest_s1, law36_Rest_t2]) (by simp only [wk, ev, ew, tys, tl, ↓reduceIte, reduceCtorEq, Nat.reduceAdd, Nat.reduceMul, Nat.reduceSub, Nat.reduceEqDiff, Nat.reduceLeDiff, Nat.reduceLT, Int.reduceToNat, law36_Rest_s1, law36_Rest_t2])
    · rintro ⟨⟩ H
      try dsimp only at H
      unfold law36_Rest_k1 at H
      refine Sm.seqK fun K6 hK6 => ?_
      refine Sm.regA (Γ := []) h00 mixed hΓ (by kernel_rfl) ?_
      simp only [rs]
      repeat (refine opsG fun K hK => ?_; simp (maxSteps := 2000000) only [ev, ew, tys, tl, ↓reduceIte, reduceCtorEq, Nat.reduceAdd, Nat.reduceMul, Nat.reduceSub, Nat.reduceEqDiff, Nat.reduceLeDiff, Nat.reduceLT, Int.reduceToNat, law36_Rest_s1, law36_Rest_t2, Option.isSome_some, Option.getD_some]; (repeat (first | refine ⟨by first | with_reducible assumption | omega | (intro hh; (repeat refine ⟨hh, ?_⟩); revert hh; with_reducible assumption), ?_⟩ | refine fun (_ : _ ≤ _) => ?_)); refine hK _ ?_; clear hK K)
      refine opsG0 ?_
      refine hK6 _ ?_
      refine Sm.ret ?_
      try simp only [↓reduceIte, reduceCtorEq, Exit.exit.injEq]
      obtain rfl := Option.some.inj H
      refine Ret.ofR [] (.inr rfl) ?_
      simp (maxSteps := 2000000) only [ev, ew, tys, tl, ↓reduceIte, reduceCtorEq, Nat.reduceAdd, Nat.reduceMul, Nat.reduceSub, Nat.reduceEqDiff, Nat.reduceLeDiff, Nat.reduceLT, Int.reduceToNat, law36_Rest_s1, law36_Rest_t2, Option.isSome_some, Option.getD_some]
      done

def law36_FlowTwice (n : Nat) (d : TDD) : Option Bool :=
  (flow_Default n d).bind fun r1 =>
  (flow_Default n r1).bind fun r2 =>
  gd (((if (if (if (if (if (r1.Disp != 0) = true then (r1.Normal != 0) else false) = true then (r1.Abend != 0) else false) = true then (r1.Disp == r2.Disp) else false) = true then (r1.Normal == r2.Normal) else false) = true then (r1.Abend == r2.Abend) else false) = true → (law36_Rest n r1 r2).isSome = true) ∧ ((if (if (if (if (if (if (r1.Disp != 0) = true then (r1.Normal != 0) else false) = true then (r1.Abend != 0) else false) = true then (r1.Disp == r2.Disp) else false) = true then (r1.Normal == r2.Normal) else false) = true then (r1.Abend == r2.Abend) else false) = true then ((law36_Rest n r1 r2).getD default) else false) = true → (law36_works n).isSome = true)) <|
  some (if (if (if (if (if (if (if (r1.Disp != 0) = true then (r1.Normal != 0) else false) = true then (r1.Abend != 0) else false) = true then (r1.Disp == r2.Disp) else false) = true then (r1.Normal == r2.Normal) else false) = true then (r1.Abend == r2.Abend) else false) = true then ((law36_Rest n r1 r2).getD default) else false) = true then ((law36_works n).getD default) else false)

def xlaw36_FlowTwice (n : Nat) : Go.AE.Fn := mkFn (A := TDD) (R := Bool) 7 [(true, [.str, .str, .str, .int .i64, .bool, .int .i64, .int .i64, .int .i64, .int .i64, .str, .int .i64, .int .i64, .int .i64, .int .i64, .int .i64, .bool, .bool, .int .i64, .int .i64, .int .i64, .int .i64, .str, .slice 9, .bool, .bool])] false (fun xs => (⟨(cg (xs.getD 0 []) 0).toStr, (cg (xs.getD 0 []) 1).toStr, (cg (xs.getD 0 []) 2).toStr, (cg (xs.getD 0 []) 3).toInt, (cg (xs.getD 0 []) 4).toBool, (cg (xs.getD 0 []) 5).toInt, (cg (xs.getD 0 []) 6).toInt, (cg (xs.getD 0 []) 7).toInt, (cg (xs.getD 0 []) 8).toInt, (cg (xs.getD 0 []) 9).toStr, (cg (xs.getD 0 []) 10).toInt, (cg (xs.getD 0 []) 11).toInt, (cg (xs.getD 0 []) 12).toInt, (⟨(cg (xs.getD 0 []) 13).toInt, (cg (xs.getD 0 []) 14).toInt, (cg (xs.getD 0 []) 15).toBool, (cg (xs.getD 0 []) 16).toBool, (cg (xs.getD 0 []) 17).toInt, (cg (xs.getD 0 []) 18).toInt, (cg (xs.getD 0 []) 19).toInt, (cg (xs.getD 0 []) 20).toInt⟩ : TDcb), (cg (xs.getD 0 []) 21).toStr, ((cg (xs.getD 0 []) 22).toSl.map d_Str), (cg (xs.getD 0 []) 23).toBool, (cg (xs.getD 0 []) 24).toBool⟩ : TDD)) (fun a => [[.str a.Name, .str a.Dsn, .str a.Member, .int a.Gen, .bool a.HasGen, .int a.Disp, .int a.Normal, .int a.Abend, .int a.Unit, .str a.Vol, .int a.Tracks, .int a.More, .int a.File, .int a.Dcb.Org, .int a.Dcb.Format, .bool a.Dcb.Blocked, .bool a.Dcb.Asa, .int a.Dcb.Lrecl, .int a.Dcb.Blksize, .int a.Dcb.KeyLen, .int a.Dcb.KeyPos, .str a.Sysout, .slice (List.map e_Str a.Instream), .bool a.HasData, .bool a.Dummy]]) (fun a => law36_FlowTwice n a) (fun r => [.c .bool (.bool r)]) (fun r => [])

theorem claw36_FlowTwice (n : Nat) : Contract Try.prog (xlaw36_FlowTwice n) := by
  have hΓ : ∀ g, g ∈ ([xflow_Default n, xlaw36_Rest n, xlaw36_works n] : List Go.AE.Fn) → Contract Try.prog g := by
    intro g hg; simp only [List.mem_cons, List.not_mem_nil, or_false] at hg; rcases hg with rfl | rfl | rfl; exact cflow_Default n; exact claw36_Rest n; exact claw36_works n
  refine contract_f (Try.f7.body.getD .skip) h00 Try.func7 rfl (by intro args w; exact Try.call7 args w) (by decide) (by intro _ r; exact ⟨rfl, by simp⟩) ?_
  rintro d r H
  try dsimp only at H
  unfold law36_FlowTwice at H
  simp only [Try.f7, Option.getD]
  refine Sm.seqK fun K1 hK1 => ?_
  refine Sm.regA (Γ := [xflow_Default n, xlaw36_Rest n, xlaw36_works n]) h00 mixed hΓ (by kernel_rfl) ?_
  simp only [rs]
  repeat (refine opsG fun K hK => ?_; simp (maxSteps := 2000000) only [ev, ew, tys, tl, ↓reduceIte, reduceCtorEq, Nat.reduceAdd, Nat.reduceMul, Nat.reduceSub, Nat.reduceEqDiff, Nat.reduceLeDiff, Nat.reduceLT, Int.reduceToNat, xflow_Default, xlaw36_Rest, xlaw36_works, Option.isSome_some, Option.getD_some]; (repeat (first | refine ⟨by first | with_reducible assumption | omega | (intro hh; (repeat refine ⟨hh, ?_⟩); revert hh; with_reducible assumption), ?_⟩ | refine fun (_ : _ ≤ _) => ?_)); refine hK _ ?_; clear hK K)
  refine opsG0 ?_
  refine hK1 _ ?_
  refine Sm.seqK fun K2 hK2 => ?_
  obtain ⟨r1, hr1, H⟩ := bind_some H
  refine Sm.regA (Γ := [xflow_Default n, xlaw36_Rest n, xlaw36_works n]) h00 mixed hΓ (by kernel_rfl) ?_
  simp only [rs]
  repeat (refine opsG fun K hK => ?_; simp (maxSteps := 2000000) only [ev, ew, tys, tl, ↓reduceIte, reduceCtorEq, Nat.reduceAdd, Nat.reduceMul, Nat.reduceSub, Nat.reduceEqDiff, Nat.reduceLeDiff, Nat.reduceLT, Int.reduceToNat, xflow_Default, xlaw36_Rest, xlaw36_works, Option.isSome_some, Option.getD_some, hr1]; (repeat (first | refine ⟨by first | with_reducible assumption | omega | (intro hh; (repeat refine ⟨hh, ?_⟩); revert hh; with_reducible assumption), ?_⟩ | refine fun (_ : _ ≤ _) => ?_)); refine hK _ ?_; clear hK K)
  refine opsG0 ?_
  refine hK2 _ ?_
  refine Sm.seqK fun K3 hK3 => ?_
  obtain ⟨r2, hr2, H⟩ := bind_some H
  refine Sm.regA (Γ := [xflow_Default n, xlaw36_Rest n, xlaw36_works n]) h00 mixed hΓ (by kernel_rfl) ?_
  simp only [rs]
  repeat (refine opsG fun K hK => ?_; simp (maxSteps := 2000000) only [ev, ew, tys, tl, ↓reduceIte, reduceCtorEq, Nat.reduceAdd, Nat.reduceMul, Nat.reduceSub, Nat.reduceEqDiff, Nat.reduceLeDiff, Nat.reduceLT, Int.reduceToNat, xflow_Default, xlaw36_Rest, xlaw36_works, Option.isSome_some, Option.getD_some, hr2]; (repeat (first | refine ⟨by first | with_reducible assumption | omega | (intro hh; (repeat refine ⟨hh, ?_⟩); revert hh; with_reducible assumption), ?_⟩ | refine fun (_ : _ ≤ _) => ?_)); refine hK _ ?_; clear hK K)
  refine opsG0 ?_
  refine hK3 _ ?_
  refine Sm.seqK fun K4 hK4 => ?_
  obtain ⟨⟨hg5, hg6⟩, H⟩ := gd_some H
  refine Sm.regA (Γ := [xflow_Default n, xlaw36_Rest n, xlaw36_works n]) h00 mixed hΓ (by kernel_rfl) ?_
  simp only [rs]
  repeat (refine opsG fun K hK => ?_; simp (maxSteps := 2000000) only [ev, ew, tys, tl, ↓reduceIte, reduceCtorEq, Nat.reduceAdd, Nat.reduceMul, Nat.reduceSub, Nat.reduceEqDiff, Nat.reduceLeDiff, Nat.reduceLT, Int.reduceToNat, xflow_Default, xlaw36_Rest, xlaw36_works, Option.isSome_some, Option.getD_some]; (repeat (first | refine ⟨by first | with_reducible assumption | omega | (intro hh; (repeat refine ⟨hh, ?_⟩); revert hh; with_reducible assumption), ?_⟩ | refine fun (_ : _ ≤ _) => ?_)); refine hK _ ?_; clear hK K)
  refine opsG0 ?_
  refine hK4 _ ?_
  refine Sm.ret ?_
  try simp only [↓reduceIte, reduceCtorEq, Exit.exit.injEq]
  obtain rfl := Option.some.inj H
  refine Ret.ofR [] (.inr rfl) ?_
  simp (maxSteps := 2000000) only [ev, ew, tys, tl, ↓reduceIte, reduceCtorEq, Nat.reduceAdd, Nat.reduceMul, Nat.reduceSub, Nat.reduceEqDiff, Nat.reduceLeDiff, Nat.reduceLT, Int.reduceToNat, xflow_Default, xlaw36_Rest, xlaw36_works, Option.isSome_some, Option.getD_some]
  done

def flow_Exclusive (n : Nat) (d : TDD) : Option Bool :=
  (flow_named n d).bind fun r1 =>
  some (if r1 = true then (d.Disp != 3) else false)

def xflow_Exclusive (n : Nat) : Go.AE.Fn := mkFn (A := TDD) (R := Bool) 21 [(true, [.str, .str, .str, .int .i64, .bool, .int .i64, .int .i64, .int .i64, .int .i64, .str, .int .i64, .int .i64, .int .i64, .int .i64, .int .i64, .bool, .bool, .int .i64, .int .i64, .int .i64, .int .i64, .str, .slice 9, .bool, .bool])] false (fun xs => (⟨(cg (xs.getD 0 []) 0).toStr, (cg (xs.getD 0 []) 1).toStr, (cg (xs.getD 0 []) 2).toStr, (cg (xs.getD 0 []) 3).toInt, (cg (xs.getD 0 []) 4).toBool, (cg (xs.getD 0 []) 5).toInt, (cg (xs.getD 0 []) 6).toInt, (cg (xs.getD 0 []) 7).toInt, (cg (xs.getD 0 []) 8).toInt, (cg (xs.getD 0 []) 9).toStr, (cg (xs.getD 0 []) 10).toInt, (cg (xs.getD 0 []) 11).toInt, (cg (xs.getD 0 []) 12).toInt, (⟨(cg (xs.getD 0 []) 13).toInt, (cg (xs.getD 0 []) 14).toInt, (cg (xs.getD 0 []) 15).toBool, (cg (xs.getD 0 []) 16).toBool, (cg (xs.getD 0 []) 17).toInt, (cg (xs.getD 0 []) 18).toInt, (cg (xs.getD 0 []) 19).toInt, (cg (xs.getD 0 []) 20).toInt⟩ : TDcb), (cg (xs.getD 0 []) 21).toStr, ((cg (xs.getD 0 []) 22).toSl.map d_Str), (cg (xs.getD 0 []) 23).toBool, (cg (xs.getD 0 []) 24).toBool⟩ : TDD)) (fun a => [[.str a.Name, .str a.Dsn, .str a.Member, .int a.Gen, .bool a.HasGen, .int a.Disp, .int a.Normal, .int a.Abend, .int a.Unit, .str a.Vol, .int a.Tracks, .int a.More, .int a.File, .int a.Dcb.Org, .int a.Dcb.Format, .bool a.Dcb.Blocked, .bool a.Dcb.Asa, .int a.Dcb.Lrecl, .int a.Dcb.Blksize, .int a.Dcb.KeyLen, .int a.Dcb.KeyPos, .str a.Sysout, .slice (List.map e_Str a.Instream), .bool a.HasData, .bool a.Dummy]]) (fun a => flow_Exclusive n a) (fun r => [.c .bool (.bool r)]) (fun r => [])

theorem cflow_Exclusive (n : Nat) : Contract Try.prog (xflow_Exclusive n) := by
  have hΓ : ∀ g, g ∈ ([xflow_named n] : List Go.AE.Fn) → Contract Try.prog g := by
    intro g hg; simp only [List.mem_cons, List.not_mem_nil, or_false] at hg; subst hg; exact cflow_named n
  refine contract_f (Try.f21.body.getD .skip) h00 Try.func21 rfl (by intro args w; exact Try.call21 args w) (by decide) (by intro _ r; exact ⟨rfl, by simp⟩) ?_
  rintro d r H
  try dsimp only at H
  unfold flow_Exclusive at H
  simp only [Try.f21, Option.getD]
  refine Sm.seqK fun K1 hK1 => ?_
  refine Sm.regA (Γ := [xflow_named n]) h00 mixed hΓ (by kernel_rfl) ?_
  simp only [rs]
  repeat (refine opsG fun K hK => ?_; simp (maxSteps := 2000000) only [ev, ew, tys, tl, ↓reduceIte, reduceCtorEq, Nat.reduceAdd, Nat.reduceMul, Nat.reduceSub, Nat.reduceEqDiff, Nat.reduceLeDiff, Nat.reduceLT, Int.reduceToNat, xflow_named, Option.isSome_some, Option.getD_some]; (repeat (first | refine ⟨by first | with_reducible assumption | omega | (intro hh; (repeat refine ⟨hh, ?_⟩); revert hh; with_reducible assumption), ?_⟩ | refine fun (_ : _ ≤ _) => ?_)); refine hK _ ?_; clear hK K)
  refine opsG0 ?_
  refine hK1 _ ?_
  refine Sm.seqK fun K2 hK2 => ?_
  obtain ⟨r1, hr1, H⟩ := bind_some H
  refine Sm.regA (Γ := [xflow_named n]) h00 mixed hΓ (by kernel_rfl) ?_
  simp only [rs]
  repeat (refine opsG fun K hK => ?_; simp (maxSteps := 2000000) only [ev, ew, tys, tl, ↓reduceIte, reduceCtorEq, Nat.reduceAdd, Nat.reduceMul, Nat.reduceSub, Nat.reduceEqDiff, Nat.reduceLeDiff, Nat.reduceLT, Int.reduceToNat, xflow_named, Option.isSome_some, Option.getD_some, hr1]; (repeat (first | refine ⟨by first | with_reducible assumption | omega | (intro hh; (repeat refine ⟨hh, ?_⟩); revert hh; with_reducible assumption), ?_⟩ | refine fun (_ : _ ≤ _) => ?_)); refine hK _ ?_; clear hK K)
  refine opsG0 ?_
  refine hK2 _ ?_
  refine Sm.ret ?_
  try simp only [↓reduceIte, reduceCtorEq, Exit.exit.injEq]
  obtain rfl := Option.some.inj H
  refine Ret.ofR [] (.inr rfl) ?_
  simp (maxSteps := 2000000) only [ev, ew, tys, tl, ↓reduceIte, reduceCtorEq, Nat.reduceAdd, Nat.reduceMul, Nat.reduceSub, Nat.reduceEqDiff, Nat.reduceLeDiff, Nat.reduceLT, Int.reduceToNat, xflow_named, Option.isSome_some, Option.getD_some]
  done

def ref36_Exclusive (n : Nat) (d : TDD) : Option Bool :=
  (ref36_Dispositions n d.Disp d.Normal d.Abend).bind fun r1 =>
  (ref36_Named n d).bind fun r2 =>
  some (if r2 = true then (r1.1 != 3) else false)

def xref36_Exclusive (n : Nat) : Go.AE.Fn := mkFn (A := TDD) (R := Bool) 22 [(true, [.str, .str, .str, .int .i64, .bool, .int .i64, .int .i64, .int .i64, .int .i64, .str, .int .i64, .int .i64, .int .i64, .int .i64, .int .i64, .bool, .bool, .int .i64, .int .i64, .int .i64, .int .i64, .str, .slice 9, .bool, .bool])] false (fun xs => (⟨(cg (xs.getD 0 []) 0).toStr, (cg (xs.getD 0 []) 1).toStr, (cg (xs.getD 0 []) 2).toStr, (cg (xs.getD 0 []) 3).toInt, (cg (xs.getD 0 []) 4).toBool, (cg (xs.getD 0 []) 5).toInt, (cg (xs.getD 0 []) 6).toInt, (cg (xs.getD 0 []) 7).toInt, (cg (xs.getD 0 []) 8).toInt, (cg (xs.getD 0 []) 9).toStr, (cg (xs.getD 0 []) 10).toInt, (cg (xs.getD 0 []) 11).toInt, (cg (xs.getD 0 []) 12).toInt, (⟨(cg (xs.getD 0 []) 13).toInt, (cg (xs.getD 0 []) 14).toInt, (cg (xs.getD 0 []) 15).toBool, (cg (xs.getD 0 []) 16).toBool, (cg (xs.getD 0 []) 17).toInt, (cg (xs.getD 0 []) 18).toInt, (cg (xs.getD 0 []) 19).toInt, (cg (xs.getD 0 []) 20).toInt⟩ : TDcb), (cg (xs.getD 0 []) 21).toStr, ((cg (xs.getD 0 []) 22).toSl.map d_Str), (cg (xs.getD 0 []) 23).toBool, (cg (xs.getD 0 []) 24).toBool⟩ : TDD)) (fun a => [[.str a.Name, .str a.Dsn, .str a.Member, .int a.Gen, .bool a.HasGen, .int a.Disp, .int a.Normal, .int a.Abend, .int a.Unit, .str a.Vol, .int a.Tracks, .int a.More, .int a.File, .int a.Dcb.Org, .int a.Dcb.Format, .bool a.Dcb.Blocked, .bool a.Dcb.Asa, .int a.Dcb.Lrecl, .int a.Dcb.Blksize, .int a.Dcb.KeyLen, .int a.Dcb.KeyPos, .str a.Sysout, .slice (List.map e_Str a.Instream), .bool a.HasData, .bool a.Dummy]]) (fun a => ref36_Exclusive n a) (fun r => [.c .bool (.bool r)]) (fun r => [])

theorem cref36_Exclusive (n : Nat) : Contract Try.prog (xref36_Exclusive n) := by
  have hΓ : ∀ g, g ∈ ([xref36_Dispositions n, xref36_Named n] : List Go.AE.Fn) → Contract Try.prog g := by
    intro g hg; simp only [List.mem_cons, List.not_mem_nil, or_false] at hg; rcases hg with rfl | rfl; exact cref36_Dispositions n; exact cref36_Named n
  refine contract_f (Try.f22.body.getD .skip) h00 Try.func22 rfl (by intro args w; exact Try.call22 args w) (by decide) (by intro _ r; exact ⟨rfl, by simp⟩) ?_
  rintro d r H
  try dsimp only at H
  unfold ref36_Exclusive at H
  simp only [Try.f22, Option.getD]
  refine Sm.seqK fun K1 hK1 => ?_
  refine Sm.regA (Γ := [xref36_Dispositions n, xref36_Named n]) h00 mixed hΓ (by kernel_rfl) ?_
  simp only [rs]
  repeat (refine opsG fun K hK => ?_; simp (maxSteps := 2000000) only [ev, ew, tys, tl, ↓reduceIte, reduceCtorEq, Nat.reduceAdd, Nat.reduceMul, Nat.reduceSub, Nat.reduceEqDiff, Nat.reduceLeDiff, Nat.reduceLT, Int.reduceToNat, xref36_Dispositions, xref36_Named, Option.isSome_some, Option.getD_some]; (repeat (first | refine ⟨by first | with_reducible assumption | omega | (intro hh; (repeat refine ⟨hh, ?_⟩); revert hh; with_reducible assumption), ?_⟩ | refine fun (_ : _ ≤ _) => ?_)); refine hK _ ?_; clear hK K)
  refine opsG0 ?_
  refine hK1 _ ?_
  refine Sm.seqK fun K2 hK2 => ?_
  obtain ⟨r1, hr1, H⟩ := bind_some H
  refine Sm.regA (Γ := [xref36_Dispositions n, xref36_Named n]) h00 mixed hΓ (by kernel_rfl) ?_
  simp only [rs]
  repeat (refine opsG fun K hK => ?_; simp (maxSteps := 2000000) only [ev, ew, tys, tl, ↓reduceIte, reduceCtorEq, Nat.reduceAdd, Nat.reduceMul, Nat.reduceSub, Nat.reduceEqDiff, Nat.reduceLeDiff, Nat.reduceLT, Int.reduceToNat, xref36_Dispositions, xref36_Named, Option.isSome_some, Option.getD_some, hr1]; (repeat (first | refine ⟨by first | with_reducible assumption | omega | (intro hh; (repeat refine ⟨hh, ?_⟩); revert hh; with_reducible assumption), ?_⟩ | refine fun (_ : _ ≤ _) => ?_)); refine hK _ ?_; clear hK K)
  refine opsG0 ?_
  refine hK2 _ ?_
  refine Sm.seqK fun K3 hK3 => ?_
  obtain ⟨r2, hr2, H⟩ := bind_some H
  refine Sm.regA (Γ := [xref36_Dispositions n, xref36_Named n]) h00 mixed hΓ (by kernel_rfl) ?_
  simp only [rs]
  repeat (refine opsG fun K hK => ?_; simp (maxSteps := 2000000) only [ev, ew, tys, tl, ↓reduceIte, reduceCtorEq, Nat.reduceAdd, Nat.reduceMul, Nat.reduceSub, Nat.reduceEqDiff, Nat.reduceLeDiff, Nat.reduceLT, Int.reduceToNat, xref36_Dispositions, xref36_Named, Option.isSome_some, Option.getD_some, hr2]; (repeat (first | refine ⟨by first | with_reducible assumption | omega | (intro hh; (repeat refine ⟨hh, ?_⟩); revert hh; with_reducible assumption), ?_⟩ | refine fun (_ : _ ≤ _) => ?_)); refine hK _ ?_; clear hK K)
  refine opsG0 ?_
  refine hK3 _ ?_
  refine Sm.ret ?_
  try simp only [↓reduceIte, reduceCtorEq, Exit.exit.injEq]
  obtain rfl := Option.some.inj H
  refine Ret.ofR [] (.inr rfl) ?_
  simp (maxSteps := 2000000) only [ev, ew, tys, tl, ↓reduceIte, reduceCtorEq, Nat.reduceAdd, Nat.reduceMul, Nat.reduceSub, Nat.reduceEqDiff, Nat.reduceLeDiff, Nat.reduceLT, Int.reduceToNat, xref36_Dispositions, xref36_Named, Option.isSome_some, Option.getD_some]
  done

def flow_Writes (n : Nat) (d : TDD) : Option Bool :=
  (flow_Exclusive n d).bind fun r1 =>
  some r1

def xflow_Writes (n : Nat) : Go.AE.Fn := mkFn (A := TDD) (R := Bool) 23 [(true, [.str, .str, .str, .int .i64, .bool, .int .i64, .int .i64, .int .i64, .int .i64, .str, .int .i64, .int .i64, .int .i64, .int .i64, .int .i64, .bool, .bool, .int .i64, .int .i64, .int .i64, .int .i64, .str, .slice 9, .bool, .bool])] false (fun xs => (⟨(cg (xs.getD 0 []) 0).toStr, (cg (xs.getD 0 []) 1).toStr, (cg (xs.getD 0 []) 2).toStr, (cg (xs.getD 0 []) 3).toInt, (cg (xs.getD 0 []) 4).toBool, (cg (xs.getD 0 []) 5).toInt, (cg (xs.getD 0 []) 6).toInt, (cg (xs.getD 0 []) 7).toInt, (cg (xs.getD 0 []) 8).toInt, (cg (xs.getD 0 []) 9).toStr, (cg (xs.getD 0 []) 10).toInt, (cg (xs.getD 0 []) 11).toInt, (cg (xs.getD 0 []) 12).toInt, (⟨(cg (xs.getD 0 []) 13).toInt, (cg (xs.getD 0 []) 14).toInt, (cg (xs.getD 0 []) 15).toBool, (cg (xs.getD 0 []) 16).toBool, (cg (xs.getD 0 []) 17).toInt, (cg (xs.getD 0 []) 18).toInt, (cg (xs.getD 0 []) 19).toInt, (cg (xs.getD 0 []) 20).toInt⟩ : TDcb), (cg (xs.getD 0 []) 21).toStr, ((cg (xs.getD 0 []) 22).toSl.map d_Str), (cg (xs.getD 0 []) 23).toBool, (cg (xs.getD 0 []) 24).toBool⟩ : TDD)) (fun a => [[.str a.Name, .str a.Dsn, .str a.Member, .int a.Gen, .bool a.HasGen, .int a.Disp, .int a.Normal, .int a.Abend, .int a.Unit, .str a.Vol, .int a.Tracks, .int a.More, .int a.File, .int a.Dcb.Org, .int a.Dcb.Format, .bool a.Dcb.Blocked, .bool a.Dcb.Asa, .int a.Dcb.Lrecl, .int a.Dcb.Blksize, .int a.Dcb.KeyLen, .int a.Dcb.KeyPos, .str a.Sysout, .slice (List.map e_Str a.Instream), .bool a.HasData, .bool a.Dummy]]) (fun a => flow_Writes n a) (fun r => [.c .bool (.bool r)]) (fun r => [])

theorem cflow_Writes (n : Nat) : Contract Try.prog (xflow_Writes n) := by
  have hΓ : ∀ g, g ∈ ([xflow_Exclusive n] : List Go.AE.Fn) → Contract Try.prog g := by
    intro g hg; simp only [List.mem_cons, List.not_mem_nil, or_false] at hg; subst hg; exact cflow_Exclusive n
  refine contract_f (Try.f23.body.getD .skip) h00 Try.func23 rfl (by intro args w; exact Try.call23 args w) (by decide) (by intro _ r; exact ⟨rfl, by simp⟩) ?_
  rintro d r H
  try dsimp only at H
  unfold flow_Writes at H
  simp only [Try.f23, Option.getD]
  refine Sm.seqK fun K1 hK1 => ?_
  refine Sm.regA (Γ := [xflow_Exclusive n]) h00 mixed hΓ (by kernel_rfl) ?_
  simp only [rs]
  repeat (refine opsG fun K hK => ?_; simp (maxSteps := 2000000) only [ev, ew, tys, tl, ↓reduceIte, reduceCtorEq, Nat.reduceAdd, Nat.reduceMul, Nat.reduceSub, Nat.reduceEqDiff, Nat.reduceLeDiff, Nat.reduceLT, Int.reduceToNat, xflow_Exclusive, Option.isSome_some, Option.getD_some]; (repeat (first | refine ⟨by first | with_reducible assumption | omega | (intro hh; (repeat refine ⟨hh, ?_⟩); revert hh; with_reducible assumption), ?_⟩ | refine fun (_ : _ ≤ _) => ?_)); refine hK _ ?_; clear hK K)
  refine opsG0 ?_
  refine hK1 _ ?_
  refine Sm.seqK fun K2 hK2 => ?_
  obtain ⟨r1, hr1, H⟩ := bind_some H
  refine Sm.regA (Γ := [xflow_Exclusive n]) h00 mixed hΓ (by kernel_rfl) ?_
  simp only [rs]
  repeat (refine opsG fun K hK => ?_; simp (maxSteps := 2000000) only [ev, ew, tys, tl, ↓reduceIte, reduceCtorEq, Nat.reduceAdd, Nat.reduceMul, Nat.reduceSub, Nat.reduceEqDiff, Nat.reduceLeDiff, Nat.reduceLT, Int.reduceToNat, xflow_Exclusive, Option.isSome_some, Option.getD_some, hr1]; (repeat (first | refine ⟨by first | with_reducible assumption | omega | (intro hh; (repeat refine ⟨hh, ?_⟩); revert hh; with_reducible assumption), ?_⟩ | refine fun (_ : _ ≤ _) => ?_)); refine hK _ ?_; clear hK K)
  refine opsG0 ?_
  refine hK2 _ ?_
  refine Sm.ret ?_
  try simp only [↓reduceIte, reduceCtorEq, Exit.exit.injEq]
  obtain rfl := Option.some.inj H
  refine Ret.ofR [] (.inr rfl) ?_
  simp (maxSteps := 2000000) only [ev, ew, tys, tl, ↓reduceIte, reduceCtorEq, Nat.reduceAdd, Nat.reduceMul, Nat.reduceSub, Nat.reduceEqDiff, Nat.reduceLeDiff, Nat.reduceLT, Int.reduceToNat, xflow_Exclusive, Option.isSome_some, Option.getD_some]
  done

def law36_FlowDefaults (n : Nat) (d : TDD) : Option Bool :=
  (flow_Default n d).bind fun r1 =>
  (ref36_Dispositions n d.Disp d.Normal d.Abend).bind fun r2 =>
  gd (((if (if (r1.Disp == r2.1) = true then (r1.Normal == r2.2.1) else false) = true then (r1.Abend == r2.2.2) else false) = true → (law36_Rest n r1 d).isSome = true) ∧ ((if (if (if (r1.Disp == r2.1) = true then (r1.Normal == r2.2.1) else false) = true then (r1.Abend == r2.2.2) else false) = true then ((law36_Rest n r1 d).getD default) else false) = true → (flow_Exclusive n d).isSome = true) ∧ ((if (if (if (r1.Disp == r2.1) = true then (r1.Normal == r2.2.1) else false) = true then (r1.Abend == r2.2.2) else false) = true then ((law36_Rest n r1 d).getD default) else false) = true → (ref36_Exclusive n d).isSome = true) ∧ ((if (if (if (if (r1.Disp == r2.1) = true then (r1.Normal == r2.2.1) else false) = true then (r1.Abend == r2.2.2) else false) = true then ((law36_Rest n r1 d).getD default) else false) = true then (((flow_Exclusive n d).getD default) == ((ref36_Exclusive n d).getD default)) else false) = true → (flow_Writes n d).isSome = true) ∧ ((if (if (if (if (r1.Disp == r2.1) = true then (r1.Normal == r2.2.1) else false) = true then (r1.Abend == r2.2.2) else false) = true then ((law36_Rest n r1 d).getD default) else false) = true then (((flow_Exclusive n d).getD default) == ((ref36_Exclusive n d).getD default)) else false) = true → (ref36_Exclusive n d).isSome = true) ∧ ((if (if (if (if (if (r1.Disp == r2.1) = true then (r1.Normal == r2.2.1) else false) = true then (r1.Abend == r2.2.2) else false) = true then ((law36_Rest n r1 d).getD default) else false) = true then (((flow_Exclusive n d).getD default) == ((ref36_Exclusive n d).getD default)) else false) = true then (((flow_Writes n d).getD default) == ((ref36_Exclusive n d).getD default)) else false) = true → (law36_works n).isSome = true)) <|
  some (if (if (if (if (if (if (r1.Disp == r2.1) = true then (r1.Normal == r2.2.1) else false) = true then (r1.Abend == r2.2.2) else false) = true then ((law36_Rest n r1 d).getD default) else false) = true then (((flow_Exclusive n d).getD default) == ((ref36_Exclusive n d).getD default)) else false) = true then (((flow_Writes n d).getD default) == ((ref36_Exclusive n d).getD default)) else false) = true then ((law36_works n).getD default) else false)

def xlaw36_FlowDefaults (n : Nat) : Go.AE.Fn := mkFn (A := TDD) (R := Bool) 8 [(true, [.str, .str, .str, .int .i64, .bool, .int .i64, .int .i64, .int .i64, .int .i64, .str, .int .i64, .int .i64, .int .i64, .int .i64, .int .i64, .bool, .bool, .int .i64, .int .i64, .int .i64, .int .i64, .str, .slice 9, .bool, .bool])] false (fun xs => (⟨(cg (xs.getD 0 []) 0).toStr, (cg (xs.getD 0 []) 1).toStr, (cg (xs.getD 0 []) 2).toStr, (cg (xs.getD 0 []) 3).toInt, (cg (xs.getD 0 []) 4).toBool, (cg (xs.getD 0 []) 5).toInt, (cg (xs.getD 0 []) 6).toInt, (cg (xs.getD 0 []) 7).toInt, (cg (xs.getD 0 []) 8).toInt, (cg (xs.getD 0 []) 9).toStr, (cg (xs.getD 0 []) 10).toInt, (cg (xs.getD 0 []) 11).toInt, (cg (xs.getD 0 []) 12).toInt, (⟨(cg (xs.getD 0 []) 13).toInt, (cg (xs.getD 0 []) 14).toInt, (cg (xs.getD 0 []) 15).toBool, (cg (xs.getD 0 []) 16).toBool, (cg (xs.getD 0 []) 17).toInt, (cg (xs.getD 0 []) 18).toInt, (cg (xs.getD 0 []) 19).toInt, (cg (xs.getD 0 []) 20).toInt⟩ : TDcb), (cg (xs.getD 0 []) 21).toStr, ((cg (xs.getD 0 []) 22).toSl.map d_Str), (cg (xs.getD 0 []) 23).toBool, (cg (xs.getD 0 []) 24).toBool⟩ : TDD)) (fun a => [[.str a.Name, .str a.Dsn, .str a.Member, .int a.Gen, .bool a.HasGen, .int a.Disp, .int a.Normal, .int a.Abend, .int a.Unit, .str a.Vol, .int a.Tracks, .int a.More, .int a.File, .int a.Dcb.Org, .int a.Dcb.Format, .bool a.Dcb.Blocked, .bool a.Dcb.Asa, .int a.Dcb.Lrecl, .int a.Dcb.Blksize, .int a.Dcb.KeyLen, .int a.Dcb.KeyPos, .str a.Sysout, .slice (List.map e_Str a.Instream), .bool a.HasData, .bool a.Dummy]]) (fun a => law36_FlowDefaults n a) (fun r => [.c .bool (.bool r)]) (fun r => [])

theorem claw36_FlowDefaults (n : Nat) : Contract Try.prog (xlaw36_FlowDefaults n) := by
  have hΓ : ∀ g, g ∈ ([xflow_Default n, xref36_Dispositions n, xlaw36_Rest n, xflow_Exclusive n, xref36_Exclusive n, xflow_Writes n, xlaw36_works n] : List Go.AE.Fn) → Contract Try.prog g := by
    intro g hg; simp only [List.mem_cons, List.not_mem_nil, or_false] at hg; rcases hg with rfl | rfl | rfl | rfl | rfl | rfl | rfl; exact cflow_Default n; exact cref36_Dispositions n; exact claw36_Rest n; exact cflow_Exclusive n; exact cref36_Exclusive n; exact cflow_Writes n; exact claw36_works n
  refine contract_f (Try.f8.body.getD .skip) h00 Try.func8 rfl (by intro args w; exact Try.call8 args w) (by decide) (by intro _ r; exact ⟨rfl, by simp⟩) ?_
  rintro d r H
  try dsimp only at H
  unfold law36_FlowDefaults at H
  simp only [Try.f8, Option.getD]
  refine Sm.seqK fun K1 hK1 => ?_
  refine Sm.regA (Γ := [xflow_Default n, xref36_Dispositions n, xlaw36_Rest n, xflow_Exclusive n, xref36_Exclusive n, xflow_Writes n, xlaw36_works n]) h00 mixed hΓ (by kernel_rfl) ?_
  simp only [rs]
  repeat (refine opsG fun K hK => ?_; simp (maxSteps := 2000000) only [ev, ew, tys, tl, ↓reduceIte, reduceCtorEq, Nat.reduceAdd, Nat.reduceMul, Nat.reduceSub, Nat.reduceEqDiff, Nat.reduceLeDiff, Nat.reduceLT, Int.reduceToNat, xflow_Default, xref36_Dispositions, xlaw36_Rest, xflow_Exclusive, xref36_Exclusive, xflow_Writes, xlaw36_works, Option.isSome_some, Option.getD_some]; (repeat (first | refine ⟨by first | with_reducible assumption | omega | (intro hh; (repeat refine ⟨hh, ?_⟩); revert hh; with_reducible assumption), ?_⟩ | refine fun (_ : _ ≤ _) => ?_)); refine hK _ ?_; clear hK K)
  refine opsG0 ?_
  refine hK1 _ ?_
  refine Sm.seqK fun K2 hK2 => ?_
  obtain ⟨r1, hr1, H⟩ := bind_some H
  refine Sm.regA (Γ := [xflow_Default n, xref36_Dispositions n, xlaw36_Rest n, xflow_Exclusive n, xref36_Exclusive n, xflow_Writes n, xlaw36_works n]) h00 mixed hΓ (by kernel_rfl) ?_
  simp only [rs]
  repeat (refine opsG fun K hK => ?_; simp (maxSteps := 2000000) only [ev, ew, tys, tl, ↓reduceIte, reduceCtorEq, Nat.reduceAdd, Nat.reduceMul, Nat.reduceSub, Nat.reduceEqDiff, Nat.reduceLeDiff, Nat.reduceLT, Int.reduceToNat, xflow_Default, xref36_Dispositions, xlaw36_Rest, xflow_Exclusive, xref36_Exclusive, xflow_Writes, xlaw36_works, Option.isSome_some, Option.getD_some, hr1]; (repeat (first | refine ⟨by first | with_reducible assumption | omega | (intro hh; (repeat refine ⟨hh, ?_⟩); revert hh; with_reducible assumption), ?_⟩ | refine fun (_ : _ ≤ _) => ?_)); refine hK _ ?_; clear hK K)
  refine opsG0 ?_
  refine hK2 _ ?_
  refine Sm.seqK fun K3 hK3 => ?_
  obtain ⟨r2, hr2, H⟩ := bind_some H
  refine Sm.regA (Γ := [xflow_Default n, xref36_Dispositions n, xlaw36_Rest n, xflow_Exclusive n, xref36_Exclusive n, xflow_Writes n, xlaw36_works n]) h00 mixed hΓ (by kernel_rfl) ?_
  simp only [rs]
  repeat (refine opsG fun K hK => ?_; simp (maxSteps := 2000000) only [ev, ew, tys, tl, ↓reduceIte, reduceCtorEq, Nat.reduceAdd, Nat.reduceMul, Nat.reduceSub, Nat.reduceEqDiff, Nat.reduceLeDiff, Nat.reduceLT, Int.reduceToNat, xflow_Default, xref36_Dispositions, xlaw36_Rest, xflow_Exclusive, xref36_Exclusive, xflow_Writes, xlaw36_works, Option.isSome_some, Option.getD_some, hr2]; (repeat (first | refine ⟨by first | with_reducible assumption | omega | (intro hh; (repeat refine ⟨hh, ?_⟩); revert hh; with_reducible assumption), ?_⟩ | refine fun (_ : _ ≤ _) => ?_)); refine hK _ ?_; clear hK K)
  refine opsG0 ?_
  refine hK3 _ ?_
  refine Sm.seqK fun K4 hK4 => ?_
  obtain ⟨⟨hg5, hg6, hg7, hg8, hg9, hg10⟩, H⟩ := gd_some H
  refine Sm.regD (Γ := [xflow_Default n, xref36_Dispositions n, xlaw36_Rest n, xflow_Exclusive n, xref36_Exclusive n, xflow_Writes n, xlaw36_works n]) h00 mixed hΓ (by kernel_rfl) ?_
  simp only [rs]
  repeat (refine opsH fun K hK => ?_; simp (maxSteps := 2000000) only [ev, ew, tys, tl, ↓reduceIte, reduceCtorEq, Nat.reduceAdd, Nat.reduceMul, Nat.reduceSub, Nat.reduceEqDiff, Nat.reduceLeDiff, Nat.reduceLT, Int.reduceToNat, xflow_Default, xref36_Dispositions, xlaw36_Rest, xflow_Exclusive, xref36_Exclusive, xflow_Writes, xlaw36_works, Option.isSome_some, Option.getD_some]; (repeat (first | refine ⟨by first | with_reducible assumption | omega | (intro hh; (repeat refine ⟨hh, ?_⟩); revert hh; with_reducible assumption), ?_⟩ | refine fun (_ : _ ≤ _) => ?_)); refine hK _ ?_; clear hK K)
  refine opsH0 ?_
  refine hK4 _ ?_
  refine Sm.ret ?_
  try simp only [↓reduceIte, reduceCtorEq, Exit.exit.injEq]
  obtain rfl := Option.some.inj H
  refine Ret.ofR [] (.inr rfl) ?_
  simp (maxSteps := 2000000) only [ev, ew, tys, tl, ↓reduceIte, reduceCtorEq, Nat.reduceAdd, Nat.reduceMul, Nat.reduceSub, Nat.reduceEqDiff, Nat.reduceLeDiff, Nat.reduceLT, Int.reduceToNat, xflow_Default, xref36_Dispositions, xlaw36_Rest, xflow_Exclusive, xref36_Exclusive, xflow_Writes, xlaw36_works, Option.isSome_some, Option.getD_some]
  done
end Go.Proofs.Ytmaemlpmbjloaaa
