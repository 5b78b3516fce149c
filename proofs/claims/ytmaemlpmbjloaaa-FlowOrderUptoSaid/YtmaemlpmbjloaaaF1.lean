/-
  The functions of the seat, as functions; their contracts.
-/
import Derived.Test.YtmaemlpmbjloaaaT
set_option maxHeartbeats 8000000
set_option linter.unusedVariables false
set_option linter.unusedSimpArgs false
set_option maxRecDepth 100000
namespace Go.Proofs.Ytmaemlpmbjloaaa
open Go.AE
def flow_Test (n : Nat) (c : TCond) (code : Int) : Option Bool :=
  bif (c.Op == 1) then
    some (decide (c.Code > code))
  else
    bif (c.Op == 2) then
      some (decide (c.Code ≥ code))
    else
      bif (c.Op == 3) then
        some (c.Code == code)
      else
        bif (c.Op == 4) then
          some (c.Code != code)
        else
          bif (c.Op == 5) then
            some (decide (c.Code < code))
          else
            bif (c.Op == 6) then
              some (decide (c.Code ≤ code))
            else
              some false

def xflow_Test (n : Nat) : Go.AE.Fn := mkFn (A := TCond × Int) (R := Bool) 9 [(true, [.int .i64, .int .i64, .str]), (false, [.int .i64])] false (fun xs => ((⟨(cg (xs.getD 0 []) 0).toInt, (cg (xs.getD 0 []) 1).toInt, (cg (xs.getD 0 []) 2).toStr⟩ : TCond), (cg (xs.getD 1 []) 0).toInt)) (fun a => [[.int a.1.Code, .int a.1.Op, .str a.1.Step], [.int a.2]]) (fun a => flow_Test n a.1 a.2) (fun r => [.c .bool (.bool r)]) (fun r => [])

theorem cflow_Test (n : Nat) : Contract Try.prog (xflow_Test n) := by
  have hΓ : ∀ g, g ∈ ([] : List Go.AE.Fn) → Contract Try.prog g := by simp
  refine contract_f (Try.f9.body.getD .skip) h00 Try.func9 rfl (by intro args w; exact Try.call9 args w) (by decide) (by intro _ r; exact ⟨rfl, by simp⟩) ?_
  rintro ⟨c, code⟩ r H
  try dsimp only at H
  unfold flow_Test at H
  simp only [Try.f9, Option.getD]
  refine Sm.seqK fun K1 hK1 => ?_
  refine Sm.regA (Γ := []) h00 mixed hΓ (by kernel_rfl) ?_
  simp only [rs]
  repeat (refine opsG fun K hK => ?_; simp (maxSteps := 2000000) only [ev, ew, tys, tl, ↓reduceIte, reduceCtorEq, Nat.reduceAdd, Nat.reduceMul, Nat.reduceSub, Nat.reduceEqDiff, Nat.reduceLeDiff, Nat.reduceLT, Int.reduceToNat, Option.isSome_some, Option.getD_some]; (repeat (first | refine ⟨by first | with_reducible assumption | omega | (intro hh; (repeat refine ⟨hh, ?_⟩); revert hh; with_reducible assumption), ?_⟩ | refine fun (_ : _ ≤ _) => ?_)); refine hK _ ?_; clear hK K)
  refine opsG0 ?_
  refine hK1 _ ?_
  refine Sm.seqK fun K2 hK2 => ?_
  refine Sm.regA (Γ := []) h00 mixed hΓ (by kernel_rfl) ?_
  simp only [rs]
  repeat (refine opsG fun K hK => ?_; simp (maxSteps := 2000000) only [ev, ew, tys, tl, ↓reduceIte, reduceCtorEq, Nat.reduceAdd, Nat.reduceMul, Nat.reduceSub, Nat.reduceEqDiff, Nat.reduceLeDiff, Nat.reduceLT, Int.reduceToNat, Option.isSome_some, Option.getD_some]; (repeat (first | refine ⟨by first | with_reducible assumption | omega | (intro hh; (repeat refine ⟨hh, ?_⟩); revert hh; with_reducible assumption), ?_⟩ | refine fun (_ : _ ≤ _) => ?_)); refine hK _ ?_; clear hK K)
  refine opsG0 ?_
  refine hK2 _ ?_
  refine Sm.block ?_
  refine Sm.seqK fun K3 hK3 => ?_
  refine Sm.regA (Γ := []) h00 mixed hΓ (by kernel_rfl) ?_
  simp only [rs]
  repeat (refine opsG fun K hK => ?_; simp (maxSteps := 2000000) only [ev, ew, tys, tl, ↓reduceIte, reduceCtorEq, Nat.reduceAdd, Nat.reduceMul, Nat.reduceSub, Nat.reduceEqDiff, Nat.reduceLeDiff, Nat.reduceLT, Int.reduceToNat, Option.isSome_some, Option.getD_some]; (repeat (first | refine ⟨by first | with_reducible assumption | omega | (intro hh; (repeat refine ⟨hh, ?_⟩); revert hh; with_reducible assumption), ?_⟩ | refine fun (_ : _ ≤ _) => ?_)); refine hK _ ?_; clear hK K)
  refine opsG0 ?_
  refine hK3 _ ?_
  refine Sm.condK (by rfl) fun Ka Kb ha hb => ?_
  simp only [wpCond, ev, ew, tys, tl, ↓reduceIte, reduceCtorEq, Nat.reduceAdd, Nat.reduceMul, Nat.reduceSub, Nat.reduceEqDiff, Nat.reduceLeDiff, Nat.reduceLT, Int.reduceToNat, Option.isSome_some, Option.getD_some]
  refine ⟨fun h4 => ha ?_, fun h4 => hb ?_⟩
  · replace H := bif_t h4 H
    refine Sm.seqK fun K5 hK5 => ?_
    refine Sm.regA (Γ := []) h00 mixed hΓ (by kernel_rfl) ?_
    simp only [rs]
    repeat (refine opsG fun K hK => ?_; simp (maxSteps := 2000000) only [ev, ew, tys, tl, ↓reduceIte, reduceCtorEq, Nat.reduceAdd, Nat.reduceMul, Nat.reduceSub, Nat.reduceEqDiff, Nat.reduceLeDiff, Nat.reduceLT, Int.reduceToNat, Option.isSome_some, Option.getD_some]; (repeat (first | refine ⟨by first | with_reducible assumption | omega | (intro hh; (repeat refine ⟨hh, ?_⟩); revert hh; with_reducible assumption), ?_⟩ | refine fun (_ : _ ≤ _) => ?_)); refine hK _ ?_; clear hK K)
    refine opsG0 ?_
    refine hK5 _ ?_
    refine Sm.ret ?_
    try simp only [↓reduceIte, reduceCtorEq, Exit.exit.injEq]
    obtain rfl := Option.some.inj H
    refine Ret.ofR [] (.inr rfl) ?_
    simp (maxSteps := 2000000) only [ev, ew, tys, tl, ↓reduceIte, reduceCtorEq, Nat.reduceAdd, Nat.reduceMul, Nat.reduceSub, Nat.reduceEqDiff, Nat.reduceLeDiff, Nat.reduceLT, Int.reduceToNat, Option.isSome_some, Option.getD_some]
    done
  · replace H := bif_f h4 H
    refine Sm.seqK fun K6 hK6 => ?_
    refine Sm.regA (Γ := []) h00 mixed hΓ (by kernel_rfl) ?_
    simp only [rs]
    repeat (refine opsG fun K hK => ?_; simp (maxSteps := 2000000) only [ev, ew, tys, tl, ↓reduceIte, reduceCtorEq, Nat.reduceAdd, Nat.reduceMul, Nat.reduceSub, Nat.reduceEqDiff, Nat.reduceLeDiff, Nat.reduceLT, Int.reduceToNat, Option.isSome_some, Option.getD_some]; (repeat (first | refine ⟨by first | with_reducible assumption | omega | (intro hh; (repeat refine ⟨hh, ?_⟩); revert hh; with_reducible assumption), ?_⟩ | refine fun (_ : _ ≤ _) => ?_)); refine hK _ ?_; clear hK K)
    refine opsG0 ?_
    refine hK6 _ ?_
    refine Sm.condK (by rfl) fun Ka Kb ha hb => ?_
    simp only [wpCond, ev, ew, tys, tl, ↓reduceIte, reduceCtorEq, Nat.reduceAdd, Nat.reduceMul, Nat.reduceSub, Nat.reduceEqDiff, Nat.reduceLeDiff, Nat.reduceLT, Int.reduceToNat, Option.isSome_some, Option.getD_some]
    refine ⟨fun h7 => ha ?_, fun h7 => hb ?_⟩
    · replace H := bif_t h7 H
      refine Sm.seqK fun K8 hK8 => ?_
      refine Sm.regA (Γ := []) h00 mixed hΓ (by kernel_rfl) ?_
      simp only [rs]
      repeat (refine opsG fun K hK => ?_; simp (maxSteps := 2000000) only [ev, ew, tys, tl, ↓reduceIte, reduceCtorEq, Nat.reduceAdd, Nat.reduceMul, Nat.reduceSub, Nat.reduceEqDiff, Nat.reduceLeDiff, Nat.reduceLT, Int.reduceToNat, Option.isSome_some, Option.getD_some]; (repeat (first | refine ⟨by first | with_reducible assumption | omega | (intro hh; (repeat refine ⟨hh, ?_⟩); revert hh; with_reducible assumption), ?_⟩ | refine fun (_ : _ ≤ _) => ?_)); refine hK _ ?_; clear hK K)
      refine opsG0 ?_
      refine hK8 _ ?_
      refine Sm.ret ?_
      try simp only [↓reduceIte, reduceCtorEq, Exit.exit.injEq]
      obtain rfl := Option.some.inj H
      refine Ret.ofR [] (.inr rfl) ?_
      simp (maxSteps := 2000000) only [ev, ew, tys, tl, ↓reduceIte, reduceCtorEq, Nat.reduceAdd, Nat.reduceMul, Nat.reduceSub, Nat.reduceEqDiff, Nat.reduceLeDiff, Nat.reduceLT, Int.reduceToNat, Option.isSome_some, Option.getD_some]
      done
    · replace H := bif_f h7 H
      refine Sm.seqK fun K9 hK9 => ?_
      refine Sm.regA (Γ := []) h00 mixed hΓ (by kernel_rfl) ?_
      simp only [rs]
      repeat (refine opsG fun K hK => ?_; simp (maxSteps := 2000000) only [ev, ew, tys, tl, ↓reduceIte, reduceCtorEq, Nat.reduceAdd, Nat.reduceMul, Nat.reduceSub, Nat.reduceEqDiff, Nat.reduceLeDiff, Nat.reduceLT, Int.reduceToNat, Option.isSome_some, Option.getD_some]; (repeat (first | refine ⟨by first | with_reducible assumption | omega | (intro hh; (repeat refine ⟨hh, ?_⟩); revert hh; with_reducible assumption), ?_⟩ | refine fun (_ : _ ≤ _) => ?_)); refine hK _ ?_; clear hK K)
      refine opsG0 ?_
      refine hK9 _ ?_
      refine Sm.condK (by rfl) fun Ka Kb ha hb => ?_
      simp only [wpCond, ev, ew, tys, tl, ↓reduceIte, reduceCtorEq, Nat.reduceAdd, Nat.reduceMul, Nat.reduceSub, Nat.reduceEqDiff, Nat.reduceLeDiff, Nat.reduceLT, Int.reduceToNat, Option.isSome_some, Option.getD_some]
      refine ⟨fun h10 => ha ?_, fun h10 => hb ?_⟩
      · replace H := bif_t h10 H
        refine Sm.seqK fun K11 hK11 => ?_
        refine Sm.regA (Γ := []) h00 mixed hΓ (by kernel_rfl) ?_
        simp only [rs]
        repeat (refine opsG fun K hK => ?_; simp (maxSteps := 2000000) only [ev, ew, tys, tl, ↓reduceIte, reduceCtorEq, Nat.reduceAdd, Nat.reduceMul, Nat.reduceSub, Nat.reduceEqDiff, Nat.reduceLeDiff, Nat.reduceLT, Int.reduceToNat, Option.isSome_some, Option.getD_some]; (repeat (first | refine ⟨by first | with_reducible assumption | omega | (intro hh; (repeat refine ⟨hh, ?_⟩); revert hh; with_reducible assumption), ?_⟩ | refine fun (_ : _ ≤ _) => ?_)); refine hK _ ?_; clear hK K)
        refine opsG0 ?_
        refine hK11 _ ?_
        refine Sm.ret ?_
        try simp only [↓reduceIte, reduceCtorEq, Exit.exit.injEq]
        obtain rfl := Option.some.inj H
        refine Ret.ofR [] (.inr rfl) ?_
        simp (maxSteps := 2000000) only [ev, ew, tys, tl, ↓reduceIte, reduceCtorEq, Nat.reduceAdd, Nat.reduceMul, Nat.reduceSub, Nat.reduceEqDiff, Nat.reduceLeDiff, Nat.reduceLT, Int.reduceToNat, Option.isSome_some, Option.getD_some]
        done
      · replace H := bif_f h10 H
        refine Sm.seqK fun K12 hK12 => ?_
        refine Sm.regA (Γ := []) h00 mixed hΓ (by kernel_rfl) ?_
        simp only [rs]
        repeat (refine opsG fun K hK => ?_; simp (maxSteps := 2000000) only [ev, ew, tys, tl, ↓reduceIte, reduceCtorEq, Nat.reduceAdd, Nat.reduceMul, Nat.reduceSub, Nat.reduceEqDiff, Nat.reduceLeDiff, Nat.reduceLT, Int.reduceToNat, Option.isSome_some, Option.getD_some]; (repeat (first | refine ⟨by first | with_reducible assumption | omega | (intro hh; (repeat refine ⟨hh, ?_⟩); revert hh; with_reducible assumption), ?_⟩ | refine fun (_ : _ ≤ _) => ?_)); refine hK _ ?_; clear hK K)
        refine opsG0 ?_
        refine hK12 _ ?_
        refine Sm.condK (by rfl) fun Ka Kb ha hb => ?_
        simp only [wpCond, ev, ew, tys, tl, ↓reduceIte, reduceCtorEq, Nat.reduceAdd, Nat.reduceMul, Nat.reduceSub, Nat.reduceEqDiff, Nat.reduceLeDiff, Nat.reduceLT, Int.reduceToNat, Option.isSome_some, Option.getD_some]
        refine ⟨fun h13 => ha ?_, fun h13 => hb ?_⟩
        · replace H := bif_t h13 H
          refine Sm.seqK fun K14 hK14 => ?_
          refine Sm.regA (Γ := []) h00 mixed hΓ (by kernel_rfl) ?_
          simp only [rs]
          repeat (refine opsG fun K hK => ?_; simp (maxSteps := 2000000) only [ev, ew, tys, tl, ↓reduceIte, reduceCtorEq, Nat.reduceAdd, Nat.reduceMul, Nat.reduceSub, Nat.reduceEqDiff, Nat.reduceLeDiff, Nat.reduceLT, Int.reduceToNat, Option.isSome_some, Option.getD_some]; (repeat (first | refine ⟨by first | with_reducible assumption | omega | (intro hh; (repeat refine ⟨hh, ?_⟩); revert hh; with_reducible assumption), ?_⟩ | refine fun (_ : _ ≤ _) => ?_)); refine hK _ ?_; clear hK K)
          refine opsG0 ?_
          refine hK14 _ ?_
          refine Sm.ret ?_
          try simp only [↓reduceIte, reduceCtorEq, Exit.exit.injEq]
          obtain rfl := Option.some.inj H
          refine Ret.ofR [] (.inr rfl) ?_
          simp (maxSteps := 2000000) only [ev, ew, tys, tl, ↓reduceIte, reduceCtorEq, Nat.reduceAdd, Nat.reduceMul, Nat.reduceSub, Nat.reduceEqDiff, Nat.reduceLeDiff, Nat.reduceLT, Int.reduceToNat, Option.isSome_some, Option.getD_some]
          done
        · replace H := bif_f h13 H
          refine Sm.seqK fun K15 hK15 => ?_
          refine Sm.regA (Γ := []) h00 mixed hΓ (by kernel_rfl) ?_
          simp only [rs]
          repeat (refine opsG fun K hK => ?_; simp (maxSteps := 2000000) only [ev, ew, tys, tl, ↓reduceIte, reduceCtorEq, Nat.reduceAdd, Nat.reduceMul, Nat.reduceSub, Nat.reduceEqDiff, Nat.reduceLeDiff, Nat.reduceLT, Int.reduceToNat, Option.isSome_some, Option.getD_some]; (repeat (first | refine ⟨by first | with_reducible assumption | omega | (intro hh; (repeat refine ⟨hh, ?_⟩); revert hh; with_reducible assumption), ?_⟩ | refine fun (_ : _ ≤ _) => ?_)); refine hK _ ?_; clear hK K)
          refine opsG0 ?_
          refine hK15 _ ?_
          refine Sm.condK (by rfl) fun Ka Kb ha hb => ?_
          simp only [wpCond, ev, ew, tys, tl, ↓reduceIte, reduceCtorEq, Nat.reduceAdd, Nat.reduceMul, Nat.reduceSub, Nat.reduceEqDiff, Nat.reduceLeDiff, Nat.reduceLT, Int.reduceToNat, Option.isSome_some, Option.getD_some]
          refine ⟨fun h16 => ha ?_, fun h16 => hb ?_⟩
          · replace H := bif_t h16 H
            refine Sm.seqK fun K17 hK17 => ?_
            refine Sm.regA (Γ := []) h00 mixed hΓ (by kernel_rfl) ?_
            simp only [rs]
            repeat (refine opsG fun K hK => ?_; simp (maxSteps := 2000000) only [ev, ew, tys, tl, ↓reduceIte, reduceCtorEq, Nat.reduceAdd, Nat.reduceMul, Nat.reduceSub, Nat.reduceEqDiff, Nat.reduceLeDiff, Nat.reduceLT, Int.reduceToNat, Option.isSome_some, Option.getD_some]; (repeat (first | refine ⟨by first | with_reducible assumption | omega | (intro hh; (repeat refine ⟨hh, ?_⟩); revert hh; with_reducible assumption), ?_⟩ | refine fun (_ : _ ≤ _) => ?_)); refine hK _ ?_; clear hK K)
            refine opsG0 ?_
            refine hK17 _ ?_
            refine Sm.ret ?_
            try simp only [↓reduceIte, reduceCtorEq, Exit.exit.injEq]
            obtain rfl := Option.some.inj H
            refine Ret.ofR [] (.inr rfl) ?_
            simp (maxSteps := 2000000) only [ev, ew, tys, tl, ↓reduceIte, reduceCtorEq, Nat.reduceAdd, Nat.reduceMul, Nat.reduceSub, Nat.reduceEqDiff, Nat.reduceLeDiff, Nat.reduceLT, Int.reduceToNat, Option.isSome_some, Option.getD_some]
            done
          · replace H := bif_f h16 H
            refine Sm.seqK fun K18 hK18 => ?_
            refine Sm.regA (Γ := []) h00 mixed hΓ (by kernel_rfl) ?_
            simp only [rs]
            repeat (refine opsG fun K hK => ?_; simp (maxSteps := 2000000) only [ev, ew, tys, tl, ↓reduceIte, reduceCtorEq, Nat.reduceAdd, Nat.reduceMul, Nat.reduceSub, Nat.reduceEqDiff, Nat.reduceLeDiff, Nat.reduceLT, Int.reduceToNat, Option.isSome_some, Option.getD_some]; (repeat (first | refine ⟨by first | with_reducible assumption | omega | (intro hh; (repeat refine ⟨hh, ?_⟩); revert hh; with_reducible assumption), ?_⟩ | refine fun (_ : _ ≤ _) => ?_)); refine hK _ ?_; clear hK K)
            refine opsG0 ?_
            refine hK18 _ ?_
            refine Sm.condK (by rfl) fun Ka Kb ha hb => ?_
            simp only [wpCond, ev, ew, tys, tl, ↓reduceIte, reduceCtorEq, Nat.reduceAdd, Nat.reduceMul, Nat.reduceSub, Nat.reduceEqDiff, Nat.reduceLeDiff, Nat.reduceLT, Int.reduceToNat, Option.isSome_some, Option.getD_some]
            refine ⟨fun h19 => ha ?_, fun h19 => hb ?_⟩
            · replace H := bif_t h19 H
              refine Sm.seqK fun K20 hK20 => ?_
              refine Sm.regA (Γ := []) h00 mixed hΓ (by kernel_rfl) ?_
              simp only [rs]
              repeat (refine opsG fun K hK => ?_; simp (maxSteps := 2000000) only [ev, ew, tys, tl, ↓reduceIte, reduceCtorEq, Nat.reduceAdd, Nat.reduceMul, Nat.reduceSub, Nat.reduceEqDiff, Nat.reduceLeDiff, Nat.reduceLT, Int.reduceToNat, Option.isSome_some, Option.getD_some]; (repeat (first | refine ⟨by first | with_reducible assumption | omega | (intro hh; (repeat refine ⟨hh, ?_⟩); revert hh; with_reducible assumption), ?_⟩ | refine fun (_ : _ ≤ _) => ?_)); refine hK _ ?_; clear hK K)
              refine opsG0 ?_
              refine hK20 _ ?_
              refine Sm.ret ?_
              try simp only [↓reduceIte, reduceCtorEq, Exit.exit.injEq]
              obtain rfl := Option.some.inj H
              refine Ret.ofR [] (.inr rfl) ?_
              simp (maxSteps := 2000000) only [ev, ew, tys, tl, ↓reduceIte, reduceCtorEq, Nat.reduceAdd, Nat.reduceMul, Nat.reduceSub, Nat.reduceEqDiff, Nat.reduceLeDiff, Nat.reduceLT, Int.reduceToNat, Option.isSome_some, Option.getD_some]
              done
            · replace H := bif_f h19 H
              refine Sm.seqK fun K21 hK21 => ?_
              refine Sm.regA (Γ := []) h00 mixed hΓ (by kernel_rfl) ?_
              simp only [rs]
              repeat (refine opsG fun K hK => ?_; simp (maxSteps := 2000000) only [ev, ew, tys, tl, ↓reduceIte, reduceCtorEq, Nat.reduceAdd, Nat.reduceMul, Nat.reduceSub, Nat.reduceEqDiff, Nat.reduceLeDiff, Nat.reduceLT, Int.reduceToNat, Option.isSome_some, Option.getD_some]; (repeat (first | refine ⟨by first | with_reducible assumption | omega | (intro hh; (repeat refine ⟨hh, ?_⟩); revert hh; with_reducible assumption), ?_⟩ | refine fun (_ : _ ≤ _) => ?_)); refine hK _ ?_; clear hK K)
              refine opsG0 ?_
              refine hK21 _ ?_
              refine Sm.ret ?_
              try simp only [↓reduceIte, reduceCtorEq, Exit.exit.injEq]
              obtain rfl := Option.some.inj H
              refine Ret.ofR [] (.inr rfl) ?_
              simp (maxSteps := 2000000) only [ev, ew, tys, tl, ↓reduceIte, reduceCtorEq, Nat.reduceAdd, Nat.reduceMul, Nat.reduceSub, Nat.reduceEqDiff, Nat.reduceLeDiff, Nat.reduceLT, Int.reduceToNat, Option.isSome_some, Option.getD_some]
              done

def ref36_Test (n : Nat) (c : TCond) (code : Int) : Option Bool :=
  bif (c.Op == 1) then
    some (decide (c.Code > code))
  else
    bif (c.Op == 2) then
      some (decide (c.Code ≥ code))
    else
      bif (c.Op == 3) then
        some (c.Code == code)
      else
        bif (c.Op == 4) then
          some (c.Code != code)
        else
          bif (c.Op == 5) then
            some (decide (c.Code < code))
          else
            bif (c.Op == 6) then
              some (decide (c.Code ≤ code))
            else
              some false

def xref36_Test (n : Nat) : Go.AE.Fn := mkFn (A := TCond × Int) (R := Bool) 10 [(true, [.int .i64, .int .i64, .str]), (false, [.int .i64])] false (fun xs => ((⟨(cg (xs.getD 0 []) 0).toInt, (cg (xs.getD 0 []) 1).toInt, (cg (xs.getD 0 []) 2).toStr⟩ : TCond), (cg (xs.getD 1 []) 0).toInt)) (fun a => [[.int a.1.Code, .int a.1.Op, .str a.1.Step], [.int a.2]]) (fun a => ref36_Test n a.1 a.2) (fun r => [.c .bool (.bool r)]) (fun r => [])

theorem cref36_Test (n : Nat) : Contract Try.prog (xref36_Test n) := by
  have hΓ : ∀ g, g ∈ ([] : List Go.AE.Fn) → Contract Try.prog g := by simp
  refine contract_f (Try.f10.body.getD .skip) h00 Try.func10 rfl (by intro args w; exact Try.call10 args w) (by decide) (by intro _ r; exact ⟨rfl, by simp⟩) ?_
  rintro ⟨c, code⟩ r H
  try dsimp only at H
  unfold ref36_Test at H
  simp only [Try.f10, Option.getD]
  refine Sm.seqK fun K1 hK1 => ?_
  refine Sm.regA (Γ := []) h00 mixed hΓ (by kernel_rfl) ?_
  simp only [rs]
  repeat (refine opsG fun K hK => ?_; simp (maxSteps := 2000000) only [ev, ew, tys, tl, ↓reduceIte, reduceCtorEq, Nat.reduceAdd, Nat.reduceMul, Nat.reduceSub, Nat.reduceEqDiff, Nat.reduceLeDiff, Nat.reduceLT, Int.reduceToNat, Option.isSome_some, Option.getD_some]; (repeat (first | refine ⟨by first | with_reducible assumption | omega | (intro hh; (repeat refine ⟨hh, ?_⟩); revert hh; with_reducible assumption), ?_⟩ | refine fun (_ : _ ≤ _) => ?_)); refine hK _ ?_; clear hK K)
  refine opsG0 ?_
  refine hK1 _ ?_
  refine Sm.seqK fun K2 hK2 => ?_
  refine Sm.seqK fun K3 hK3 => ?_
  refine Sm.regA (Γ := []) h00 mixed hΓ (by kernel_rfl) ?_
  simp only [rs]
  repeat (refine opsG fun K hK => ?_; simp (maxSteps := 2000000) only [ev, ew, tys, tl, ↓reduceIte, reduceCtorEq, Nat.reduceAdd, Nat.reduceMul, Nat.reduceSub, Nat.reduceEqDiff, Nat.reduceLeDiff, Nat.reduceLT, Int.reduceToNat, Option.isSome_some, Option.getD_some]; (repeat (first | refine ⟨by first | with_reducible assumption | omega | (intro hh; (repeat refine ⟨hh, ?_⟩); revert hh; with_reducible assumption), ?_⟩ | refine fun (_ : _ ≤ _) => ?_)); refine hK _ ?_; clear hK K)
  refine opsG0 ?_
  refine hK3 _ ?_
  refine Sm.block ?_
  refine Sm.seqK fun K4 hK4 => ?_
  refine Sm.regA (Γ := []) h00 mixed hΓ (by kernel_rfl) ?_
  simp only [rs]
  repeat (refine opsG fun K hK => ?_; simp (maxSteps := 2000000) only [ev, ew, tys, tl, ↓reduceIte, reduceCtorEq, Nat.reduceAdd, Nat.reduceMul, Nat.reduceSub, Nat.reduceEqDiff, Nat.reduceLeDiff, Nat.reduceLT, Int.reduceToNat, Option.isSome_some, Option.getD_some]; (repeat (first | refine ⟨by first | with_reducible assumption | omega | (intro hh; (repeat refine ⟨hh, ?_⟩); revert hh; with_reducible assumption), ?_⟩ | refine fun (_ : _ ≤ _) => ?_)); refine hK _ ?_; clear hK K)
  refine opsG0 ?_
  refine hK4 _ ?_
  refine Sm.condK (by rfl) fun Ka Kb ha hb => ?_
  simp only [wpCond, ev, ew, tys, tl, ↓reduceIte, reduceCtorEq, Nat.reduceAdd, Nat.reduceMul, Nat.reduceSub, Nat.reduceEqDiff, Nat.reduceLeDiff, Nat.reduceLT, Int.reduceToNat, Option.isSome_some, Option.getD_some]
  refine ⟨fun h5 => ha ?_, fun h5 => hb ?_⟩
  · replace H := bif_t h5 H
    refine Sm.seqK fun K6 hK6 => ?_
    refine Sm.regA (Γ := []) h00 mixed hΓ (by kernel_rfl) ?_
    simp only [rs]
    repeat (refine opsG fun K hK => ?_; simp (maxSteps := 2000000) only [ev, ew, tys, tl, ↓reduceIte, reduceCtorEq, Nat.reduceAdd, Nat.reduceMul, Nat.reduceSub, Nat.reduceEqDiff, Nat.reduceLeDiff, Nat.reduceLT, Int.reduceToNat, Option.isSome_some, Option.getD_some]; (repeat (first | refine ⟨by first | with_reducible assumption | omega | (intro hh; (repeat refine ⟨hh, ?_⟩); revert hh; with_reducible assumption), ?_⟩ | refine fun (_ : _ ≤ _) => ?_)); refine hK _ ?_; clear hK K)
    refine opsG0 ?_
    refine hK6 _ ?_
    refine Sm.ret ?_
    try simp only [↓reduceIte, reduceCtorEq, Exit.exit.injEq]
    obtain rfl := Option.some.inj H
    refine Ret.ofR [] (.inr rfl) ?_
    simp (maxSteps := 2000000) only [ev, ew, tys, tl, ↓reduceIte, reduceCtorEq, Nat.reduceAdd, Nat.reduceMul, Nat.reduceSub, Nat.reduceEqDiff, Nat.reduceLeDiff, Nat.reduceLT, Int.reduceToNat, Option.isSome_some, Option.getD_some]
    done
  · replace H := bif_f h5 H
    refine Sm.seqK fun K7 hK7 => ?_
    refine Sm.regA (Γ := []) h00 mixed hΓ (by kernel_rfl) ?_
    simp only [rs]
    repeat (refine opsG fun K hK => ?_; simp (maxSteps := 2000000) only [ev, ew, tys, tl, ↓reduceIte, reduceCtorEq, Nat.reduceAdd, Nat.reduceMul, Nat.reduceSub, Nat.reduceEqDiff, Nat.reduceLeDiff, Nat.reduceLT, Int.reduceToNat, Option.isSome_some, Option.getD_some]; (repeat (first | refine ⟨by first | with_reducible assumption | omega | (intro hh; (repeat refine ⟨hh, ?_⟩); revert hh; with_reducible assumption), ?_⟩ | refine fun (_ : _ ≤ _) => ?_)); refine hK _ ?_; clear hK K)
    refine opsG0 ?_
    refine hK7 _ ?_
    refine Sm.condK (by rfl) fun Ka Kb ha hb => ?_
    simp only [wpCond, ev, ew, tys, tl, ↓reduceIte, reduceCtorEq, Nat.reduceAdd, Nat.reduceMul, Nat.reduceSub, Nat.reduceEqDiff, Nat.reduceLeDiff, Nat.reduceLT, Int.reduceToNat, Option.isSome_some, Option.getD_some]
    refine ⟨fun h8 => ha ?_, fun h8 => hb ?_⟩
    · replace H := bif_t h8 H
      refine Sm.seqK fun K9 hK9 => ?_
      refine Sm.regA (Γ := []) h00 mixed hΓ (by kernel_rfl) ?_
      simp only [rs]
      repeat (refine opsG fun K hK => ?_; simp (maxSteps := 2000000) only [ev, ew, tys, tl, ↓reduceIte, reduceCtorEq, Nat.reduceAdd, Nat.reduceMul, Nat.reduceSub, Nat.reduceEqDiff, Nat.reduceLeDiff, Nat.reduceLT, Int.reduceToNat, Option.isSome_some, Option.getD_some]; (repeat (first | refine ⟨by first | with_reducible assumption | omega | (intro hh; (repeat refine ⟨hh, ?_⟩); revert hh; with_reducible assumption), ?_⟩ | refine fun (_ : _ ≤ _) => ?_)); refine hK _ ?_; clear hK K)
      refine opsG0 ?_
      refine hK9 _ ?_
      refine Sm.ret ?_
      try simp only [↓reduceIte, reduceCtorEq, Exit.exit.injEq]
      obtain rfl := Option.some.inj H
      refine Ret.ofR [] (.inr rfl) ?_
      simp (maxSteps := 2000000) only [ev, ew, tys, tl, ↓reduceIte, reduceCtorEq, Nat.reduceAdd, Nat.reduceMul, Nat.reduceSub, Nat.reduceEqDiff, Nat.reduceLeDiff, Nat.reduceLT, Int.reduceToNat, Option.isSome_some, Option.getD_some]
      done
    · replace H := bif_f h8 H
      refine Sm.seqK fun K10 hK10 => ?_
      refine Sm.regA (Γ := []) h00 mixed hΓ (by kernel_rfl) ?_
      simp only [rs]
      repeat (refine opsG fun K hK => ?_; simp (maxSteps := 2000000) only [ev, ew, tys, tl, ↓reduceIte, reduceCtorEq, Nat.reduceAdd, Nat.reduceMul, Nat.reduceSub, Nat.reduceEqDiff, Nat.reduceLeDiff, Nat.reduceLT, Int.reduceToNat, Option.isSome_some, Option.getD_some]; (repeat (first | refine ⟨by first | with_reducible assumption | omega | (intro hh; (repeat refine ⟨hh, ?_⟩); revert hh; with_reducible assumption), ?_⟩ | refine fun (_ : _ ≤ _) => ?_)); refine hK _ ?_; clear hK K)
      refine opsG0 ?_
      refine hK10 _ ?_
      refine Sm.condK (by rfl) fun Ka Kb ha hb => ?_
      simp only [wpCond, ev, ew, tys, tl, ↓reduceIte, reduceCtorEq, Nat.reduceAdd, Nat.reduceMul, Nat.reduceSub, Nat.reduceEqDiff, Nat.reduceLeDiff, Nat.reduceLT, Int.reduceToNat, Option.isSome_some, Option.getD_some]
      refine ⟨fun h11 => ha ?_, fun h11 => hb ?_⟩
      · replace H := bif_t h11 H
        refine Sm.seqK fun K12 hK12 => ?_
        refine Sm.regA (Γ := []) h00 mixed hΓ (by kernel_rfl) ?_
        simp only [rs]
        repeat (refine opsG fun K hK => ?_; simp (maxSteps := 2000000) only [ev, ew, tys, tl, ↓reduceIte, reduceCtorEq, Nat.reduceAdd, Nat.reduceMul, Nat.reduceSub, Nat.reduceEqDiff, Nat.reduceLeDiff, Nat.reduceLT, Int.reduceToNat, Option.isSome_some, Option.getD_some]; (repeat (first | refine ⟨by first | with_reducible assumption | omega | (intro hh; (repeat refine ⟨hh, ?_⟩); revert hh; with_reducible assumption), ?_⟩ | refine fun (_ : _ ≤ _) => ?_)); refine hK _ ?_; clear hK K)
        refine opsG0 ?_
        refine hK12 _ ?_
        refine Sm.ret ?_
        try simp only [↓reduceIte, reduceCtorEq, Exit.exit.injEq]
        obtain rfl := Option.some.inj H
        refine Ret.ofR [] (.inr rfl) ?_
        simp (maxSteps := 2000000) only [ev, ew, tys, tl, ↓reduceIte, reduceCtorEq, Nat.reduceAdd, Nat.reduceMul, Nat.reduceSub, Nat.reduceEqDiff, Nat.reduceLeDiff, Nat.reduceLT, Int.reduceToNat, Option.isSome_some, Option.getD_some]
        done
      · replace H := bif_f h11 H
        refine Sm.seqK fun K13 hK13 => ?_
        refine Sm.regA (Γ := []) h00 mixed hΓ (by kernel_rfl) ?_
        simp only [rs]
        repeat (refine opsG fun K hK => ?_; simp (maxSteps := 2000000) only [ev, ew, tys, tl, ↓reduceIte, reduceCtorEq, Nat.reduceAdd, Nat.reduceMul, Nat.reduceSub, Nat.reduceEqDiff, Nat.reduceLeDiff, Nat.reduceLT, Int.reduceToNat, Option.isSome_some, Option.getD_some]; (repeat (first | refine ⟨by first | with_reducible assumption | omega | (intro hh; (repeat refine ⟨hh, ?_⟩); revert hh; with_reducible assumption), ?_⟩ | refine fun (_ : _ ≤ _) => ?_)); refine hK _ ?_; clear hK K)
        refine opsG0 ?_
        refine hK13 _ ?_
        refine Sm.condK (by rfl) fun Ka Kb ha hb => ?_
        simp only [wpCond, ev, ew, tys, tl, ↓reduceIte, reduceCtorEq, Nat.reduceAdd, Nat.reduceMul, Nat.reduceSub, Nat.reduceEqDiff, Nat.reduceLeDiff, Nat.reduceLT, Int.reduceToNat, Option.isSome_some, Option.getD_some]
        refine ⟨fun h14 => ha ?_, fun h14 => hb ?_⟩
        · replace H := bif_t h14 H
          refine Sm.seqK fun K15 hK15 => ?_
          refine Sm.regA (Γ := []) h00 mixed hΓ (by kernel_rfl) ?_
          simp only [rs]
          repeat (refine opsG fun K hK => ?_; simp (maxSteps := 2000000) only [ev, ew, tys, tl, ↓reduceIte, reduceCtorEq, Nat.reduceAdd, Nat.reduceMul, Nat.reduceSub, Nat.reduceEqDiff, Nat.reduceLeDiff, Nat.reduceLT, Int.reduceToNat, Option.isSome_some, Option.getD_some]; (repeat (first | refine ⟨by first | with_reducible assumption | omega | (intro hh; (repeat refine ⟨hh, ?_⟩); revert hh; with_reducible assumption), ?_⟩ | refine fun (_ : _ ≤ _) => ?_)); refine hK _ ?_; clear hK K)
          refine opsG0 ?_
          refine hK15 _ ?_
          refine Sm.ret ?_
          try simp only [↓reduceIte, reduceCtorEq, Exit.exit.injEq]
          obtain rfl := Option.some.inj H
          refine Ret.ofR [] (.inr rfl) ?_
          simp (maxSteps := 2000000) only [ev, ew, tys, tl, ↓reduceIte, reduceCtorEq, Nat.reduceAdd, Nat.reduceMul, Nat.reduceSub, Nat.reduceEqDiff, Nat.reduceLeDiff, Nat.reduceLT, Int.reduceToNat, Option.isSome_some, Option.getD_some]
          done
        · replace H := bif_f h14 H
          refine Sm.seqK fun K16 hK16 => ?_
          refine Sm.regA (Γ := []) h00 mixed hΓ (by kernel_rfl) ?_
          simp only [rs]
          repeat (refine opsG fun K hK => ?_; simp (maxSteps := 2000000) only [ev, ew, tys, tl, ↓reduceIte, reduceCtorEq, Nat.reduceAdd, Nat.reduceMul, Nat.reduceSub, Nat.reduceEqDiff, Nat.reduceLeDiff, Nat.reduceLT, Int.reduceToNat, Option.isSome_some, Option.getD_some]; (repeat (first | refine ⟨by first | with_reducible assumption | omega | (intro hh; (repeat refine ⟨hh, ?_⟩); revert hh; with_reducible assumption), ?_⟩ | refine fun (_ : _ ≤ _) => ?_)); refine hK _ ?_; clear hK K)
          refine opsG0 ?_
          refine hK16 _ ?_
          refine Sm.condK (by rfl) fun Ka Kb ha hb => ?_
          simp only [wpCond, ev, ew, tys, tl, ↓reduceIte, reduceCtorEq, Nat.reduceAdd, Nat.reduceMul, Nat.reduceSub, Nat.reduceEqDiff, Nat.reduceLeDiff, Nat.reduceLT, Int.reduceToNat, Option.isSome_some, Option.getD_some]
          refine ⟨fun h17 => ha ?_, fun h17 => hb ?_⟩
          · replace H := bif_t h17 H
            refine Sm.seqK fun K18 hK18 => ?_
            refine Sm.regA (Γ := []) h00 mixed hΓ (by kernel_rfl) ?_
            simp only [rs]
            repeat (refine opsG fun K hK => ?_; simp (maxSteps := 2000000) only [ev, ew, tys, tl, ↓reduceIte, reduceCtorEq, Nat.reduceAdd, Nat.reduceMul, Nat.reduceSub, Nat.reduceEqDiff, Nat.reduceLeDiff, Nat.reduceLT, Int.reduceToNat, Option.isSome_some, Option.getD_some]; (repeat (first | refine ⟨by first | with_reducible assumption | omega | (intro hh; (repeat refine ⟨hh, ?_⟩); revert hh; with_reducible assumption), ?_⟩ | refine fun (_ : _ ≤ _) => ?_)); refine hK _ ?_; clear hK K)
            refine opsG0 ?_
            refine hK18 _ ?_
            refine Sm.ret ?_
            try simp only [↓reduceIte, reduceCtorEq, Exit.exit.injEq]
            obtain rfl := Option.some.inj H
            refine Ret.ofR [] (.inr rfl) ?_
            simp (maxSteps := 2000000) only [ev, ew, tys, tl, ↓reduceIte, reduceCtorEq, Nat.reduceAdd, Nat.reduceMul, Nat.reduceSub, Nat.reduceEqDiff, Nat.reduceLeDiff, Nat.reduceLT, Int.reduceToNat, Option.isSome_some, Option.getD_some]
            done
          · replace H := bif_f h17 H
            refine Sm.seqK fun K19 hK19 => ?_
            refine Sm.regA (Γ := []) h00 mixed hΓ (by kernel_rfl) ?_
            simp only [rs]
            repeat (refine opsG fun K hK => ?_; simp (maxSteps := 2000000) only [ev, ew, tys, tl, ↓reduceIte, reduceCtorEq, Nat.reduceAdd, Nat.reduceMul, Nat.reduceSub, Nat.reduceEqDiff, Nat.reduceLeDiff, Nat.reduceLT, Int.reduceToNat, Option.isSome_some, Option.getD_some]; (repeat (first | refine ⟨by first | with_reducible assumption | omega | (intro hh; (repeat refine ⟨hh, ?_⟩); revert hh; with_reducible assumption), ?_⟩ | refine fun (_ : _ ≤ _) => ?_)); refine hK _ ?_; clear hK K)
            refine opsG0 ?_
            refine hK19 _ ?_
            refine Sm.condK (by rfl) fun Ka Kb ha hb => ?_
            simp only [wpCond, ev, ew, tys, tl, ↓reduceIte, reduceCtorEq, Nat.reduceAdd, Nat.reduceMul, Nat.reduceSub, Nat.reduceEqDiff, Nat.reduceLeDiff, Nat.reduceLT, Int.reduceToNat, Option.isSome_some, Option.getD_some]
            refine ⟨fun h20 => ha ?_, fun h20 => hb ?_⟩
            · replace H := bif_t h20 H
              refine Sm.seqK fun K21 hK21 => ?_
              refine Sm.regA (Γ := []) h00 mixed hΓ (by kernel_rfl) ?_
              simp only [rs]
              repeat (refine opsG fun K hK => ?_; simp (maxSteps := 2000000) only [ev, ew, tys, tl, ↓reduceIte, reduceCtorEq, Nat.reduceAdd, Nat.reduceMul, Nat.reduceSub, Nat.reduceEqDiff, Nat.reduceLeDiff, Nat.reduceLT, Int.reduceToNat, Option.isSome_some, Option.getD_some]; (repeat (first | refine ⟨by first | with_reducible assumption | omega | (intro hh; (repeat refine ⟨hh, ?_⟩); revert hh; with_reducible assumption), ?_⟩ | refine fun (_ : _ ≤ _) => ?_)); refine hK _ ?_; clear hK K)
              refine opsG0 ?_
              refine hK21 _ ?_
              refine Sm.ret ?_
              try simp only [↓reduceIte, reduceCtorEq, Exit.exit.injEq]
              obtain rfl := Option.some.inj H
              refine Ret.ofR [] (.inr rfl) ?_
              simp (maxSteps := 2000000) only [ev, ew, tys, tl, ↓reduceIte, reduceCtorEq, Nat.reduceAdd, Nat.reduceMul, Nat.reduceSub, Nat.reduceEqDiff, Nat.reduceLeDiff, Nat.reduceLT, Int.reduceToNat, Option.isSome_some, Option.getD_some]
              done
            · replace H := bif_f h20 H
              refine Sm.skip ?_
              refine hK2 _ ?_
              refine Sm.seqK fun K22 hK22 => ?_
              refine Sm.regA (Γ := []) h00 mixed hΓ (by kernel_rfl) ?_
              simp only [rs]
              repeat (refine opsG fun K hK => ?_; simp (maxSteps := 2000000) only [ev, ew, tys, tl, ↓reduceIte, reduceCtorEq, Nat.reduceAdd, Nat.reduceMul, Nat.reduceSub, Nat.reduceEqDiff, Nat.reduceLeDiff, Nat.reduceLT, Int.reduceToNat, Option.isSome_some, Option.getD_some]; (repeat (first | refine ⟨by first | with_reducible assumption | omega | (intro hh; (repeat refine ⟨hh, ?_⟩); revert hh; with_reducible assumption), ?_⟩ | refine fun (_ : _ ≤ _) => ?_)); refine hK _ ?_; clear hK K)
              refine opsG0 ?_
              refine hK22 _ ?_
              refine Sm.ret ?_
              try simp only [↓reduceIte, reduceCtorEq, Exit.exit.injEq]
              obtain rfl := Option.some.inj H
              refine Ret.ofR [] (.inr rfl) ?_
              simp (maxSteps := 2000000) only [ev, ew, tys, tl, ↓reduceIte, reduceCtorEq, Nat.reduceAdd, Nat.reduceMul, Nat.reduceSub, Nat.reduceEqDiff, Nat.reduceLeDiff, Nat.reduceLT, Int.reduceToNat, Option.isSome_some, Option.getD_some]
              done

abbrev flow_Stop_s1 : S := stB [] []

def flow_Stop_k1 (n : Nat) : Option Bool :=
  some false

abbrev flow_Stop_t2 (end_ : TStepEnd) (conds : List TCond) (v11 : Int) (v12 : Int) : S := stB [(3, .box 9001 0), (10, .c (.slice 27) (.slice (List.map e_TCond conds))), (11, .c (.int .i64) (.int v11)), (12, .c (.int .i64) (.int v12))] [(9001, .box [.c (.int .i64) (.int end_.Kind), .c (.int .i64) (.int end_.Code), .c (.int .i64) (.int end_.Ins), .c (.int .i64) (.int end_.Ios)])]

def flow_Stop_b2 (n : Nat) (end_ : TStepEnd) (conds : List TCond) (v11 : Int) (v12 : Int) : Option ((Int) ⊕ (((Bool) ⊕ (Unit)))) :=
  bif (decide (v12 < v11)) then
    gd ((0 ≤ v12 ∧ v12 < (conds.length : Int))) <|
    gd (((((gt conds (Int.toNat v12)).Step) == []) = true → (flow_Test n (gt conds (Int.toNat v12)) end_.Code).isSome = true)) <|
    bif (if (((gt conds (Int.toNat v12)).Step) == []) = true then ((flow_Test n (gt conds (Int.toNat v12)) end_.Code).getD default) else false) then
      some (.inr (.inl true))
    else
      some (.inl (IntKind.wrap .i64 (v12 + 1)))
  else
    some (.inr (.inr ()))

def flow_Stop (n : Nat) (conds : List TCond) (end_ : TStepEnd) : Option Bool :=
  bif (end_.Kind != 1) then
    some false
  else
    (loopF (fun (x : Int) => flow_Stop_b2 n end_ conds (conds.length : Int) x) n 0).bind fun y8 =>
    match y8 with
    | .inl v =>
      some v
    | .inr v =>
      flow_Stop_k1 n

def xflow_Stop (n : Nat) : Go.AE.Fn := mkFn (A := (List TCond) × TStepEnd) (R := Bool) 11 [(false, [.slice 27]), (true, [.int .i64, .int .i64, .int .i64, .int .i64])] false (fun xs => (((cg (xs.getD 0 []) 0).toSl.map d_TCond), (⟨(cg (xs.getD 1 []) 0).toInt, (cg (xs.getD 1 []) 1).toInt, (cg (xs.getD 1 []) 2).toInt, (cg (xs.getD 1 []) 3).toInt⟩ : TStepEnd))) (fun a => [[.slice (List.map e_TCond a.1)], [.int a.2.Kind, .int a.2.Code, .int a.2.Ins, .int a.2.Ios]]) (fun a => flow_Stop n a.1 a.2) (fun r => [.c .bool (.bool r)]) (fun r => [])

theorem cflow_Stop (n : Nat) : Contract Try.prog (xflow_Stop n) := by
  have hΓ : ∀ g, g ∈ ([xflow_Test n] : List Go.AE.Fn) → Contract Try.prog g := by
    intro g hg; simp only [List.mem_cons, List.not_mem_nil, or_false] at hg; subst hg; exact cflow_Test n
  refine contract_f (Try.f11.body.getD .skip) h00 Try.func11 rfl (by intro args w; exact Try.call11 args w) (by decide) (by intro _ r; exact ⟨rfl, by simp⟩) ?_
  rintro ⟨conds, end_⟩ r H
  try dsimp only at H
  unfold flow_Stop at H
  simp only [Try.f11, Option.getD]
  refine Sm.seqK fun K1 hK1 => ?_
  refine Sm.regA (Γ := [xflow_Test n]) h00 mixed hΓ (by kernel_rfl) ?_
  simp only [rs]
  repeat (refine opsG fun K hK => ?_; simp (maxSteps := 2000000) only [ev, ew, tys, tl, ↓reduceIte, reduceCtorEq, Nat.reduceAdd, Nat.reduceMul, Nat.reduceSub, Nat.reduceEqDiff, Nat.reduceLeDiff, Nat.reduceLT, Int.reduceToNat, xflow_Test, flow_Stop_s1, flow_Stop_t2, Option.isSome_some, Option.getD_some]; (repeat (first | refine ⟨by first | with_reducible assumption | omega | (intro hh; (repeat refine ⟨hh, ?_⟩); revert hh; with_reducible assumption), ?_⟩ | refine fun (_ : _ ≤ _) => ?_)); refine hK _ ?_; clear hK K)
  refine opsG0 ?_
  refine hK1 _ ?_
  refine Sm.seqK fun K2 hK2 => ?_
  refine Sm.seqK fun K3 hK3 => ?_
  refine Sm.regA (Γ := [xflow_Test n]) h00 mixed hΓ (by kernel_rfl) ?_
  simp only [rs]
  repeat (refine opsG fun K hK => ?_; simp (maxSteps := 2000000) only [ev, ew, tys, tl, ↓reduceIte, reduceCtorEq, Nat.reduceAdd, Nat.reduceMul, Nat.reduceSub, Nat.reduceEqDiff, Nat.reduceLeDiff, Nat.reduceLT, Int.reduceToNat, xflow_Test, flow_Stop_s1, flow_Stop_t2, Option.isSome_some, Option.getD_some]; (repeat (first | refine ⟨by first | with_reducible assumption | omega | (intro hh; (repeat refine ⟨hh, ?_⟩); revert hh; with_reducible assumption), ?_⟩ | refine fun (_ : _ ≤ _) => ?_)); refine hK _ ?_; clear hK K)
  refine opsG0 ?_
  refine hK3 _ ?_
  refine Sm.condK (by rfl) fun Ka Kb ha hb => ?_
  simp only [wpCond, ev, ew, tys, tl, ↓reduceIte, reduceCtorEq, Nat.reduceAdd, Nat.reduceMul, Nat.reduceSub, Nat.reduceEqDiff, Nat.reduceLeDiff, Nat.reduceLT, Int.reduceToNat, xflow_Test, flow_Stop_s1, flow_Stop_t2, Option.isSome_some, Option.getD_some]
  refine ⟨fun h4 => ha ?_, fun h4 => hb ?_⟩
  · replace H := bif_t h4 H
    refine Sm.seqK fun K5 hK5 => ?_
    refine Sm.regA (Γ := [xflow_Test n]) h00 mixed hΓ (by kernel_rfl) ?_
    simp only [rs]
    repeat (refine opsG fun K hK => ?_; simp (maxSteps := 2000000) only [ev, ew, tys, tl, ↓reduceIte, reduceCtorEq, Nat.reduceAdd, Nat.reduceMul, Nat.reduceSub, Nat.reduceEqDiff, Nat.reduceLeDiff, Nat.reduceLT, Int.reduceToNat, xflow_Test, flow_Stop_s1, flow_Stop_t2, Option.isSome_some, Option.getD_some]; (repeat (first | refine ⟨by first | with_reducible assumption | omega | (intro hh; (repeat refine ⟨hh, ?_⟩); revert hh; with_reducible assumption), ?_⟩ | refine fun (_ : _ ≤ _) => ?_)); refine hK _ ?_; clear hK K)
    refine opsG0 ?_
    refine hK5 _ ?_
    refine Sm.ret ?_
    try simp only [↓reduceIte, reduceCtorEq, Exit.exit.injEq]
    obtain rfl := Option.some.inj H
    refine Ret.ofR [] (.inr rfl) ?_
    simp (maxSteps := 2000000) only [ev, ew, tys, tl, ↓reduceIte, reduceCtorEq, Nat.reduceAdd, Nat.reduceMul, Nat.reduceSub, Nat.reduceEqDiff, Nat.reduceLeDiff, Nat.reduceLT, Int.reduceToNat, xflow_Test, flow_Stop_s1, flow_Stop_t2, Option.isSome_some, Option.getD_some]
    done
  · replace H := bif_f h4 H
    refine Sm.skip ?_
    refine hK2 _ ?_
    refine Sm.cut (fun (x : Unit) => flow_Stop_s1) (fun x => flow_Stop_k1 n = some r) ?_ ?_
    · refine Sm.seqK fun K7 hK7 => ?_
      refine Sm.regA (Γ := [xflow_Test n]) h00 mixed hΓ (by kernel_rfl) ?_
      simp only [rs]
      repeat (refine opsG fun K hK => ?_; simp (maxSteps := 2000000) only [ev, ew, tys, tl, ↓reduceIte, reduceCtorEq, Nat.reduceAdd, Nat.reduceMul, Nat.reduceSub, Nat.reduceEqDiff, Nat.reduceLeDiff, Nat.reduceLT, Int.reduceToNat, xflow_Test, flow_Stop_s1, flow_Stop_t2, Option.isSome_some, Option.getD_some]; (repeat (first | refine ⟨by first | with_reducible assumption | omega | (intro hh; (repeat refine ⟨hh, ?_⟩); revert hh; with_reducible assumption), ?_⟩ | refine fun (_ : _ ≤ _) => ?_)); refine hK _ ?_; clear hK K)
      refine opsG0 ?_
      refine hK7 _ ?_
      refine Sm.block ?_
      obtain ⟨y8, hy8, Ho8⟩ := bind_some H
      refine Sm.loopB (fun (x : Int) => flow_Stop_b2 n end_ conds (conds.length : Int) x) (fun x => flow_Stop_t2 end_ conds (conds.length : Int) x) hy8 ?_ ?_
      · exact weak_b [some 48] rfl rfl (by simp only [wk, ev, ew, tys, tl, ↓reduceIte, reduceCtorEq, Nat.reduceAdd, Nat.reduceMul, Nat.reduceSub, Nat.reduceEqDiff, Nat.reduceLeDiff, Nat.reduceLT, Int.reduceToNat, flow_Stop_s1, flow_Stop_t2]) (by simp only [wk, ev, ew, tys, tl, ↓reduceIte, reduceCtorEq, Nat.reduceAdd, Nat.reduceMul, Nat.reduceSub, Nat.reduceEqDiff, Nat.reduceLeDiff, Nat.reduceLT, Int.reduceToNat, flow_Stop_s1, flow_Stop_t2])
      · rintro v12 z8 H
        try dsimp only at H
        unfold flow_Stop_b2 at H
        refine Sm.seqK fun K9 hK9 => ?_
        refine Sm.regA (Γ := [xflow_Test n]) h00 mixed hΓ (by kernel_rfl) ?_
        simp only [rs]
        repeat (refine opsG fun K hK => ?_; simp (maxSteps := 2000000) only [ev, ew, tys, tl, ↓reduceIte, reduceCtorEq, Nat.reduceAdd, Nat.reduceMul, Nat.reduceSub, Nat.reduceEqDiff, Nat.reduceLeDiff, Nat.reduceLT, Int.reduceToNat, xflow_Test, flow_Stop_s1, flow_Stop_t2, Option.isSome_some, Option.getD_some]; (repeat (first | refine ⟨by first | with_reducible assumption | omega | (intro hh; (repeat refine ⟨hh, ?_⟩); revert hh; with_reducible assumption), ?_⟩ | refine fun (_ : _ ≤ _) => ?_)); refine hK _ ?_; clear hK K)
        refine opsG0 ?_
        refine hK9 _ ?_
        refine Sm.seqK fun K10 hK10 => ?_
        refine Sm.condK (by rfl) fun Ka Kb ha hb => ?_
        simp only [wpCond, ev, ew, tys, tl, ↓reduceIte, reduceCtorEq, Nat.reduceAdd, Nat.reduceMul, Nat.reduceSub, Nat.reduceEqDiff, Nat.reduceLeDiff, Nat.reduceLT, Int.reduceToNat, xflow_Test, flow_Stop_s1, flow_Stop_t2, Option.isSome_some, Option.getD_some]
        refine ⟨fun h11 => ha ?_, fun h11 => hb ?_⟩
        · replace H := bif_t h11 H
          refine Sm.skip ?_
          refine hK10 _ ?_
          refine Sm.seqK fun K12 hK12 => ?_
          refine Sm.block ?_
          refine Sm.seqK fun K13 hK13 => ?_
          obtain ⟨hg18, H⟩ := gd_some H
          refine Sm.regA (Γ := [xflow_Test n]) h00 mixed hΓ (by kernel_rfl) ?_
          simp only [rs]
          repeat (refine opsG fun K hK => ?_; simp (maxSteps := 2000000) only [ev, ew, tys, tl, ↓reduceIte, reduceCtorEq, Nat.reduceAdd, Nat.reduceMul, Nat.reduceSub, Nat.reduceEqDiff, Nat.reduceLeDiff, Nat.reduceLT, Int.reduceToNat, xflow_Test, flow_Stop_s1, flow_Stop_t2, Option.isSome_some, Option.getD_some]; (repeat (first | refine ⟨by first | with_reducible assumption | omega | (intro hh; (repeat refine ⟨hh, ?_⟩); revert hh; with_reducible assumption), ?_⟩ | refine fun (_ : _ ≤ _) => ?_)); refine hK _ ?_; clear hK K)
          refine opsG0 ?_
          refine hK13 _ ?_
          refine Sm.seqK fun K14 hK14 => ?_
          obtain ⟨hg17, H⟩ := gd_some H
          refine Sm.regA (Γ := [xflow_Test n]) h00 mixed hΓ (by kernel_rfl) ?_
          simp only [rs]
          repeat (refine opsG fun K hK => ?_; simp (maxSteps := 2000000) only [ev, ew, tys, tl, ↓reduceIte, reduceCtorEq, Nat.reduceAdd, Nat.reduceMul, Nat.reduceSub, Nat.reduceEqDiff, Nat.reduceLeDiff, Nat.reduceLT, Int.reduceToNat, xflow_Test, flow_Stop_s1, flow_Stop_t2, Option.isSome_some, Option.getD_some]; (repeat (first | refine ⟨by first | with_reducible assumption | omega | (intro hh; (repeat refine ⟨hh, ?_⟩); revert hh; with_reducible assumption), ?_⟩ | refine fun (_ : _ ≤ _) => ?_)); refine hK _ ?_; clear hK K)
          refine opsG0 ?_
          refine hK14 _ ?_
          refine Sm.condK (by rfl) fun Ka Kb ha hb => ?_
          simp only [wpCond, ev, ew, tys, tl, ↓reduceIte, reduceCtorEq, Nat.reduceAdd, Nat.reduceMul, Nat.reduceSub, Nat.reduceEqDiff, Nat.reduceLeDiff, Nat.reduceLT, Int.reduceToNat, xflow_Test, flow_Stop_s1, flow_Stop_t2, Option.isSome_some, Option.getD_some]
          refine ⟨fun h15 => ha ?_, fun h15 => hb ?_⟩
          · replace H := bif_t h15 H
            refine Sm.seqK fun K16 hK16 => ?_
            refine Sm.regA (Γ := [xflow_Test n]) h00 mixed hΓ (by kernel_rfl) ?_
            simp only [rs]
            repeat (refine opsG fun K hK => ?_; simp (maxSteps := 2000000) only [ev, ew, tys, tl, ↓reduceIte, reduceCtorEq, Nat.reduceAdd, Nat.reduceMul, Nat.reduceSub, Nat.reduceEqDiff, Nat.reduceLeDiff, Nat.reduceLT, Int.reduceToNat, xflow_Test, flow_Stop_s1, flow_Stop_t2, Option.isSome_some, Option.getD_some]; (repeat (first | refine ⟨by first | with_reducible assumption | omega | (intro hh; (repeat refine ⟨hh, ?_⟩); revert hh; with_reducible assumption), ?_⟩ | refine fun (_ : _ ≤ _) => ?_)); refine hK _ ?_; clear hK K)
            refine opsG0 ?_
            refine hK16 _ ?_
            refine Sm.ret ?_
            try simp only [↓reduceIte, reduceCtorEq, Exit.exit.injEq]
            refine ⟨⟨_, (Option.some.inj H).symm⟩, fun hz => ?_⟩
            have hyy := Sum.inr.inj ((Option.some.inj H).trans hz)
            subst hyy
            have H := Ho8
            try dsimp only at H
            try simp only [↓reduceIte, reduceCtorEq, Exit.exit.injEq]
            obtain rfl := Option.some.inj H
            refine Ret.ofR [] (.inr rfl) ?_
            simp (maxSteps := 2000000) only [ev, ew, tys, tl, ↓reduceIte, reduceCtorEq, Nat.reduceAdd, Nat.reduceMul, Nat.reduceSub, Nat.reduceEqDiff, Nat.reduceLeDiff, Nat.reduceLT, Int.reduceToNat, xflow_Test, flow_Stop_s1, flow_Stop_t2, Option.isSome_some, Option.getD_some]
            done
          · replace H := bif_f h15 H
            refine Sm.skip ?_
            refine hK12 _ ?_
            refine Sm.regA (Γ := [xflow_Test n]) h00 mixed hΓ (by kernel_rfl) ?_
            simp only [rs]
            repeat (refine opsG fun K hK => ?_; simp (maxSteps := 2000000) only [ev, ew, tys, tl, ↓reduceIte, reduceCtorEq, Nat.reduceAdd, Nat.reduceMul, Nat.reduceSub, Nat.reduceEqDiff, Nat.reduceLeDiff, Nat.reduceLT, Int.reduceToNat, xflow_Test, flow_Stop_s1, flow_Stop_t2, Option.isSome_some, Option.getD_some]; (repeat (first | refine ⟨by first | with_reducible assumption | omega | (intro hh; (repeat refine ⟨hh, ?_⟩); revert hh; with_reducible assumption), ?_⟩ | refine fun (_ : _ ≤ _) => ?_)); refine hK _ ?_; clear hK K)
            refine opsG0 ?_
            try simp only [↓reduceIte, reduceCtorEq, Exit.exit.injEq]
            refine ⟨_, (Option.some.inj H).symm, ?_⟩
            exact weak_b [some 9001] rfl rfl (by simp only [wk, ev, ew, tys, tl, ↓reduceIte, reduceCtorEq, Nat.reduceAdd, Nat.reduceMul, Nat.reduceSub, Nat.reduceEqDiff, Nat.reduceLeDiff, Nat.reduceLT, Int.reduceToNat, flow_Stop_s1, flow_Stop_t2]) (by simp only [wk, ev, ew, tys, tl, ↓reduceIte, reduceCtorEq, Nat.reduceAdd, Nat.reduceMul, Nat.reduceSub, Nat.reduceEqDiff, Nat.reduceLeDiff, Nat.reduceLT, Int.reduceToNat, flow_Stop_s1, flow_Stop_t2])
        · replace H := bif_f h11 H
          refine Sm.exit ?_
          try simp only [↓reduceIte, reduceCtorEq, Exit.exit.injEq]
          refine ⟨⟨_, (Option.some.inj H).symm⟩, fun hz => ?_⟩
          have hyy := Sum.inr.inj ((Option.some.inj H).trans hz)
          subst hyy
          have H := Ho8
          try dsimp only at H
          try simp only [↓reduceIte, reduceCtorEq, Exit.exit.injEq]
          refine ⟨(), H, ?_⟩
          exact weak_b [] rfl rfl (by simp only [wk, ev, ew, tys, tl, ↓reduceIte, reduceCtorEq, Nat.reduceAdd, Nat.reduceMul, Nat.reduceSub, Nat.reduceEqDiff, Nat.reduceLeDiff, Nat.reduceLT, Int.reduceToNat, flow_Stop_s1, flow_Stop_t2]) (by simp only [wk, ev, ew, tys, tl, ↓reduceIte, reduceCtorEq, Nat.reduceAdd, Nat.reduceMul, Nat.reduceSub, Nat.reduceEqDiff, Nat.reduceLeDiff, Nat.reduceLT, Int.reduceToNat, flow_Stop_s1, flow_Stop_t2])
    · rintro ⟨⟩ H
      try dsimp only at H
      unfold flow_Stop_k1 at H
      refine Sm.seqK fun K6 hK6 => ?_
      refine Sm.regA (Γ := [xflow_Test n]) h00 mixed hΓ (by kernel_rfl) ?_
      simp only [rs]
      repeat (refine opsG fun K hK => ?_; simp (maxSteps := 2000000) only [ev, ew, tys, tl, ↓reduceIte, reduceCtorEq, Nat.reduceAdd, Nat.reduceMul, Nat.reduceSub, Nat.reduceEqDiff, Nat.reduceLeDiff, Nat.reduceLT, Int.reduceToNat, xflow_Test, flow_Stop_s1, flow_Stop_t2, Option.isSome_some, Option.getD_some]; (repeat (first | refine ⟨by first | with_reducible assumption | omega | (intro hh; (repeat refine ⟨hh, ?_⟩); revert hh; with_reducible assumption), ?_⟩ | refine fun (_ : _ ≤ _) => ?_)); refine hK _ ?_; clear hK K)
      refine opsG0 ?_
      refine hK6 _ ?_
      refine Sm.ret ?_
      try simp only [↓reduceIte, reduceCtorEq, Exit.exit.injEq]
      obtain rfl := Option.some.inj H
      refine Ret.ofR [] (.inr rfl) ?_
      simp (maxSteps := 2000000) only [ev, ew, tys, tl, ↓reduceIte, reduceCtorEq, Nat.reduceAdd, Nat.reduceMul, Nat.reduceSub, Nat.reduceEqDiff, Nat.reduceLeDiff, Nat.reduceLT, Int.reduceToNat, xflow_Test, flow_Stop_s1, flow_Stop_t2, Option.isSome_some, Option.getD_some]
      done

abbrev ref36_Stop_s1 : S := stB [] []

def ref36_Stop_k1 (n : Nat) : Option Bool :=
  some false

abbrev ref36_Stop_t2 (conds : List TCond) (end_ : TStepEnd) (i : Int) : S := stB [(0, .c (.slice 27) (.slice (List.map e_TCond conds))), (3, .box 9001 0), (5, .c (.int .i64) (.int i))] [(9001, .box [.c (.int .i64) (.int end_.Kind), .c (.int .i64) (.int end_.Code), .c (.int .i64) (.int end_.Ins), .c (.int .i64) (.int end_.Ios)])]

def ref36_Stop_b2 (n : Nat) (conds : List TCond) (end_ : TStepEnd) (i : Int) : Option ((Int) ⊕ (((Bool) ⊕ (Unit)))) :=
  bif (decide (i < (conds.length : Int))) then
    gd (((end_.Kind == 1) = true → (0 ≤ i ∧ i < (conds.length : Int))) ∧ ((if (end_.Kind == 1) = true then (((gt conds (Int.toNat i)).Step) == []) else false) = true → (0 ≤ i ∧ i < (conds.length : Int))) ∧ ((if (end_.Kind == 1) = true then (((gt conds (Int.toNat i)).Step) == []) else false) = true → (ref36_Test n (gt conds (Int.toNat i)) end_.Code).isSome = true)) <|
    bif (if (if (end_.Kind == 1) = true then (((gt conds (Int.toNat i)).Step) == []) else false) = true then ((ref36_Test n (gt conds (Int.toNat i)) end_.Code).getD default) else false) then
      some (.inr (.inl true))
    else
      some (.inl (IntKind.wrap .i64 (i + 1)))
  else
    some (.inr (.inr ()))

def ref36_Stop (n : Nat) (conds : List TCond) (end_ : TStepEnd) : Option Bool :=
  (loopF (fun (x : Int) => ref36_Stop_b2 n conds end_ x) n 0).bind fun y4 =>
  match y4 with
  | .inl v =>
    some v
  | .inr v =>
    ref36_Stop_k1 n

def xref36_Stop (n : Nat) : Go.AE.Fn := mkFn (A := (List TCond) × TStepEnd) (R := Bool) 12 [(false, [.slice 27]), (true, [.int .i64, .int .i64, .int .i64, .int .i64])] false (fun xs => (((cg (xs.getD 0 []) 0).toSl.map d_TCond), (⟨(cg (xs.getD 1 []) 0).toInt, (cg (xs.getD 1 []) 1).toInt, (cg (xs.getD 1 []) 2).toInt, (cg (xs.getD 1 []) 3).toInt⟩ : TStepEnd))) (fun a => [[.slice (List.map e_TCond a.1)], [.int a.2.Kind, .int a.2.Code, .int a.2.Ins, .int a.2.Ios]]) (fun a => ref36_Stop n a.1 a.2) (fun r => [.c .bool (.bool r)]) (fun r => [])

theorem cref36_Stop (n : Nat) : Contract Try.prog (xref36_Stop n) := by
  have hΓ : ∀ g, g ∈ ([xref36_Test n] : List Go.AE.Fn) → Contract Try.prog g := by
    intro g hg; simp only [List.mem_cons, List.not_mem_nil, or_false] at hg; subst hg; exact cref36_Test n
  refine contract_f (Try.f12.body.getD .skip) h00 Try.func12 rfl (by intro args w; exact Try.call12 args w) (by decide) (by intro _ r; exact ⟨rfl, by simp⟩) ?_
  rintro ⟨conds, end_⟩ r H
  try dsimp only at H
  unfold ref36_Stop at H
  simp only [Try.f12, Option.getD]
  refine Sm.seqK fun K1 hK1 => ?_
  refine Sm.regA (Γ := [xref36_Test n]) h00 mixed hΓ (by kernel_rfl) ?_
  simp only [rs]
  repeat (refine opsG fun K hK => ?_; simp (maxSteps := 2000000) only [ev, ew, tys, tl, ↓reduceIte, reduceCtorEq, Nat.reduceAdd, Nat.reduceMul, Nat.reduceSub, Nat.reduceEqDiff, Nat.reduceLeDiff, Nat.reduceLT, Int.reduceToNat, xref36_Test, ref36_Stop_s1, ref36_Stop_t2, Option.isSome_some, Option.getD_some]; (repeat (first | refine ⟨by first | with_reducible assumption | omega | (intro hh; (repeat refine ⟨hh, ?_⟩); revert hh; with_reducible assumption), ?_⟩ | refine fun (_ : _ ≤ _) => ?_)); refine hK _ ?_; clear hK K)
  refine opsG0 ?_
  refine hK1 _ ?_
  refine Sm.cut (fun (x : Unit) => ref36_Stop_s1) (fun x => ref36_Stop_k1 n = some r) ?_ ?_
  · refine Sm.seqK fun K3 hK3 => ?_
    refine Sm.regA (Γ := [xref36_Test n]) h00 mixed hΓ (by kernel_rfl) ?_
    simp only [rs]
    repeat (refine opsG fun K hK => ?_; simp (maxSteps := 2000000) only [ev, ew, tys, tl, ↓reduceIte, reduceCtorEq, Nat.reduceAdd, Nat.reduceMul, Nat.reduceSub, Nat.reduceEqDiff, Nat.reduceLeDiff, Nat.reduceLT, Int.reduceToNat, xref36_Test, ref36_Stop_s1, ref36_Stop_t2, Option.isSome_some, Option.getD_some]; (repeat (first | refine ⟨by first | with_reducible assumption | omega | (intro hh; (repeat refine ⟨hh, ?_⟩); revert hh; with_reducible assumption), ?_⟩ | refine fun (_ : _ ≤ _) => ?_)); refine hK _ ?_; clear hK K)
    refine opsG0 ?_
    refine hK3 _ ?_
    refine Sm.block ?_
    obtain ⟨y4, hy4, Ho4⟩ := bind_some H
    refine Sm.loopB (fun (x : Int) => ref36_Stop_b2 n conds end_ x) (fun x => ref36_Stop_t2 conds end_ x) hy4 ?_ ?_
    · exact weak_b [some 48] rfl rfl (by simp only [wk, ev, ew, tys, tl, ↓reduceIte, reduceCtorEq, Nat.reduceAdd, Nat.reduceMul, Nat.reduceSub, Nat.reduceEqDiff, Nat.reduceLeDiff, Nat.reduceLT, Int.reduceToNat, ref36_Stop_s1, ref36_Stop_t2]) (by simp only [wk, ev, ew, tys, tl, ↓reduceIte, reduceCtorEq, Nat.reduceAdd, Nat.reduceMul, Nat.reduceSub, Nat.reduceEqDiff, Nat.reduceLeDiff, Nat.reduceLT, Int.reduceToNat, ref36_Stop_s1, ref36_Stop_t2])
    · rintro i z4 H
      try dsimp only at H
      unfold ref36_Stop_b2 at H
      refine Sm.seqK fun K5 hK5 => ?_
      refine Sm.seqK fun K6 hK6 => ?_
      refine Sm.regA (Γ := [xref36_Test n]) h00 mixed hΓ (by kernel_rfl) ?_
      simp only [rs]
      repeat (refine opsG fun K hK => ?_; simp (maxSteps := 2000000) only [ev, ew, tys, tl, ↓reduceIte, reduceCtorEq, Nat.reduceAdd, Nat.reduceMul, Nat.reduceSub, Nat.reduceEqDiff, Nat.reduceLeDiff, Nat.reduceLT, Int.reduceToNat, xref36_Test, ref36_Stop_s1, ref36_Stop_t2, Option.isSome_some, Option.getD_some]; (repeat (first | refine ⟨by first | with_reducible assumption | omega | (intro hh; (repeat refine ⟨hh, ?_⟩); revert hh; with_reducible assumption), ?_⟩ | refine fun (_ : _ ≤ _) => ?_)); refine hK _ ?_; clear hK K)
      refine opsG0 ?_
      refine hK6 _ ?_
      refine Sm.condK (by rfl) fun Ka Kb ha hb => ?_
      simp only [wpCond, ev, ew, tys, tl, ↓reduceIte, reduceCtorEq, Nat.reduceAdd, Nat.reduceMul, Nat.reduceSub, Nat.reduceEqDiff, Nat.reduceLeDiff, Nat.reduceLT, Int.reduceToNat, xref36_Test, ref36_Stop_s1, ref36_Stop_t2, Option.isSome_some, Option.getD_some]
      refine ⟨fun h7 => ha ?_, fun h7 => hb ?_⟩
      · replace H := bif_t h7 H
        refine Sm.skip ?_
        refine hK5 _ ?_
        refine Sm.seqK fun K8 hK8 => ?_
        refine Sm.block ?_
        refine Sm.seqK fun K9 hK9 => ?_
        obtain ⟨⟨hg12, hg13, hg14⟩, H⟩ := gd_some H
        refine Sm.regD (Γ := [xref36_Test n]) h00 mixed hΓ (by kernel_rfl) ?_
        simp only [rs]
        repeat (refine opsH fun K hK => ?_; simp (maxSteps := 2000000) only [ev, ew, tys, tl, ↓reduceIte, reduceCtorEq, Nat.reduceAdd, Nat.reduceMul, Nat.reduceSub, Nat.reduceEqDiff, Nat.reduceLeDiff, Nat.reduceLT, Int.reduceToNat, xref36_Test, ref36_Stop_s1, ref36_Stop_t2, Option.isSome_some, Option.getD_some]; (repeat (first | refine ⟨by first | with_reducible assumption | omega | (intro hh; (repeat refine ⟨hh, ?_⟩); revert hh; with_reducible assumption), ?_⟩ | refine fun (_ : _ ≤ _) => ?_)); refine hK _ ?_; clear hK K)
        refine opsH0 ?_
        refine hK9 _ ?_
        refine Sm.condK (by rfl) fun Ka Kb ha hb => ?_
        simp only [wpCond, ev, ew, tys, tl, ↓reduceIte, reduceCtorEq, Nat.reduceAdd, Nat.reduceMul, Nat.reduceSub, Nat.reduceEqDiff, Nat.reduceLeDiff, Nat.reduceLT, Int.reduceToNat, xref36_Test, ref36_Stop_s1, ref36_Stop_t2, Option.isSome_some, Option.getD_some]
        refine ⟨fun h10 => ha ?_, fun h10 => hb ?_⟩
        · replace H := bif_t h10 H
          refine Sm.seqK fun K11 hK11 => ?_
          refine Sm.regA (Γ := [xref36_Test n]) h00 mixed hΓ (by kernel_rfl) ?_
          simp only [rs]
          repeat (refine opsG fun K hK => ?_; simp (maxSteps := 2000000) only [ev, ew, tys, tl, ↓reduceIte, reduceCtorEq, Nat.reduceAdd, Nat.reduceMul, Nat.reduceSub, Nat.reduceEqDiff, Nat.reduceLeDiff, Nat.reduceLT, Int.reduceToNat, xref36_Test, ref36_Stop_s1, ref36_Stop_t2, Option.isSome_some, Option.getD_some]; (repeat (first | refine ⟨by first | with_reducible assumption | omega | (intro hh; (repeat refine ⟨hh, ?_⟩); revert hh; with_reducible assumption), ?_⟩ | refine fun (_ : _ ≤ _) => ?_)); refine hK _ ?_; clear hK K)
          refine opsG0 ?_
          refine hK11 _ ?_
          refine Sm.ret ?_
          try simp only [↓reduceIte, reduceCtorEq, Exit.exit.injEq]
          refine ⟨⟨_, (Option.some.inj H).symm⟩, fun hz => ?_⟩
          have hyy := Sum.inr.inj ((Option.some.inj H).trans hz)
          subst hyy
          have H := Ho4
          try dsimp only at H
          try simp only [↓reduceIte, reduceCtorEq, Exit.exit.injEq]
          obtain rfl := Option.some.inj H
          refine Ret.ofR [] (.inr rfl) ?_
          simp (maxSteps := 2000000) only [ev, ew, tys, tl, ↓reduceIte, reduceCtorEq, Nat.reduceAdd, Nat.reduceMul, Nat.reduceSub, Nat.reduceEqDiff, Nat.reduceLeDiff, Nat.reduceLT, Int.reduceToNat, xref36_Test, ref36_Stop_s1, ref36_Stop_t2, Option.isSome_some, Option.getD_some]
          done
        · replace H := bif_f h10 H
          refine Sm.skip ?_
          refine hK8 _ ?_
          refine Sm.regA (Γ := [xref36_Test n]) h00 mixed hΓ (by kernel_rfl) ?_
          simp only [rs]
          repeat (refine opsG fun K hK => ?_; simp (maxSteps := 2000000) only [ev, ew, tys, tl, ↓reduceIte, reduceCtorEq, Nat.reduceAdd, Nat.reduceMul, Nat.reduceSub, Nat.reduceEqDiff, Nat.reduceLeDiff, Nat.reduceLT, Int.reduceToNat, xref36_Test, ref36_Stop_s1, ref36_Stop_t2, Option.isSome_some, Option.getD_some]; (repeat (first | refine ⟨by first | with_reducible assumption | omega | (intro hh; (repeat refine ⟨hh, ?_⟩); revert hh; with_reducible assumption), ?_⟩ | refine fun (_ : _ ≤ _) => ?_)); refine hK _ ?_; clear hK K)
          refine opsG0 ?_
          try simp only [↓reduceIte, reduceCtorEq, Exit.exit.injEq]
          refine ⟨_, (Option.some.inj H).symm, ?_⟩
          exact weak_b [some 9001] rfl rfl (by simp only [wk, ev, ew, tys, tl, ↓reduceIte, reduceCtorEq, Nat.reduceAdd, Nat.reduceMul, Nat.reduceSub, Nat.reduceEqDiff, Nat.reduceLeDiff, Nat.reduceLT, Int.reduceToNat, ref36_Stop_s1, ref36_Stop_t2]) (by simp only [wk, ev, ew, tys, tl, ↓reduceIte, reduceCtorEq, Nat.reduceAdd, Nat.reduceMul, Nat.reduceSub, Nat.reduceEqDiff, Nat.reduceLeDiff, Nat.reduceLT, Int.reduceToNat, ref36_Stop_s1, ref36_Stop_t2])
      · replace H := bif_f h7 H
        refine Sm.exit ?_
        try simp only [↓reduceIte, reduceCtorEq, Exit.exit.injEq]
        refine ⟨⟨_, (Option.some.inj H).symm⟩, fun hz => ?_⟩
        have hyy := Sum.inr.inj ((Option.some.inj H).trans hz)
        subst hyy
        have H := Ho4
        try dsimp only at H
        try simp only [↓reduceIte, reduceCtorEq, Exit.exit.injEq]
        refine ⟨(), H, ?_⟩
        exact weak_b [] rfl rfl (by simp only [wk, ev, ew, tys, tl, ↓reduceIte, reduceCtorEq, Nat.reduceAdd, Nat.reduceMul, Nat.reduceSub, Nat.reduceEqDiff, Nat.reduceLeDiff, Nat.reduceLT, Int.reduceToNat, ref36_Stop_s1, ref36_Stop_t2]) (by simp only [wk, ev, ew, tys, tl, ↓reduceIte, reduceCtorEq, Nat.reduceAdd, Nat.reduceMul, Nat.reduceSub, Nat.reduceEqDiff, Nat.reduceLeDiff, Nat.reduceLT, Int.reduceToNat, ref36_Stop_s1, ref36_Stop_t2])
  · rintro ⟨⟩ H
    try dsimp only at H
    unfold ref36_Stop_k1 at H
    refine Sm.seqK fun K2 hK2 => ?_
    refine Sm.regA (Γ := [xref36_Test n]) h00 mixed hΓ (by kernel_rfl) ?_
    simp only [rs]
    repeat (refine opsG fun K hK => ?_; simp (maxSteps := 2000000) only [ev, ew, tys, tl, ↓reduceIte, reduceCtorEq, Nat.reduceAdd, Nat.reduceMul, Nat.reduceSub, Nat.reduceEqDiff, Nat.reduceLeDiff, Nat.reduceLT, Int.reduceToNat, xref36_Test, ref36_Stop_s1, ref36_Stop_t2, Option.isSome_some, Option.getD_some]; (repeat (first | refine ⟨by first | with_reducible assumption | omega | (intro hh; (repeat refine ⟨hh, ?_⟩); revert hh; with_reducible assumption), ?_⟩ | refine fun (_ : _ ≤ _) => ?_)); refine hK _ ?_; clear hK K)
    refine opsG0 ?_
    refine hK2 _ ?_
    refine Sm.ret ?_
    try simp only [↓reduceIte, reduceCtorEq, Exit.exit.injEq]
    obtain rfl := Option.some.inj H
    refine Ret.ofR [] (.inr rfl) ?_
    simp (maxSteps := 2000000) only [ev, ew, tys, tl, ↓reduceIte, reduceCtorEq, Nat.reduceAdd, Nat.reduceMul, Nat.reduceSub, Nat.reduceEqDiff, Nat.reduceLeDiff, Nat.reduceLT, Int.reduceToNat, xref36_Test, ref36_Stop_s1, ref36_Stop_t2, Option.isSome_some, Option.getD_some]
    done

abbrev flow_Skip_s2 : S := stB [] []

def flow_Skip_k2 (n : Nat) : Option Bool :=
  some false

abbrev flow_Skip_s4 (ends : List TStepEnd) (n_ : Int) (codes : List (List UInt8 × Int)) (s : TJobStep) (v76 : Int) (v77 : Int) : S := stB [(2, .c (.slice 24) (.slice (List.map e_TStepEnd ends))), (7, .c (.int .i64) (.int n_)), (9, .mref 9004), (75, .c (.slice 27) (.slice (List.map e_TCond s.Conds))), (76, .c (.int .i64) (.int v76)), (77, .c (.int .i64) (.int v77))] [(9004, .mp .str (false, [.int .i64]) (List.map em_Str_Int codes))]

def flow_Skip_k4 (n : Nat) (ends : List TStepEnd) (n_ : Int) (codes : List (List UInt8 × Int)) (s : TJobStep) (v76 : Int) (v77 : Int) : Option ((Int) ⊕ (((Bool) ⊕ (Unit)))) :=
  some (.inl (IntKind.wrap .i64 (v77 + 1)))

abbrev flow_Skip_t5 (ends : List TStepEnd) (n_ : Int) (codes : List (List UInt8 × Int)) (c : Int) (c_1 : Int) (c_2 : List UInt8) (s : TJobStep) (v76 : Int) (v77 : Int) (v99 : List TStepEnd) (v100 : Int) (v101 : Int) : S := stB [(2, .c (.slice 24) (.slice (List.map e_TStepEnd ends))), (7, .c (.int .i64) (.int n_)), (9, .mref 9007), (13, .box 9008 0), (75, .c (.slice 27) (.slice (List.map e_TCond s.Conds))), (76, .c (.int .i64) (.int v76)), (77, .c (.int .i64) (.int v77)), (99, .c (.slice 24) (.slice (List.map e_TStepEnd v99))), (100, .c (.int .i64) (.int v100)), (101, .c (.int .i64) (.int v101))] [(9007, .mp .str (false, [.int .i64]) (List.map em_Str_Int codes)), (9008, .box [.c (.int .i64) (.int c), .c (.int .i64) (.int c_1), .c .str (.str c_2)])]

def flow_Skip_b5 (n : Nat) (ends : List TStepEnd) (n_ : Int) (codes : List (List UInt8 × Int)) (c : Int) (c_1 : Int) (c_2 : List UInt8) (s : TJobStep) (v76 : Int) (v77 : Int) (v99 : List TStepEnd) (v100 : Int) (v101 : Int) : Option ((Int) ⊕ (((Bool) ⊕ (Unit)))) :=
  bif (decide (v101 < v100)) then
    gd ((0 ≤ v101 ∧ v101 < (v99.length : Int))) <|
    (flow_Stop n [(⟨c, c_1, c_2⟩ : TCond)] (gt v99 (Int.toNat v101))).bind fun r1 =>
    bif r1 then
      some (.inr (.inl true))
    else
      some (.inl (IntKind.wrap .i64 (v101 + 1)))
  else
    some (.inr (.inr ()))

abbrev flow_Skip_t3 (ends : List TStepEnd) (n_ : Int) (codes : List (List UInt8 × Int)) (s : TJobStep) (v76 : Int) (v77 : Int) : S := stB [(2, .c (.slice 24) (.slice (List.map e_TStepEnd ends))), (7, .c (.int .i64) (.int n_)), (9, .mref 9003), (75, .c (.slice 27) (.slice (List.map e_TCond s.Conds))), (76, .c (.int .i64) (.int v76)), (77, .c (.int .i64) (.int v77))] [(9003, .mp .str (false, [.int .i64]) (List.map em_Str_Int codes))]

def flow_Skip_b3 (n : Nat) (ends : List TStepEnd) (n_ : Int) (codes : List (List UInt8 × Int)) (s : TJobStep) (v76 : Int) (v77 : Int) : Option ((Int) ⊕ (((Bool) ⊕ (Unit)))) :=
  bif (decide (v77 < v76)) then
    gd ((0 ≤ v77 ∧ v77 < (s.Conds.length : Int))) <|
    bif (((gt s.Conds (Int.toNat v77)).Step) != []) then
      gd (((tget ((gt s.Conds (Int.toNat v77)).Step) codes).isSome = true → (flow_Test n (gt s.Conds (Int.toNat v77)) ((tget ((gt s.Conds (Int.toNat v77)).Step) codes).getD default)).isSome = true)) <|
      bif (if (tget ((gt s.Conds (Int.toNat v77)).Step) codes).isSome = true then ((flow_Test n (gt s.Conds (Int.toNat v77)) ((tget ((gt s.Conds (Int.toNat v77)).Step) codes).getD default)).getD default) else false) then
        some (.inr (.inl true))
      else
        flow_Skip_k4 n ends n_ codes s v76 v77
    else
      gd ((0 ≤ 0 ∧ 0 ≤ n_ ∧ n_ ≤ (ends.length : Int))) <|
      (loopF (fun (x : Int) => flow_Skip_b5 n ends n_ codes ((gt s.Conds (Int.toNat v77)).Code) ((gt s.Conds (Int.toNat v77)).Op) ((gt s.Conds (Int.toNat v77)).Step) s v76 v77 (List.take (Int.toNat n_) ends) ((List.take (Int.toNat n_) ends).length : Int) x) n 0).bind fun y26 =>
      match y26 with
      | .inl v =>
        some (.inr (.inl v))
      | .inr v =>
        flow_Skip_k4 n ends n_ codes s v76 v77
  else
    some (.inr (.inr ()))

abbrev flow_Skip_s1 (ends : List TStepEnd) (s : TJobStep) (n_ : Int) (abend : Bool) (codes : List (List UInt8 × Int)) : S := stB [(2, .c (.slice 24) (.slice (List.map e_TStepEnd ends))), (3, .box 9000 0), (7, .c (.int .i64) (.int n_)), (8, .c .bool (.bool abend)), (9, .mref 9001)] [(9000, .box [.c .str (.str s.Name), .c .str (.str s.Pgm), .c .str (.str s.Parm), .c (.slice 27) (.slice (List.map e_TCond s.Conds)), .c .bool (.bool s.Even), .c .bool (.bool s.Only), .c (.int .i64) (.int s.Time), .c (.slice 39) (.slice (List.map e_TDD s.DDs))]), (9001, .mp .str (false, [.int .i64]) (List.map em_Str_Int codes))]

def flow_Skip_k1 (n : Nat) (ends : List TStepEnd) (s : TJobStep) (n_ : Int) (abend : Bool) (codes : List (List UInt8 × Int)) : Option Bool :=
  bif (if (if (if abend = true then (!s.Even) else false) = true then (!s.Only) else false) = true then true else (if (!abend) = true then s.Only else false)) then
    some true
  else
    (loopF (fun (x : Int) => flow_Skip_b3 n ends n_ codes s (s.Conds.length : Int) x) n 0).bind fun y11 =>
    match y11 with
    | .inl v =>
      some v
    | .inr v =>
      flow_Skip_k2 n

abbrev flow_Skip_s7 (names : List (List UInt8)) (ends : List TStepEnd) (s : TJobStep) (n_ : Int) (abend_1 : Bool) (codes_1 : List (List UInt8 × Int)) (v26 : List TStepEnd) (v27 : Int) (v28 : Int) : S := stB [(1, .c (.slice 9) (.slice (List.map e_Str names))), (2, .c (.slice 24) (.slice (List.map e_TStepEnd ends))), (3, .box 9013 0), (7, .c (.int .i64) (.int n_)), (8, .c .bool (.bool abend_1)), (9, .mref 9014), (26, .c (.slice 24) (.slice (List.map e_TStepEnd v26))), (27, .c (.int .i64) (.int v27)), (28, .c (.int .i64) (.int v28))] [(9013, .box [.c .str (.str s.Name), .c .str (.str s.Pgm), .c .str (.str s.Parm), .c (.slice 27) (.slice (List.map e_TCond s.Conds)), .c .bool (.bool s.Even), .c .bool (.bool s.Only), .c (.int .i64) (.int s.Time), .c (.slice 39) (.slice (List.map e_TDD s.DDs))]), (9014, .mp .str (false, [.int .i64]) (List.map em_Str_Int codes_1))]

def flow_Skip_k7 (n : Nat) (names : List (List UInt8)) (ends : List TStepEnd) (s : TJobStep) (n_ : Int) (abend_1 : Bool) (codes_1 : List (List UInt8 × Int)) (v26 : List TStepEnd) (v27 : Int) (v28 : Int) : Option ((Bool × (List (List UInt8 × Int)) × Int) ⊕ (((Bool) ⊕ (Bool × (List (List UInt8 × Int)))))) :=
  some (.inl (abend_1, codes_1, (IntKind.wrap .i64 (v28 + 1))))

abbrev flow_Skip_s8 (names : List (List UInt8)) (ends : List TStepEnd) (s : TJobStep) (n_ : Int) (abend_1 : Bool) (codes : List (List UInt8 × Int)) (v28 : Int) (end_ : Int) (end__1 : Int) (end__2 : Int) (end__3 : Int) (v26 : List TStepEnd) (v27 : Int) : S := stB [(1, .c (.slice 9) (.slice (List.map e_Str names))), (2, .c (.slice 24) (.slice (List.map e_TStepEnd ends))), (3, .box 9015 0), (7, .c (.int .i64) (.int n_)), (8, .c .bool (.bool abend_1)), (9, .mref 9016), (10, .c (.int .i64) (.int v28)), (11, .box 9017 0), (26, .c (.slice 24) (.slice (List.map e_TStepEnd v26))), (27, .c (.int .i64) (.int v27)), (28, .c (.int .i64) (.int v28))] [(9015, .box [.c .str (.str s.Name), .c .str (.str s.Pgm), .c .str (.str s.Parm), .c (.slice 27) (.slice (List.map e_TCond s.Conds)), .c .bool (.bool s.Even), .c .bool (.bool s.Only), .c (.int .i64) (.int s.Time), .c (.slice 39) (.slice (List.map e_TDD s.DDs))]), (9016, .mp .str (false, [.int .i64]) (List.map em_Str_Int codes)), (9017, .box [.c (.int .i64) (.int end_), .c (.int .i64) (.int end__1), .c (.int .i64) (.int end__2), .c (.int .i64) (.int end__3)])]

def flow_Skip_k8 (n : Nat) (names : List (List UInt8)) (ends : List TStepEnd) (s : TJobStep) (n_ : Int) (abend_1 : Bool) (codes : List (List UInt8 × Int)) (v28 : Int) (end_ : Int) (end__1 : Int) (end__2 : Int) (end__3 : Int) (v26 : List TStepEnd) (v27 : Int) : Option ((Bool × (List (List UInt8 × Int)) × Int) ⊕ (((Bool) ⊕ (Bool × (List (List UInt8 × Int)))))) :=
  bif (end_ == 1) then
    gd ((0 ≤ v28 ∧ v28 < (names.length : Int))) <|
    flow_Skip_k7 n names ends s n_ abend_1 (tset (gt names (Int.toNat v28)) end__1 codes) v26 v27 v28
  else
    gd ((0 ≤ v28 ∧ v28 < (names.length : Int))) <|
    flow_Skip_k7 n names ends s n_ abend_1 (tdel (gt names (Int.toNat v28)) codes) v26 v27 v28

abbrev flow_Skip_t6 (names : List (List UInt8)) (ends : List TStepEnd) (s : TJobStep) (n_ : Int) (v26 : List TStepEnd) (v27 : Int) (abend : Bool) (codes : List (List UInt8 × Int)) (v28 : Int) : S := stB [(1, .c (.slice 9) (.slice (List.map e_Str names))), (2, .c (.slice 24) (.slice (List.map e_TStepEnd ends))), (3, .box 9011 0), (7, .c (.int .i64) (.int n_)), (8, .c .bool (.bool abend)), (9, .mref 9012), (26, .c (.slice 24) (.slice (List.map e_TStepEnd v26))), (27, .c (.int .i64) (.int v27)), (28, .c (.int .i64) (.int v28))] [(9011, .box [.c .str (.str s.Name), .c .str (.str s.Pgm), .c .str (.str s.Parm), .c (.slice 27) (.slice (List.map e_TCond s.Conds)), .c .bool (.bool s.Even), .c .bool (.bool s.Only), .c (.int .i64) (.int s.Time), .c (.slice 39) (.slice (List.map e_TDD s.DDs))]), (9012, .mp .str (false, [.int .i64]) (List.map em_Str_Int codes))]

def flow_Skip_b6 (n : Nat) (names : List (List UInt8)) (ends : List TStepEnd) (s : TJobStep) (n_ : Int) (v26 : List TStepEnd) (v27 : Int) (abend : Bool) (codes : List (List UInt8 × Int)) (v28 : Int) : Option ((Bool × (List (List UInt8 × Int)) × Int) ⊕ (((Bool) ⊕ (Bool × (List (List UInt8 × Int)))))) :=
  bif (decide (v28 < v27)) then
    gd ((0 ≤ v28 ∧ v28 < (v26.length : Int))) <|
    bif (((gt v26 (Int.toNat v28)).Kind) == 4) then
      some (.inr (.inl true))
    else
      bif (((gt v26 (Int.toNat v28)).Kind) == 2) then
        flow_Skip_k8 n names ends s n_ true codes v28 ((gt v26 (Int.toNat v28)).Kind) ((gt v26 (Int.toNat v28)).Code) ((gt v26 (Int.toNat v28)).Ins) ((gt v26 (Int.toNat v28)).Ios) v26 v27
      else
        flow_Skip_k8 n names ends s n_ abend codes v28 ((gt v26 (Int.toNat v28)).Kind) ((gt v26 (Int.toNat v28)).Code) ((gt v26 (Int.toNat v28)).Ins) ((gt v26 (Int.toNat v28)).Ios) v26 v27
  else
    some (.inr (.inr (abend, codes)))

def flow_Skip (n : Nat) (s : TJobStep) (names : List (List UInt8)) (ends : List TStepEnd) : Option Bool :=
  gd ((0 ≤ 0 ∧ 0 ≤ (if (ends.length : Int) < (names.length : Int) then (ends.length : Int) else (names.length : Int)) ∧ (if (ends.length : Int) < (names.length : Int) then (ends.length : Int) else (names.length : Int)) ≤ (ends.length : Int))) <|
  (loopF (fun (x : Bool × (List (List UInt8 × Int)) × Int) => flow_Skip_b6 n names ends s (if (ends.length : Int) < (names.length : Int) then (ends.length : Int) else (names.length : Int)) (List.take (Int.toNat (if (ends.length : Int) < (names.length : Int) then (ends.length : Int) else (names.length : Int))) ends) ((List.take (Int.toNat (if (ends.length : Int) < (names.length : Int) then (ends.length : Int) else (names.length : Int))) ends).length : Int) x.1 x.2.1 x.2.2) n (false, [], 0)).bind fun y39 =>
  match y39 with
  | .inl v =>
    some v
  | .inr v =>
    flow_Skip_k1 n ends s (if (ends.length : Int) < (names.length : Int) then (ends.length : Int) else (names.length : Int)) v.1 v.2

def xflow_Skip (n : Nat) : Go.AE.Fn := mkFn (A := TJobStep × (List (List UInt8)) × (List TStepEnd)) (R := Bool) 14 [(true, [.str, .str, .str, .slice 27, .bool, .bool, .int .i64, .slice 39]), (false, [.slice 9]), (false, [.slice 24])] false (fun xs => ((⟨(cg (xs.getD 0 []) 0).toStr, (cg (xs.getD 0 []) 1).toStr, (cg (xs.getD 0 []) 2).toStr, ((cg (xs.getD 0 []) 3).toSl.map d_TCond), (cg (xs.getD 0 []) 4).toBool, (cg (xs.getD 0 []) 5).toBool, (cg (xs.getD 0 []) 6).toInt, ((cg (xs.getD 0 []) 7).toSl.map d_TDD)⟩ : TJobStep), ((cg (xs.getD 1 []) 0).toSl.map d_Str), ((cg (xs.getD 2 []) 0).toSl.map d_TStepEnd))) (fun a => [[.str a.1.Name, .str a.1.Pgm, .str a.1.Parm, .slice (List.map e_TCond a.1.Conds), .bool a.1.Even, .bool a.1.Only, .int a.1.Time, .slice (List.map e_TDD a.1.DDs)], [.slice (List.map e_Str a.2.1)], [.slice (List.map e_TStepEnd a.2.2)]]) (fun a => flow_Skip n a.1 a.2.1 a.2.2) (fun r => [.c .bool (.bool r)]) (fun r => [])

theorem cflow_Skip (n : Nat) : Contract Try.prog (xflow_Skip n) := by
  have hΓ : ∀ g, g ∈ ([xflow_Test n, xflow_Stop n] : List Go.AE.Fn) → Contract Try.prog g := by
    intro g hg; simp only [List.mem_cons, List.not_mem_nil, or_false] at hg; rcases hg with rfl | rfl; exact cflow_Test n; exact cflow_Stop n
  refine contract_f (Try.f14.body.getD .skip) h00 Try.func14 rfl (by intro args w; exact Try.call14 args w) (by decide) (by intro _ r; exact ⟨rfl, by simp⟩) ?_
  rintro ⟨s, names, ends⟩ r H
  try dsimp only at H
  unfold flow_Skip at H
  simp only [Try.f14, Option.getD]
  refine Sm.seqK fun K1 hK1 => ?_
  refine Sm.regA (Γ := [xflow_Test n, xflow_Stop n]) h00 mixed hΓ (by kernel_rfl) ?_
  simp only [rs]
  repeat (refine opsG fun K hK => ?_; simp (maxSteps := 2000000) only [ev, ew, tys, tl, ↓reduceIte, reduceCtorEq, Nat.reduceAdd, Nat.reduceMul, Nat.reduceSub, Nat.reduceEqDiff, Nat.reduceLeDiff, Nat.reduceLT, Int.reduceToNat, xflow_Test, xflow_Stop, flow_Skip_s2, flow_Skip_s4, flow_Skip_t5, flow_Skip_t3, flow_Skip_s1, flow_Skip_s7, flow_Skip_s8, flow_Skip_t6, Option.isSome_some, Option.getD_some]; (repeat (first | refine ⟨by first | with_reducible assumption | omega | (intro hh; (repeat refine ⟨hh, ?_⟩); revert hh; with_reducible assumption), ?_⟩ | refine fun (_ : _ ≤ _) => ?_)); refine hK _ ?_; clear hK K)
  refine opsG0 ?_
  refine hK1 _ ?_
  refine Sm.seqK fun K2 hK2 => ?_
  refine Sm.regA (Γ := [xflow_Test n, xflow_Stop n]) h00 mixed hΓ (by kernel_rfl) ?_
  simp only [rs]
  repeat (refine opsG fun K hK => ?_; simp (maxSteps := 2000000) only [ev, ew, tys, tl, ↓reduceIte, reduceCtorEq, Nat.reduceAdd, Nat.reduceMul, Nat.reduceSub, Nat.reduceEqDiff, Nat.reduceLeDiff, Nat.reduceLT, Int.reduceToNat, xflow_Test, xflow_Stop, flow_Skip_s2, flow_Skip_s4, flow_Skip_t5, flow_Skip_t3, flow_Skip_s1, flow_Skip_s7, flow_Skip_s8, flow_Skip_t6, Option.isSome_some, Option.getD_some]; (repeat (first | refine ⟨by first | with_reducible assumption | omega | (intro hh; (repeat refine ⟨hh, ?_⟩); revert hh; with_reducible assumption), ?_⟩ | refine fun (_ : _ ≤ _) => ?_)); refine hK _ ?_; clear hK K)
  refine opsG0 ?_
  refine hK2 _ ?_
  refine Sm.seqK fun K3 hK3 => ?_
  refine Sm.regA (Γ := [xflow_Test n, xflow_Stop n]) h00 mixed hΓ (by kernel_rfl) ?_
  simp only [rs]
  repeat (refine opsG fun K hK => ?_; simp (maxSteps := 2000000) only [ev, ew, tys, tl, ↓reduceIte, reduceCtorEq, Nat.reduceAdd, Nat.reduceMul, Nat.reduceSub, Nat.reduceEqDiff, Nat.reduceLeDiff, Nat.reduceLT, Int.reduceToNat, xflow_Test, xflow_Stop, flow_Skip_s2, flow_Skip_s4, flow_Skip_t5, flow_Skip_t3, flow_Skip_s1, flow_Skip_s7, flow_Skip_s8, flow_Skip_t6, Option.isSome_some, Option.getD_some]; (repeat (first | refine ⟨by first | with_reducible assumption | omega | (intro hh; (repeat refine ⟨hh, ?_⟩); revert hh; with_reducible assumption), ?_⟩ | refine fun (_ : _ ≤ _) => ?_)); refine hK _ ?_; clear hK K)
  refine opsG0 ?_
  refine hK3 _ ?_
  refine Sm.seqK fun K4 hK4 => ?_
  refine Sm.regA (Γ := [xflow_Test n, xflow_Stop n]) h00 mixed hΓ (by kernel_rfl) ?_
  simp only [rs]
  repeat (refine opsG fun K hK => ?_; simp (maxSteps := 2000000) only [ev, ew, tys, tl, ↓reduceIte, reduceCtorEq, Nat.reduceAdd, Nat.reduceMul, Nat.reduceSub, Nat.reduceEqDiff, Nat.reduceLeDiff, Nat.reduceLT, Int.reduceToNat, xflow_Test, xflow_Stop, flow_Skip_s2, flow_Skip_s4, flow_Skip_t5, flow_Skip_t3, flow_Skip_s1, flow_Skip_s7, flow_Skip_s8, flow_Skip_t6, Option.isSome_some, Option.getD_some]; (repeat (first | refine ⟨by first | with_reducible assumption | omega | (intro hh; (repeat refine ⟨hh, ?_⟩); revert hh; with_reducible assumption), ?_⟩ | refine fun (_ : _ ≤ _) => ?_)); refine hK _ ?_; clear hK K)
  refine opsG0 ?_
  refine hK4 _ ?_
  refine Sm.cut (fun (x : Int × Bool × (List (List UInt8 × Int))) => flow_Skip_s1 ends s x.1 x.2.1 x.2.2) (fun x => flow_Skip_k1 n ends s x.1 x.2.1 x.2.2 = some r) ?_ ?_
  · refine Sm.seqK fun K38 hK38 => ?_
    obtain ⟨hg55, H⟩ := gd_some H
    refine Sm.regA (Γ := [xflow_Test n, xflow_Stop n]) h00 mixed hΓ (by kernel_rfl) ?_
    simp only [rs]
    repeat (refine opsG fun K hK => ?_; simp (maxSteps := 2000000) only [ev, ew, tys, tl, ↓reduceIte, reduceCtorEq, Nat.reduceAdd, Nat.reduceMul, Nat.reduceSub, Nat.reduceEqDiff, Nat.reduceLeDiff, Nat.reduceLT, Int.reduceToNat, xflow_Test, xflow_Stop, flow_Skip_s2, flow_Skip_s4, flow_Skip_t5, flow_Skip_t3, flow_Skip_s1, flow_Skip_s7, flow_Skip_s8, flow_Skip_t6, Option.isSome_some, Option.getD_some]; (repeat (first | refine ⟨by first | with_reducible assumption | omega | (intro hh; (repeat refine ⟨hh, ?_⟩); revert hh; with_reducible assumption), ?_⟩ | refine fun (_ : _ ≤ _) => ?_)); refine hK _ ?_; clear hK K)
    refine opsG0 ?_
    refine hK38 _ ?_
    refine Sm.block ?_
    obtain ⟨y39, hy39, Ho39⟩ := bind_some H
    refine Sm.loopB (fun (x : Bool × (List (List UInt8 × Int)) × Int) => flow_Skip_b6 n names ends s (if (ends.length : Int) < (names.length : Int) then (ends.length : Int) else (names.length : Int)) (List.take (Int.toNat (if (ends.length : Int) < (names.length : Int) then (ends.length : Int) else (names.length : Int))) ends) ((List.take (Int.toNat (if (ends.length : Int) < (names.length : Int) then (ends.length : Int) else (names.length : Int))) ends).length : Int) x.1 x.2.1 x.2.2) (fun x => flow_Skip_t6 names ends s (if (ends.length : Int) < (names.length : Int) then (ends.length : Int) else (names.length : Int)) (List.take (Int.toNat (if (ends.length : Int) < (names.length : Int) then (ends.length : Int) else (names.length : Int))) ends) ((List.take (Int.toNat (if (ends.length : Int) < (names.length : Int) then (ends.length : Int) else (names.length : Int))) ends).length : Int) x.1 x.2.1 x.2.2) hy39 ?_ ?_
    · exact weak_b [some 48, some 368] rfl rfl (by simp only [wk, ev, ew, tys, tl, ↓reduceIte, reduceCtorEq, Nat.reduceAdd, Nat.reduceMul, Nat.reduceSub, Nat.reduceEqDiff, Nat.reduceLeDiff, Nat.reduceLT, Int.reduceToNat, flow_Skip_s2, flow_Skip_s4, flow_Skip_t5, flow_Skip_t3, flow_Skip_s1, flow_Skip_s7, flow_Skip_s8, flow_Skip_t6]) (by simp only [wk, ev, ew, tys, tl, ↓reduceIte, reduceCtorEq, Nat.reduceAdd, Nat.reduceMul, Nat.reduceSub, Nat.reduceEqDiff, Nat.reduceLeDiff, Nat.reduceLT, Int.reduceToNat, flow_Skip_s2, flow_Skip_s4, flow_Skip_t5, flow_Skip_t3, flow_Skip_s1, flow_Skip_s7, flow_Skip_s8, flow_Skip_t6])
    · rintro ⟨abend, codes, v28⟩ z39 H
      try dsimp only at H
      unfold flow_Skip_b6 at H
      refine Sm.seqK fun K40 hK40 => ?_
      refine Sm.regA (Γ := [xflow_Test n, xflow_Stop n]) h00 mixed hΓ (by kernel_rfl) ?_
      simp only [rs]
      repeat (refine opsG fun K hK => ?_; simp (maxSteps := 2000000) only [ev, ew, tys, tl, ↓reduceIte, reduceCtorEq, Nat.reduceAdd, Nat.reduceMul, Nat.reduceSub, Nat.reduceEqDiff, Nat.reduceLeDiff, Nat.reduceLT, Int.reduceToNat, xflow_Test, xflow_Stop, flow_Skip_s2, flow_Skip_s4, flow_Skip_t5, flow_Skip_t3, flow_Skip_s1, flow_Skip_s7, flow_Skip_s8, flow_Skip_t6, Option.isSome_some, Option.getD_some]; (repeat (first | refine ⟨by first | with_reducible assumption | omega | (intro hh; (repeat refine ⟨hh, ?_⟩); revert hh; with_reducible assumption), ?_⟩ | refine fun (_ : _ ≤ _) => ?_)); refine hK _ ?_; clear hK K)
      refine opsG0 ?_
      refine hK40 _ ?_
      refine Sm.seqK fun K41 hK41 => ?_
      refine Sm.condK (by rfl) fun Ka Kb ha hb => ?_
      simp only [wpCond, ev, ew, tys, tl, ↓reduceIte, reduceCtorEq, Nat.reduceAdd, Nat.reduceMul, Nat.reduceSub, Nat.reduceEqDiff, Nat.reduceLeDiff, Nat.reduceLT, Int.reduceToNat, xflow_Test, xflow_Stop, flow_Skip_s2, flow_Skip_s4, flow_Skip_t5, flow_Skip_t3, flow_Skip_s1, flow_Skip_s7, flow_Skip_s8, flow_Skip_t6, Option.isSome_some, Option.getD_some]
      refine ⟨fun h42 => ha ?_, fun h42 => hb ?_⟩
      · replace H := bif_t h42 H
        refine Sm.skip ?_
        refine hK41 _ ?_
        refine Sm.cut (fun (x : Bool × (List (List UInt8 × Int))) => flow_Skip_s7 names ends s (if (ends.length : Int) < (names.length : Int) then (ends.length : Int) else (names.length : Int)) x.1 x.2 (List.take (Int.toNat (if (ends.length : Int) < (names.length : Int) then (ends.length : Int) else (names.length : Int))) ends) ((List.take (Int.toNat (if (ends.length : Int) < (names.length : Int) then (ends.length : Int) else (names.length : Int))) ends).length : Int) v28) (fun x => flow_Skip_k7 n names ends s (if (ends.length : Int) < (names.length : Int) then (ends.length : Int) else (names.length : Int)) x.1 x.2 (List.take (Int.toNat (if (ends.length : Int) < (names.length : Int) then (ends.length : Int) else (names.length : Int))) ends) ((List.take (Int.toNat (if (ends.length : Int) < (names.length : Int) then (ends.length : Int) else (names.length : Int))) ends).length : Int) v28 = some z39) ?_ ?_
        · refine Sm.block ?_
          refine Sm.seqK fun K43 hK43 => ?_
          obtain ⟨hg54, H⟩ := gd_some H
          refine Sm.regA (Γ := [xflow_Test n, xflow_Stop n]) h00 mixed hΓ (by kernel_rfl) ?_
          simp only [rs]
          repeat (refine opsG fun K hK => ?_; simp (maxSteps := 2000000) only [ev, ew, tys, tl, ↓reduceIte, reduceCtorEq, Nat.reduceAdd, Nat.reduceMul, Nat.reduceSub, Nat.reduceEqDiff, Nat.reduceLeDiff, Nat.reduceLT, Int.reduceToNat, xflow_Test, xflow_Stop, flow_Skip_s2, flow_Skip_s4, flow_Skip_t5, flow_Skip_t3, flow_Skip_s1, flow_Skip_s7, flow_Skip_s8, flow_Skip_t6, Option.isSome_some, Option.getD_some]; (repeat (first | refine ⟨by first | with_reducible assumption | omega | (intro hh; (repeat refine ⟨hh, ?_⟩); revert hh; with_reducible assumption), ?_⟩ | refine fun (_ : _ ≤ _) => ?_)); refine hK _ ?_; clear hK K)
          refine opsG0 ?_
          refine hK43 _ ?_
          refine Sm.cut (fun (x : Bool) => flow_Skip_s8 names ends s (if (ends.length : Int) < (names.length : Int) then (ends.length : Int) else (names.length : Int)) x codes v28 ((gt (List.take (Int.toNat (if (ends.length : Int) < (names.length : Int) then (ends.length : Int) else (names.length : Int))) ends) (Int.toNat v28)).Kind) ((gt (List.take (Int.toNat (if (ends.length : Int) < (names.length : Int) then (ends.length : Int) else (names.length : Int))) ends) (Int.toNat v28)).Code) ((gt (List.take (Int.toNat (if (ends.length : Int) < (names.length : Int) then (ends.length : Int) else (names.length : Int))) ends) (Int.toNat v28)).Ins) ((gt (List.take (Int.toNat (if (ends.length : Int) < (names.length : Int) then (ends.length : Int) else (names.length : Int))) ends) (Int.toNat v28)).Ios) (List.take (Int.toNat (if (ends.length : Int) < (names.length : Int) then (ends.length : Int) else (names.length : Int))) ends) ((List.take (Int.toNat (if (ends.length : Int) < (names.length : Int) then (ends.length : Int) else (names.length : Int))) ends).length : Int)) (fun x => flow_Skip_k8 n names ends s (if (ends.length : Int) < (names.length : Int) then (ends.length : Int) else (names.length : Int)) x codes v28 ((gt (List.take (Int.toNat (if (ends.length : Int) < (names.length : Int) then (ends.length : Int) else (names.length : Int))) ends) (Int.toNat v28)).Kind) ((gt (List.take (Int.toNat (if (ends.length : Int) < (names.length : Int) then (ends.length : Int) else (names.length : Int))) ends) (Int.toNat v28)).Code) ((gt (List.take (Int.toNat (if (ends.length : Int) < (names.length : Int) then (ends.length : Int) else (names.length : Int))) ends) (Int.toNat v28)).Ins) ((gt (List.take (Int.toNat (if (ends.length : Int) < (names.length : Int) then (ends.length : Int) else (names.length : Int))) ends) (Int.toNat v28)).Ios) (List.take (Int.toNat (if (ends.length : Int) < (names.length : Int) then (ends.length : Int) else (names.length : Int))) ends) ((List.take (Int.toNat (if (ends.length : Int) < (names.length : Int) then (ends.length : Int) else (names.length : Int))) ends).length : Int) = some z39) ?_ ?_
          · refine Sm.seqK fun K48 hK48 => ?_
            refine Sm.regA (Γ := [xflow_Test n, xflow_Stop n]) h00 mixed hΓ (by kernel_rfl) ?_
            simp only [rs]
            repeat (refine opsG fun K hK => ?_; simp (maxSteps := 2000000) only [ev, ew, tys, tl, ↓reduceIte, reduceCtorEq, Nat.reduceAdd, Nat.reduceMul, Nat.reduceSub, Nat.reduceEqDiff, Nat.reduceLeDiff, Nat.reduceLT, Int.reduceToNat, xflow_Test, xflow_Stop, flow_Skip_s2, flow_Skip_s4, flow_Skip_t5, flow_Skip_t3, flow_Skip_s1, flow_Skip_s7, flow_Skip_s8, flow_Skip_t6, Option.isSome_some, Option.getD_some]; (repeat (first | refine ⟨by first | with_reducible assumption | omega | (intro hh; (repeat refine ⟨hh, ?_⟩); revert hh; with_reducible assumption), ?_⟩ | refine fun (_ : _ ≤ _) => ?_)); refine hK _ ?_; clear hK K)
            refine opsG0 ?_
            refine hK48 _ ?_
            refine Sm.block ?_
            refine Sm.seqK fun K49 hK49 => ?_
            refine Sm.regA (Γ := [xflow_Test n, xflow_Stop n]) h00 mixed hΓ (by kernel_rfl) ?_
            simp only [rs]
            repeat (refine opsG fun K hK => ?_; simp (maxSteps := 2000000) only [ev, ew, tys, tl, ↓reduceIte, reduceCtorEq, Nat.reduceAdd, Nat.reduceMul, Nat.reduceSub, Nat.reduceEqDiff, Nat.reduceLeDiff, Nat.reduceLT, Int.reduceToNat, xflow_Test, xflow_Stop, flow_Skip_s2, flow_Skip_s4, flow_Skip_t5, flow_Skip_t3, flow_Skip_s1, flow_Skip_s7, flow_Skip_s8, flow_Skip_t6, Option.isSome_some, Option.getD_some]; (repeat (first | refine ⟨by first | with_reducible assumption | omega | (intro hh; (repeat refine ⟨hh, ?_⟩); revert hh; with_reducible assumption), ?_⟩ | refine fun (_ : _ ≤ _) => ?_)); refine hK _ ?_; clear hK K)
            refine opsG0 ?_
            refine hK49 _ ?_
            refine Sm.condK (by rfl) fun Ka Kb ha hb => ?_
            simp only [wpCond, ev, ew, tys, tl, ↓reduceIte, reduceCtorEq, Nat.reduceAdd, Nat.reduceMul, Nat.reduceSub, Nat.reduceEqDiff, Nat.reduceLeDiff, Nat.reduceLT, Int.reduceToNat, xflow_Test, xflow_Stop, flow_Skip_s2, flow_Skip_s4, flow_Skip_t5, flow_Skip_t3, flow_Skip_s1, flow_Skip_s7, flow_Skip_s8, flow_Skip_t6, Option.isSome_some, Option.getD_some]
            refine ⟨fun h50 => ha ?_, fun h50 => hb ?_⟩
            · replace H := bif_t h50 H
              refine Sm.seqK fun K51 hK51 => ?_
              refine Sm.regA (Γ := [xflow_Test n, xflow_Stop n]) h00 mixed hΓ (by kernel_rfl) ?_
              simp only [rs]
              repeat (refine opsG fun K hK => ?_; simp (maxSteps := 2000000) only [ev, ew, tys, tl, ↓reduceIte, reduceCtorEq, Nat.reduceAdd, Nat.reduceMul, Nat.reduceSub, Nat.reduceEqDiff, Nat.reduceLeDiff, Nat.reduceLT, Int.reduceToNat, xflow_Test, xflow_Stop, flow_Skip_s2, flow_Skip_s4, flow_Skip_t5, flow_Skip_t3, flow_Skip_s1, flow_Skip_s7, flow_Skip_s8, flow_Skip_t6, Option.isSome_some, Option.getD_some]; (repeat (first | refine ⟨by first | with_reducible assumption | omega | (intro hh; (repeat refine ⟨hh, ?_⟩); revert hh; with_reducible assumption), ?_⟩ | refine fun (_ : _ ≤ _) => ?_)); refine hK _ ?_; clear hK K)
              refine opsG0 ?_
              refine hK51 _ ?_
              refine Sm.ret ?_
              try simp only [↓reduceIte, reduceCtorEq, Exit.exit.injEq]
              refine ⟨⟨_, (Option.some.inj H).symm⟩, fun hz => ?_⟩
              have hyy := Sum.inr.inj ((Option.some.inj H).trans hz)
              subst hyy
              have H := Ho39
              try dsimp only at H
              try simp only [↓reduceIte, reduceCtorEq, Exit.exit.injEq]
              obtain rfl := Option.some.inj H
              refine Ret.ofR [] (.inr rfl) ?_
              simp (maxSteps := 2000000) only [ev, ew, tys, tl, ↓reduceIte, reduceCtorEq, Nat.reduceAdd, Nat.reduceMul, Nat.reduceSub, Nat.reduceEqDiff, Nat.reduceLeDiff, Nat.reduceLT, Int.reduceToNat, xflow_Test, xflow_Stop, flow_Skip_s2, flow_Skip_s4, flow_Skip_t5, flow_Skip_t3, flow_Skip_s1, flow_Skip_s7, flow_Skip_s8, flow_Skip_t6, Option.isSome_some, Option.getD_some]
              done
            · replace H := bif_f h50 H
              refine Sm.seqK fun K52 hK52 => ?_
              refine Sm.regA (Γ := [xflow_Test n, xflow_Stop n]) h00 mixed hΓ (by kernel_rfl) ?_
              simp only [rs]
              repeat (refine opsG fun K hK => ?_; simp (maxSteps := 2000000) only [ev, ew, tys, tl, ↓reduceIte, reduceCtorEq, Nat.reduceAdd, Nat.reduceMul, Nat.reduceSub, Nat.reduceEqDiff, Nat.reduceLeDiff, Nat.reduceLT, Int.reduceToNat, xflow_Test, xflow_Stop, flow_Skip_s2, flow_Skip_s4, flow_Skip_t5, flow_Skip_t3, flow_Skip_s1, flow_Skip_s7, flow_Skip_s8, flow_Skip_t6, Option.isSome_some, Option.getD_some]; (repeat (first | refine ⟨by first | with_reducible assumption | omega | (intro hh; (repeat refine ⟨hh, ?_⟩); revert hh; with_reducible assumption), ?_⟩ | refine fun (_ : _ ≤ _) => ?_)); refine hK _ ?_; clear hK K)
              refine opsG0 ?_
              refine hK52 _ ?_
              refine Sm.condK (by rfl) fun Ka Kb ha hb => ?_
              simp only [wpCond, ev, ew, tys, tl, ↓reduceIte, reduceCtorEq, Nat.reduceAdd, Nat.reduceMul, Nat.reduceSub, Nat.reduceEqDiff, Nat.reduceLeDiff, Nat.reduceLT, Int.reduceToNat, xflow_Test, xflow_Stop, flow_Skip_s2, flow_Skip_s4, flow_Skip_t5, flow_Skip_t3, flow_Skip_s1, flow_Skip_s7, flow_Skip_s8, flow_Skip_t6, Option.isSome_some, Option.getD_some]
              refine ⟨fun h53 => ha ?_, fun h53 => hb ?_⟩
              · replace H := bif_t h53 H
                refine Sm.regA (Γ := [xflow_Test n, xflow_Stop n]) h00 mixed hΓ (by kernel_rfl) ?_
                simp only [rs]
                repeat (refine opsG fun K hK => ?_; simp (maxSteps := 2000000) only [ev, ew, tys, tl, ↓reduceIte, reduceCtorEq, Nat.reduceAdd, Nat.reduceMul, Nat.reduceSub, Nat.reduceEqDiff, Nat.reduceLeDiff, Nat.reduceLT, Int.reduceToNat, xflow_Test, xflow_Stop, flow_Skip_s2, flow_Skip_s4, flow_Skip_t5, flow_Skip_t3, flow_Skip_s1, flow_Skip_s7, flow_Skip_s8, flow_Skip_t6, Option.isSome_some, Option.getD_some]; (repeat (first | refine ⟨by first | with_reducible assumption | omega | (intro hh; (repeat refine ⟨hh, ?_⟩); revert hh; with_reducible assumption), ?_⟩ | refine fun (_ : _ ≤ _) => ?_)); refine hK _ ?_; clear hK K)
                refine opsG0 ?_
                try simp only [↓reduceIte, reduceCtorEq, Exit.exit.injEq]
                refine ⟨_, H, ?_⟩
                exact weak_b [some 9011, some 9012, some 176] rfl rfl (by simp only [wk, ev, ew, tys, tl, ↓reduceIte, reduceCtorEq, Nat.reduceAdd, Nat.reduceMul, Nat.reduceSub, Nat.reduceEqDiff, Nat.reduceLeDiff, Nat.reduceLT, Int.reduceToNat, flow_Skip_s2, flow_Skip_s4, flow_Skip_t5, flow_Skip_t3, flow_Skip_s1, flow_Skip_s7, flow_Skip_s8, flow_Skip_t6]) (by simp only [wk, ev, ew, tys, tl, ↓reduceIte, reduceCtorEq, Nat.reduceAdd, Nat.reduceMul, Nat.reduceSub, Nat.reduceEqDiff, Nat.reduceLeDiff, Nat.reduceLT, Int.reduceToNat, flow_Skip_s2, flow_Skip_s4, flow_Skip_t5, flow_Skip_t3, flow_Skip_s1, flow_Skip_s7, flow_Skip_s8, flow_Skip_t6])
              · replace H := bif_f h53 H
                refine Sm.skip ?_
                try simp only [↓reduceIte, reduceCtorEq, Exit.exit.injEq]
                refine ⟨_, H, ?_⟩
                exact weak_b [some 9011, some 9012, some 176] rfl rfl (by simp only [wk, ev, ew, tys, tl, ↓reduceIte, reduceCtorEq, Nat.reduceAdd, Nat.reduceMul, Nat.reduceSub, Nat.reduceEqDiff, Nat.reduceLeDiff, Nat.reduceLT, Int.reduceToNat, flow_Skip_s2, flow_Skip_s4, flow_Skip_t5, flow_Skip_t3, flow_Skip_s1, flow_Skip_s7, flow_Skip_s8, flow_Skip_t6]) (by simp only [wk, ev, ew, tys, tl, ↓reduceIte, reduceCtorEq, Nat.reduceAdd, Nat.reduceMul, Nat.reduceSub, Nat.reduceEqDiff, Nat.reduceLeDiff, Nat.reduceLT, Int.reduceToNat, flow_Skip_s2, flow_Skip_s4, flow_Skip_t5, flow_Skip_t3, flow_Skip_s1, flow_Skip_s7, flow_Skip_s8, flow_Skip_t6])
          · rintro abend_1 H
            try dsimp only at H
            unfold flow_Skip_k8 at H
            refine Sm.seqK fun K44 hK44 => ?_
            refine Sm.regA (Γ := [xflow_Test n, xflow_Stop n]) h00 mixed hΓ (by kernel_rfl) ?_
            simp only [rs]
            repeat (refine opsG fun K hK => ?_; simp (maxSteps := 2000000) only [ev, ew, tys, tl, ↓reduceIte, reduceCtorEq, Nat.reduceAdd, Nat.reduceMul, Nat.reduceSub, Nat.reduceEqDiff, Nat.reduceLeDiff, Nat.reduceLT, Int.reduceToNat, xflow_Test, xflow_Stop, flow_Skip_s2, flow_Skip_s4, flow_Skip_t5, flow_Skip_t3, flow_Skip_s1, flow_Skip_s7, flow_Skip_s8, flow_Skip_t6, Option.isSome_some, Option.getD_some]; (repeat (first | refine ⟨by first | with_reducible assumption | omega | (intro hh; (repeat refine ⟨hh, ?_⟩); revert hh; with_reducible assumption), ?_⟩ | refine fun (_ : _ ≤ _) => ?_)); refine hK _ ?_; clear hK K)
            refine opsG0 ?_
            refine hK44 _ ?_
            refine Sm.condK (by rfl) fun Ka Kb ha hb => ?_
            simp only [wpCond, ev, ew, tys, tl, ↓reduceIte, reduceCtorEq, Nat.reduceAdd, Nat.reduceMul, Nat.reduceSub, Nat.reduceEqDiff, Nat.reduceLeDiff, Nat.reduceLT, Int.reduceToNat, xflow_Test, xflow_Stop, flow_Skip_s2, flow_Skip_s4, flow_Skip_t5, flow_Skip_t3, flow_Skip_s1, flow_Skip_s7, flow_Skip_s8, flow_Skip_t6, Option.isSome_some, Option.getD_some]
            refine ⟨fun h45 => ha ?_, fun h45 => hb ?_⟩
            · replace H := bif_t h45 H
              obtain ⟨hg46, H⟩ := gd_some H
              refine Sm.regD (Γ := [xflow_Test n, xflow_Stop n]) h00 mixed hΓ (by kernel_rfl) ?_
              simp only [rs]
              repeat (refine opsH fun K hK => ?_; simp (maxSteps := 2000000) only [ev, ew, tys, tl, ↓reduceIte, reduceCtorEq, Nat.reduceAdd, Nat.reduceMul, Nat.reduceSub, Nat.reduceEqDiff, Nat.reduceLeDiff, Nat.reduceLT, Int.reduceToNat, xflow_Test, xflow_Stop, flow_Skip_s2, flow_Skip_s4, flow_Skip_t5, flow_Skip_t3, flow_Skip_s1, flow_Skip_s7, flow_Skip_s8, flow_Skip_t6, Option.isSome_some, Option.getD_some]; (repeat (first | refine ⟨by first | with_reducible assumption | omega | (intro hh; (repeat refine ⟨hh, ?_⟩); revert hh; with_reducible assumption), ?_⟩ | refine fun (_ : _ ≤ _) => ?_)); refine hK _ ?_; clear hK K)
              refine opsH0 ?_
              try simp only [↓reduceIte, reduceCtorEq, Exit.exit.injEq]
              refine ⟨(abend_1, (tset (gt names (Int.toNat v28)) (gt (List.take (Int.toNat (if (ends.length : Int) < (names.length : Int) then (ends.length : Int) else (names.length : Int))) ends) (Int.toNat v28)).Code codes)), H, ?_⟩
              exact weak_b [some 9015, some 9016] rfl rfl (by simp only [wk, ev, ew, tys, tl, ↓reduceIte, reduceCtorEq, Nat.reduceAdd, Nat.reduceMul, Nat.reduceSub, Nat.reduceEqDiff, Nat.reduceLeDiff, Nat.reduceLT, Int.reduceToNat, flow_Skip_s2, flow_Skip_s4, flow_Skip_t5, flow_Skip_t3, flow_Skip_s1, flow_Skip_s7, flow_Skip_s8, flow_Skip_t6]) (by simp only [wk, ev, ew, tys, tl, ↓reduceIte, reduceCtorEq, Nat.reduceAdd, Nat.reduceMul, Nat.reduceSub, Nat.reduceEqDiff, Nat.reduceLeDiff, Nat.reduceLT, Int.reduceToNat, flow_Skip_s2, flow_Skip_s4, flow_Skip_t5, flow_Skip_t3, flow_Skip_s1, flow_Skip_s7, flow_Skip_s8, flow_Skip_t6])
            · replace H := bif_f h45 H
              obtain ⟨hg47, H⟩ := gd_some H
              refine Sm.regA (Γ := [xflow_Test n, xflow_Stop n]) h00 mixed hΓ (by kernel_rfl) ?_
              simp only [rs]
              repeat (refine opsG fun K hK => ?_; simp (maxSteps := 2000000) only [ev, ew, tys, tl, ↓reduceIte, reduceCtorEq, Nat.reduceAdd, Nat.reduceMul, Nat.reduceSub, Nat.reduceEqDiff, Nat.reduceLeDiff, Nat.reduceLT, Int.reduceToNat, xflow_Test, xflow_Stop, flow_Skip_s2, flow_Skip_s4, flow_Skip_t5, flow_Skip_t3, flow_Skip_s1, flow_Skip_s7, flow_Skip_s8, flow_Skip_t6, Option.isSome_some, Option.getD_some]; (repeat (first | refine ⟨by first | with_reducible assumption | omega | (intro hh; (repeat refine ⟨hh, ?_⟩); revert hh; with_reducible assumption), ?_⟩ | refine fun (_ : _ ≤ _) => ?_)); refine hK _ ?_; clear hK K)
              refine opsG0 ?_
              try simp only [↓reduceIte, reduceCtorEq, Exit.exit.injEq]
              refine ⟨(abend_1, (tdel (gt names (Int.toNat v28)) codes)), H, ?_⟩
              exact weak_b [some 9015, some 9016] rfl rfl (by simp only [wk, ev, ew, tys, tl, ↓reduceIte, reduceCtorEq, Nat.reduceAdd, Nat.reduceMul, Nat.reduceSub, Nat.reduceEqDiff, Nat.reduceLeDiff, Nat.reduceLT, Int.reduceToNat, flow_Skip_s2, flow_Skip_s4, flow_Skip_t5, flow_Skip_t3, flow_Skip_s1, flow_Skip_s7, flow_Skip_s8, flow_Skip_t6]) (by simp only [wk, ev, ew, tys, tl, ↓reduceIte, reduceCtorEq, Nat.reduceAdd, Nat.reduceMul, Nat.reduceSub, Nat.reduceEqDiff, Nat.reduceLeDiff, Nat.reduceLT, Int.reduceToNat, flow_Skip_s2, flow_Skip_s4, flow_Skip_t5, flow_Skip_t3, flow_Skip_s1, flow_Skip_s7, flow_Skip_s8, flow_Skip_t6])
        · rintro ⟨abend_1, codes_1⟩ H
          try dsimp only at H
          unfold flow_Skip_k7 at H
          refine Sm.regA (Γ := [xflow_Test n, xflow_Stop n]) h00 mixed hΓ (by kernel_rfl) ?_
          simp only [rs]
          repeat (refine opsG fun K hK => ?_; simp (maxSteps := 2000000) only [ev, ew, tys, tl, ↓reduceIte, reduceCtorEq, Nat.reduceAdd, Nat.reduceMul, Nat.reduceSub, Nat.reduceEqDiff, Nat.reduceLeDiff, Nat.reduceLT, Int.reduceToNat, xflow_Test, xflow_Stop, flow_Skip_s2, flow_Skip_s4, flow_Skip_t5, flow_Skip_t3, flow_Skip_s1, flow_Skip_s7, flow_Skip_s8, flow_Skip_t6, Option.isSome_some, Option.getD_some]; (repeat (first | refine ⟨by first | with_reducible assumption | omega | (intro hh; (repeat refine ⟨hh, ?_⟩); revert hh; with_reducible assumption), ?_⟩ | refine fun (_ : _ ≤ _) => ?_)); refine hK _ ?_; clear hK K)
          refine opsG0 ?_
          try simp only [↓reduceIte, reduceCtorEq, Exit.exit.injEq]
          refine ⟨(_, _, _), (Option.some.inj H).symm, ?_⟩
          exact weak_b [some 9013, some 9014] rfl rfl (by simp only [wk, ev, ew, tys, tl, ↓reduceIte, reduceCtorEq, Nat.reduceAdd, Nat.reduceMul, Nat.reduceSub, Nat.reduceEqDiff, Nat.reduceLeDiff, Nat.reduceLT, Int.reduceToNat, flow_Skip_s2, flow_Skip_s4, flow_Skip_t5, flow_Skip_t3, flow_Skip_s1, flow_Skip_s7, flow_Skip_s8, flow_Skip_t6]) (by simp only [wk, ev, ew, tys, tl, ↓reduceIte, reduceCtorEq, Nat.reduceAdd, Nat.reduceMul, Nat.reduceSub, Nat.reduceEqDiff, Nat.reduceLeDiff, Nat.reduceLT, Int.reduceToNat, flow_Skip_s2, flow_Skip_s4, flow_Skip_t5, flow_Skip_t3, flow_Skip_s1, flow_Skip_s7, flow_Skip_s8, flow_Skip_t6])
      · replace H := bif_f h42 H
        refine Sm.exit ?_
        try simp only [↓reduceIte, reduceCtorEq, Exit.exit.injEq]
        refine ⟨⟨_, (Option.some.inj H).symm⟩, fun hz => ?_⟩
        have hyy := Sum.inr.inj ((Option.some.inj H).trans hz)
        subst hyy
        have H := Ho39
        try dsimp only at H
        try simp only [↓reduceIte, reduceCtorEq, Exit.exit.injEq]
        refine ⟨((if (ends.length : Int) < (names.length : Int) then (ends.length : Int) else (names.length : Int)), abend, codes), H, ?_⟩
        exact weak_b [some 9011, some 9012] rfl rfl (by simp only [wk, ev, ew, tys, tl, ↓reduceIte, reduceCtorEq, Nat.reduceAdd, Nat.reduceMul, Nat.reduceSub, Nat.reduceEqDiff, Nat.reduceLeDiff, Nat.reduceLT, Int.reduceToNat, flow_Skip_s2, flow_Skip_s4, flow_Skip_t5, flow_Skip_t3, flow_Skip_s1, flow_Skip_s7, flow_Skip_s8, flow_Skip_t6]) (by simp only [wk, ev, ew, tys, tl, ↓reduceIte, reduceCtorEq, Nat.reduceAdd, Nat.reduceMul, Nat.reduceSub, Nat.reduceEqDiff, Nat.reduceLeDiff, Nat.reduceLT, Int.reduceToNat, flow_Skip_s2, flow_Skip_s4, flow_Skip_t5, flow_Skip_t3, flow_Skip_s1, flow_Skip_s7, flow_Skip_s8, flow_Skip_t6])
  · rintro ⟨n_, abend, codes⟩ H
    try dsimp only at H
    unfold flow_Skip_k1 at H
    refine Sm.seqK fun K5 hK5 => ?_
    refine Sm.seqK fun K6 hK6 => ?_
    refine Sm.regA (Γ := [xflow_Test n, xflow_Stop n]) h00 mixed hΓ (by kernel_rfl) ?_
    simp only [rs]
    repeat (refine opsG fun K hK => ?_; simp (maxSteps := 2000000) only [ev, ew, tys, tl, ↓reduceIte, reduceCtorEq, Nat.reduceAdd, Nat.reduceMul, Nat.reduceSub, Nat.reduceEqDiff, Nat.reduceLeDiff, Nat.reduceLT, Int.reduceToNat, xflow_Test, xflow_Stop, flow_Skip_s2, flow_Skip_s4, flow_Skip_t5, flow_Skip_t3, flow_Skip_s1, flow_Skip_s7, flow_Skip_s8, flow_Skip_t6, Option.isSome_some, Option.getD_some]; (repeat (first | refine ⟨by first | with_reducible assumption | omega | (intro hh; (repeat refine ⟨hh, ?_⟩); revert hh; with_reducible assumption), ?_⟩ | refine fun (_ : _ ≤ _) => ?_)); refine hK _ ?_; clear hK K)
    refine opsG0 ?_
    refine hK6 _ ?_
    refine Sm.condK (by rfl) fun Ka Kb ha hb => ?_
    simp only [wpCond, ev, ew, tys, tl, ↓reduceIte, reduceCtorEq, Nat.reduceAdd, Nat.reduceMul, Nat.reduceSub, Nat.reduceEqDiff, Nat.reduceLeDiff, Nat.reduceLT, Int.reduceToNat, xflow_Test, xflow_Stop, flow_Skip_s2, flow_Skip_s4, flow_Skip_t5, flow_Skip_t3, flow_Skip_s1, flow_Skip_s7, flow_Skip_s8, flow_Skip_t6, Option.isSome_some, Option.getD_some]
    refine ⟨fun h7 => ha ?_, fun h7 => hb ?_⟩
    · replace H := bif_t h7 H
      refine Sm.seqK fun K8 hK8 => ?_
      refine Sm.regA (Γ := [xflow_Test n, xflow_Stop n]) h00 mixed hΓ (by kernel_rfl) ?_
      simp only [rs]
      repeat (refine opsG fun K hK => ?_; simp (maxSteps := 2000000) only [ev, ew, tys, tl, ↓reduceIte, reduceCtorEq, Nat.reduceAdd, Nat.reduceMul, Nat.reduceSub, Nat.reduceEqDiff, Nat.reduceLeDiff, Nat.reduceLT, Int.reduceToNat, xflow_Test, xflow_Stop, flow_Skip_s2, flow_Skip_s4, flow_Skip_t5, flow_Skip_t3, flow_Skip_s1, flow_Skip_s7, flow_Skip_s8, flow_Skip_t6, Option.isSome_some, Option.getD_some]; (repeat (first | refine ⟨by first | with_reducible assumption | omega | (intro hh; (repeat refine ⟨hh, ?_⟩); revert hh; with_reducible assumption), ?_⟩ | refine fun (_ : _ ≤ _) => ?_)); refine hK _ ?_; clear hK K)
      refine opsG0 ?_
      refine hK8 _ ?_
      refine Sm.ret ?_
      try simp only [↓reduceIte, reduceCtorEq, Exit.exit.injEq]
      obtain rfl := Option.some.inj H
      refine Ret.ofR [] (.inr rfl) ?_
      simp (maxSteps := 2000000) only [ev, ew, tys, tl, ↓reduceIte, reduceCtorEq, Nat.reduceAdd, Nat.reduceMul, Nat.reduceSub, Nat.reduceEqDiff, Nat.reduceLeDiff, Nat.reduceLT, Int.reduceToNat, xflow_Test, xflow_Stop, flow_Skip_s2, flow_Skip_s4, flow_Skip_t5, flow_Skip_t3, flow_Skip_s1, flow_Skip_s7, flow_Skip_s8, flow_Skip_t6, Option.isSome_some, Option.getD_some]
      done
    · replace H := bif_f h7 H
      refine Sm.skip ?_
      refine hK5 _ ?_
      refine Sm.cut (fun (x : Unit) => flow_Skip_s2) (fun x => flow_Skip_k2 n = some r) ?_ ?_
      · refine Sm.seqK fun K10 hK10 => ?_
        refine Sm.regA (Γ := [xflow_Test n, xflow_Stop n]) h00 mixed hΓ (by kernel_rfl) ?_
        simp only [rs]
        repeat (refine opsG fun K hK => ?_; simp (maxSteps := 2000000) only [ev, ew, tys, tl, ↓reduceIte, reduceCtorEq, Nat.reduceAdd, Nat.reduceMul, Nat.reduceSub, Nat.reduceEqDiff, Nat.reduceLeDiff, Nat.reduceLT, Int.reduceToNat, xflow_Test, xflow_Stop, flow_Skip_s2, flow_Skip_s4, flow_Skip_t5, flow_Skip_t3, flow_Skip_s1, flow_Skip_s7, flow_Skip_s8, flow_Skip_t6, Option.isSome_some, Option.getD_some]; (repeat (first | refine ⟨by first | with_reducible assumption | omega | (intro hh; (repeat refine ⟨hh, ?_⟩); revert hh; with_reducible assumption), ?_⟩ | refine fun (_ : _ ≤ _) => ?_)); refine hK _ ?_; clear hK K)
        refine opsG0 ?_
        refine hK10 _ ?_
        refine Sm.block ?_
        obtain ⟨y11, hy11, Ho11⟩ := bind_some H
        refine Sm.loopB (fun (x : Int) => flow_Skip_b3 n ends n_ codes s (s.Conds.length : Int) x) (fun x => flow_Skip_t3 ends n_ codes s (s.Conds.length : Int) x) hy11 ?_ ?_
        · exact weak_b [some 9001] rfl rfl (by simp only [wk, ev, ew, tys, tl, ↓reduceIte, reduceCtorEq, Nat.reduceAdd, Nat.reduceMul, Nat.reduceSub, Nat.reduceEqDiff, Nat.reduceLeDiff, Nat.reduceLT, Int.reduceToNat, flow_Skip_s2, flow_Skip_s4, flow_Skip_t5, flow_Skip_t3, flow_Skip_s1, flow_Skip_s7, flow_Skip_s8, flow_Skip_t6]) (by simp only [wk, ev, ew, tys, tl, ↓reduceIte, reduceCtorEq, Nat.reduceAdd, Nat.reduceMul, Nat.reduceSub, Nat.reduceEqDiff, Nat.reduceLeDiff, Nat.reduceLT, Int.reduceToNat, flow_Skip_s2, flow_Skip_s4, flow_Skip_t5, flow_Skip_t3, flow_Skip_s1, flow_Skip_s7, flow_Skip_s8, flow_Skip_t6])
        · rintro v77 z11 H
          try dsimp only at H
          unfold flow_Skip_b3 at H
          refine Sm.seqK fun K12 hK12 => ?_
          refine Sm.regA (Γ := [xflow_Test n, xflow_Stop n]) h00 mixed hΓ (by kernel_rfl) ?_
          simp only [rs]
          repeat (refine opsG fun K hK => ?_; simp (maxSteps := 2000000) only [ev, ew, tys, tl, ↓reduceIte, reduceCtorEq, Nat.reduceAdd, Nat.reduceMul, Nat.reduceSub, Nat.reduceEqDiff, Nat.reduceLeDiff, Nat.reduceLT, Int.reduceToNat, xflow_Test, xflow_Stop, flow_Skip_s2, flow_Skip_s4, flow_Skip_t5, flow_Skip_t3, flow_Skip_s1, flow_Skip_s7, flow_Skip_s8, flow_Skip_t6, Option.isSome_some, Option.getD_some]; (repeat (first | refine ⟨by first | with_reducible assumption | omega | (intro hh; (repeat refine ⟨hh, ?_⟩); revert hh; with_reducible assumption), ?_⟩ | refine fun (_ : _ ≤ _) => ?_)); refine hK _ ?_; clear hK K)
          refine opsG0 ?_
          refine hK12 _ ?_
          refine Sm.seqK fun K13 hK13 => ?_
          refine Sm.condK (by rfl) fun Ka Kb ha hb => ?_
          simp only [wpCond, ev, ew, tys, tl, ↓reduceIte, reduceCtorEq, Nat.reduceAdd, Nat.reduceMul, Nat.reduceSub, Nat.reduceEqDiff, Nat.reduceLeDiff, Nat.reduceLT, Int.reduceToNat, xflow_Test, xflow_Stop, flow_Skip_s2, flow_Skip_s4, flow_Skip_t5, flow_Skip_t3, flow_Skip_s1, flow_Skip_s7, flow_Skip_s8, flow_Skip_t6, Option.isSome_some, Option.getD_some]
          refine ⟨fun h14 => ha ?_, fun h14 => hb ?_⟩
          · replace H := bif_t h14 H
            refine Sm.skip ?_
            refine hK13 _ ?_
            refine Sm.cut (fun (x : Unit) => flow_Skip_s4 ends n_ codes s (s.Conds.length : Int) v77) (fun x => flow_Skip_k4 n ends n_ codes s (s.Conds.length : Int) v77 = some z11) ?_ ?_
            · refine Sm.block ?_
              refine Sm.seqK fun K15 hK15 => ?_
              obtain ⟨hg37, H⟩ := gd_some H
              refine Sm.regA (Γ := [xflow_Test n, xflow_Stop n]) h00 mixed hΓ (by kernel_rfl) ?_
              simp only [rs]
              repeat (refine opsG fun K hK => ?_; simp (maxSteps := 2000000) only [ev, ew, tys, tl, ↓reduceIte, reduceCtorEq, Nat.reduceAdd, Nat.reduceMul, Nat.reduceSub, Nat.reduceEqDiff, Nat.reduceLeDiff, Nat.reduceLT, Int.reduceToNat, xflow_Test, xflow_Stop, flow_Skip_s2, flow_Skip_s4, flow_Skip_t5, flow_Skip_t3, flow_Skip_s1, flow_Skip_s7, flow_Skip_s8, flow_Skip_t6, Option.isSome_some, Option.getD_some]; (repeat (first | refine ⟨by first | with_reducible assumption | omega | (intro hh; (repeat refine ⟨hh, ?_⟩); revert hh; with_reducible assumption), ?_⟩ | refine fun (_ : _ ≤ _) => ?_)); refine hK _ ?_; clear hK K)
              refine opsG0 ?_
              refine hK15 _ ?_
              refine Sm.seqK fun K16 hK16 => ?_
              refine Sm.seqK fun K17 hK17 => ?_
              refine Sm.regA (Γ := [xflow_Test n, xflow_Stop n]) h00 mixed hΓ (by kernel_rfl) ?_
              simp only [rs]
              repeat (refine opsG fun K hK => ?_; simp (maxSteps := 2000000) only [ev, ew, tys, tl, ↓reduceIte, reduceCtorEq, Nat.reduceAdd, Nat.reduceMul, Nat.reduceSub, Nat.reduceEqDiff, Nat.reduceLeDiff, Nat.reduceLT, Int.reduceToNat, xflow_Test, xflow_Stop, flow_Skip_s2, flow_Skip_s4, flow_Skip_t5, flow_Skip_t3, flow_Skip_s1, flow_Skip_s7, flow_Skip_s8, flow_Skip_t6, Option.isSome_some, Option.getD_some]; (repeat (first | refine ⟨by first | with_reducible assumption | omega | (intro hh; (repeat refine ⟨hh, ?_⟩); revert hh; with_reducible assumption), ?_⟩ | refine fun (_ : _ ≤ _) => ?_)); refine hK _ ?_; clear hK K)
              refine opsG0 ?_
              refine hK17 _ ?_
              refine Sm.condK (by rfl) fun Ka Kb ha hb => ?_
              simp only [wpCond, ev, ew, tys, tl, ↓reduceIte, reduceCtorEq, Nat.reduceAdd, Nat.reduceMul, Nat.reduceSub, Nat.reduceEqDiff, Nat.reduceLeDiff, Nat.reduceLT, Int.reduceToNat, xflow_Test, xflow_Stop, flow_Skip_s2, flow_Skip_s4, flow_Skip_t5, flow_Skip_t3, flow_Skip_s1, flow_Skip_s7, flow_Skip_s8, flow_Skip_t6, Option.isSome_some, Option.getD_some]
              refine ⟨fun h18 => ha ?_, fun h18 => hb ?_⟩
              · replace H := bif_t h18 H
                refine Sm.seqK fun K19 hK19 => ?_
                refine Sm.seqK fun K20 hK20 => ?_
                refine Sm.regA (Γ := [xflow_Test n, xflow_Stop n]) h00 mixed hΓ (by kernel_rfl) ?_
                simp only [rs]
                repeat (refine opsG fun K hK => ?_; simp (maxSteps := 2000000) only [ev, ew, tys, tl, ↓reduceIte, reduceCtorEq, Nat.reduceAdd, Nat.reduceMul, Nat.reduceSub, Nat.reduceEqDiff, Nat.reduceLeDiff, Nat.reduceLT, Int.reduceToNat, xflow_Test, xflow_Stop, flow_Skip_s2, flow_Skip_s4, flow_Skip_t5, flow_Skip_t3, flow_Skip_s1, flow_Skip_s7, flow_Skip_s8, flow_Skip_t6, Option.isSome_some, Option.getD_some]; (repeat (first | refine ⟨by first | with_reducible assumption | omega | (intro hh; (repeat refine ⟨hh, ?_⟩); revert hh; with_reducible assumption), ?_⟩ | refine fun (_ : _ ≤ _) => ?_)); refine hK _ ?_; clear hK K)
                refine opsG0 ?_
                refine hK20 _ ?_
                refine Sm.seqK fun K21 hK21 => ?_
                obtain ⟨hg24, H⟩ := gd_some H
                refine Sm.regA (Γ := [xflow_Test n, xflow_Stop n]) h00 mixed hΓ (by kernel_rfl) ?_
                simp only [rs]
                repeat (refine opsG fun K hK => ?_; simp (maxSteps := 2000000) only [ev, ew, tys, tl, ↓reduceIte, reduceCtorEq, Nat.reduceAdd, Nat.reduceMul, Nat.reduceSub, Nat.reduceEqDiff, Nat.reduceLeDiff, Nat.reduceLT, Int.reduceToNat, xflow_Test, xflow_Stop, flow_Skip_s2, flow_Skip_s4, flow_Skip_t5, flow_Skip_t3, flow_Skip_s1, flow_Skip_s7, flow_Skip_s8, flow_Skip_t6, Option.isSome_some, Option.getD_some]; (repeat (first | refine ⟨by first | with_reducible assumption | omega | (intro hh; (repeat refine ⟨hh, ?_⟩); revert hh; with_reducible assumption), ?_⟩ | refine fun (_ : _ ≤ _) => ?_)); refine hK _ ?_; clear hK K)
                refine opsG0 ?_
                refine hK21 _ ?_
                refine Sm.condK (by rfl) fun Ka Kb ha hb => ?_
                simp only [wpCond, ev, ew, tys, tl, ↓reduceIte, reduceCtorEq, Nat.reduceAdd, Nat.reduceMul, Nat.reduceSub, Nat.reduceEqDiff, Nat.reduceLeDiff, Nat.reduceLT, Int.reduceToNat, xflow_Test, xflow_Stop, flow_Skip_s2, flow_Skip_s4, flow_Skip_t5, flow_Skip_t3, flow_Skip_s1, flow_Skip_s7, flow_Skip_s8, flow_Skip_t6, Option.isSome_some, Option.getD_some]
                refine ⟨fun h22 => ha ?_, fun h22 => hb ?_⟩
                · replace H := bif_t h22 H
                  refine Sm.seqK fun K23 hK23 => ?_
                  refine Sm.regA (Γ := [xflow_Test n, xflow_Stop n]) h00 mixed hΓ (by kernel_rfl) ?_
                  simp only [rs]
                  repeat (refine opsG fun K hK => ?_; simp (maxSteps := 2000000) only [ev, ew, tys, tl, ↓reduceIte, reduceCtorEq, Nat.reduceAdd, Nat.reduceMul, Nat.reduceSub, Nat.reduceEqDiff, Nat.reduceLeDiff, Nat.reduceLT, Int.reduceToNat, xflow_Test, xflow_Stop, flow_Skip_s2, flow_Skip_s4, flow_Skip_t5, flow_Skip_t3, flow_Skip_s1, flow_Skip_s7, flow_Skip_s8, flow_Skip_t6, Option.isSome_some, Option.getD_some]; (repeat (first | refine ⟨by first | with_reducible assumption | omega | (intro hh; (repeat refine ⟨hh, ?_⟩); revert hh; with_reducible assumption), ?_⟩ | refine fun (_ : _ ≤ _) => ?_)); refine hK _ ?_; clear hK K)
                  refine opsG0 ?_
                  refine hK23 _ ?_
                  refine Sm.ret ?_
                  try simp only [↓reduceIte, reduceCtorEq, Exit.exit.injEq]
                  refine ⟨⟨_, (Option.some.inj H).symm⟩, fun hz => ?_⟩
                  have hyy := Sum.inr.inj ((Option.some.inj H).trans hz)
                  subst hyy
                  have H := Ho11
                  try dsimp only at H
                  try simp only [↓reduceIte, reduceCtorEq, Exit.exit.injEq]
                  obtain rfl := Option.some.inj H
                  refine Ret.ofR [] (.inr rfl) ?_
                  simp (maxSteps := 2000000) only [ev, ew, tys, tl, ↓reduceIte, reduceCtorEq, Nat.reduceAdd, Nat.reduceMul, Nat.reduceSub, Nat.reduceEqDiff, Nat.reduceLeDiff, Nat.reduceLT, Int.reduceToNat, xflow_Test, xflow_Stop, flow_Skip_s2, flow_Skip_s4, flow_Skip_t5, flow_Skip_t3, flow_Skip_s1, flow_Skip_s7, flow_Skip_s8, flow_Skip_t6, Option.isSome_some, Option.getD_some]
                  done
                · replace H := bif_f h22 H
                  refine Sm.skip ?_
                  refine hK19 _ ?_
                  refine Sm.exit ?_
                  try simp only [↓reduceIte, reduceCtorEq, Exit.exit.injEq]
                  refine ⟨(), H, ?_⟩
                  exact weak_b [some 9003] rfl rfl (by simp only [wk, ev, ew, tys, tl, ↓reduceIte, reduceCtorEq, Nat.reduceAdd, Nat.reduceMul, Nat.reduceSub, Nat.reduceEqDiff, Nat.reduceLeDiff, Nat.reduceLT, Int.reduceToNat, flow_Skip_s2, flow_Skip_s4, flow_Skip_t5, flow_Skip_t3, flow_Skip_s1, flow_Skip_s7, flow_Skip_s8, flow_Skip_t6]) (by simp only [wk, ev, ew, tys, tl, ↓reduceIte, reduceCtorEq, Nat.reduceAdd, Nat.reduceMul, Nat.reduceSub, Nat.reduceEqDiff, Nat.reduceLeDiff, Nat.reduceLT, Int.reduceToNat, flow_Skip_s2, flow_Skip_s4, flow_Skip_t5, flow_Skip_t3, flow_Skip_s1, flow_Skip_s7, flow_Skip_s8, flow_Skip_t6])
              · replace H := bif_f h18 H
                refine Sm.skip ?_
                refine hK16 _ ?_
                refine Sm.seqK fun K25 hK25 => ?_
                obtain ⟨hg36, H⟩ := gd_some H
                refine Sm.regA (Γ := [xflow_Test n, xflow_Stop n]) h00 mixed hΓ (by kernel_rfl) ?_
                simp only [rs]
                repeat (refine opsG fun K hK => ?_; simp (maxSteps := 2000000) only [ev, ew, tys, tl, ↓reduceIte, reduceCtorEq, Nat.reduceAdd, Nat.reduceMul, Nat.reduceSub, Nat.reduceEqDiff, Nat.reduceLeDiff, Nat.reduceLT, Int.reduceToNat, xflow_Test, xflow_Stop, flow_Skip_s2, flow_Skip_s4, flow_Skip_t5, flow_Skip_t3, flow_Skip_s1, flow_Skip_s7, flow_Skip_s8, flow_Skip_t6, Option.isSome_some, Option.getD_some]; (repeat (first | refine ⟨by first | with_reducible assumption | omega | (intro hh; (repeat refine ⟨hh, ?_⟩); revert hh; with_reducible assumption), ?_⟩ | refine fun (_ : _ ≤ _) => ?_)); refine hK _ ?_; clear hK K)
                refine opsG0 ?_
                refine hK25 _ ?_
                refine Sm.block ?_
                obtain ⟨y26, hy26, Ho26⟩ := bind_some H
                refine Sm.loopB (fun (x : Int) => flow_Skip_b5 n ends n_ codes ((gt s.Conds (Int.toNat v77)).Code) ((gt s.Conds (Int.toNat v77)).Op) ((gt s.Conds (Int.toNat v77)).Step) s (s.Conds.length : Int) v77 (List.take (Int.toNat n_) ends) ((List.take (Int.toNat n_) ends).length : Int) x) (fun x => flow_Skip_t5 ends n_ codes ((gt s.Conds (Int.toNat v77)).Code) ((gt s.Conds (Int.toNat v77)).Op) ((gt s.Conds (Int.toNat v77)).Step) s (s.Conds.length : Int) v77 (List.take (Int.toNat n_) ends) ((List.take (Int.toNat n_) ends).length : Int) x) hy26 ?_ ?_
                · exact weak_b [some 9003, some 208] rfl rfl (by simp only [wk, ev, ew, tys, tl, ↓reduceIte, reduceCtorEq, Nat.reduceAdd, Nat.reduceMul, Nat.reduceSub, Nat.reduceEqDiff, Nat.reduceLeDiff, Nat.reduceLT, Int.reduceToNat, flow_Skip_s2, flow_Skip_s4, flow_Skip_t5, flow_Skip_t3, flow_Skip_s1, flow_Skip_s7, flow_Skip_s8, flow_Skip_t6]) (by simp only [wk, ev, ew, tys, tl, ↓reduceIte, reduceCtorEq, Nat.reduceAdd, Nat.reduceMul, Nat.reduceSub, Nat.reduceEqDiff, Nat.reduceLeDiff, Nat.reduceLT, Int.reduceToNat, flow_Skip_s2, flow_Skip_s4, flow_Skip_t5, flow_Skip_t3, flow_Skip_s1, flow_Skip_s7, flow_Skip_s8, flow_Skip_t6])
                · rintro v101 z26 H
                  try dsimp only at H
                  unfold flow_Skip_b5 at H
                  refine Sm.seqK fun K27 hK27 => ?_
                  refine Sm.regA (Γ := [xflow_Test n, xflow_Stop n]) h00 mixed hΓ (by kernel_rfl) ?_
                  simp only [rs]
                  repeat (refine opsG fun K hK => ?_; simp (maxSteps := 2000000) only [ev, ew, tys, tl, ↓reduceIte, reduceCtorEq, Nat.reduceAdd, Nat.reduceMul, Nat.reduceSub, Nat.reduceEqDiff, Nat.reduceLeDiff, Nat.reduceLT, Int.reduceToNat, xflow_Test, xflow_Stop, flow_Skip_s2, flow_Skip_s4, flow_Skip_t5, flow_Skip_t3, flow_Skip_s1, flow_Skip_s7, flow_Skip_s8, flow_Skip_t6, Option.isSome_some, Option.getD_some]; (repeat (first | refine ⟨by first | with_reducible assumption | omega | (intro hh; (repeat refine ⟨hh, ?_⟩); revert hh; with_reducible assumption), ?_⟩ | refine fun (_ : _ ≤ _) => ?_)); refine hK _ ?_; clear hK K)
                  refine opsG0 ?_
                  refine hK27 _ ?_
                  refine Sm.seqK fun K28 hK28 => ?_
                  refine Sm.condK (by rfl) fun Ka Kb ha hb => ?_
                  simp only [wpCond, ev, ew, tys, tl, ↓reduceIte, reduceCtorEq, Nat.reduceAdd, Nat.reduceMul, Nat.reduceSub, Nat.reduceEqDiff, Nat.reduceLeDiff, Nat.reduceLT, Int.reduceToNat, xflow_Test, xflow_Stop, flow_Skip_s2, flow_Skip_s4, flow_Skip_t5, flow_Skip_t3, flow_Skip_s1, flow_Skip_s7, flow_Skip_s8, flow_Skip_t6, Option.isSome_some, Option.getD_some]
                  refine ⟨fun h29 => ha ?_, fun h29 => hb ?_⟩
                  · replace H := bif_t h29 H
                    refine Sm.skip ?_
                    refine hK28 _ ?_
                    refine Sm.seqK fun K30 hK30 => ?_
                    refine Sm.block ?_
                    refine Sm.seqK fun K31 hK31 => ?_
                    obtain ⟨hg35, H⟩ := gd_some H
                    refine Sm.regA (Γ := [xflow_Test n, xflow_Stop n]) h00 mixed hΓ (by kernel_rfl) ?_
                    simp only [rs]
                    repeat (refine opsG fun K hK => ?_; simp (maxSteps := 2000000) only [ev, ew, tys, tl, ↓reduceIte, reduceCtorEq, Nat.reduceAdd, Nat.reduceMul, Nat.reduceSub, Nat.reduceEqDiff, Nat.reduceLeDiff, Nat.reduceLT, Int.reduceToNat, xflow_Test, xflow_Stop, flow_Skip_s2, flow_Skip_s4, flow_Skip_t5, flow_Skip_t3, flow_Skip_s1, flow_Skip_s7, flow_Skip_s8, flow_Skip_t6, Option.isSome_some, Option.getD_some]; (repeat (first | refine ⟨by first | with_reducible assumption | omega | (intro hh; (repeat refine ⟨hh, ?_⟩); revert hh; with_reducible assumption), ?_⟩ | refine fun (_ : _ ≤ _) => ?_)); refine hK _ ?_; clear hK K)
                    refine opsG0 ?_
                    refine hK31 _ ?_
                    refine Sm.seqK fun K32 hK32 => ?_
                    obtain ⟨r1, hr1, H⟩ := bind_some H
                    refine Sm.regA (Γ := [xflow_Test n, xflow_Stop n]) h00 mixed hΓ (by kernel_rfl) ?_
                    simp only [rs]
                    repeat (refine opsG fun K hK => ?_; simp (maxSteps := 2000000) only [ev, ew, tys, tl, ↓reduceIte, reduceCtorEq, Nat.reduceAdd, Nat.reduceMul, Nat.reduceSub, Nat.reduceEqDiff, Nat.reduceLeDiff, Nat.reduceLT, Int.reduceToNat, xflow_Test, xflow_Stop, flow_Skip_s2, flow_Skip_s4, flow_Skip_t5, flow_Skip_t3, flow_Skip_s1, flow_Skip_s7, flow_Skip_s8, flow_Skip_t6, Option.isSome_some, Option.getD_some, hr1]; (repeat (first | refine ⟨by first | with_reducible assumption | omega | (intro hh; (repeat refine ⟨hh, ?_⟩); revert hh; with_reducible assumption), ?_⟩ | refine fun (_ : _ ≤ _) => ?_)); refine hK _ ?_; clear hK K)
                    refine opsG0 ?_
                    refine hK32 _ ?_
                    refine Sm.condK (by rfl) fun Ka Kb ha hb => ?_
                    simp only [wpCond, ev, ew, tys, tl, ↓reduceIte, reduceCtorEq, Nat.reduceAdd, Nat.reduceMul, Nat.reduceSub, Nat.reduceEqDiff, Nat.reduceLeDiff, Nat.reduceLT, Int.reduceToNat, xflow_Test, xflow_Stop, flow_Skip_s2, flow_Skip_s4, flow_Skip_t5, flow_Skip_t3, flow_Skip_s1, flow_Skip_s7, flow_Skip_s8, flow_Skip_t6, Option.isSome_some, Option.getD_some]
                    refine ⟨fun h33 => ha ?_, fun h33 => hb ?_⟩
                    · replace H := bif_t h33 H
                      refine Sm.seqK fun K34 hK34 => ?_
                      refine Sm.regA (Γ := [xflow_Test n, xflow_Stop n]) h00 mixed hΓ (by kernel_rfl) ?_
                      simp only [rs]
                      repeat (refine opsG fun K hK => ?_; simp (maxSteps := 2000000) only [ev, ew, tys, tl, ↓reduceIte, reduceCtorEq, Nat.reduceAdd, Nat.reduceMul, Nat.reduceSub, Nat.reduceEqDiff, Nat.reduceLeDiff, Nat.reduceLT, Int.reduceToNat, xflow_Test, xflow_Stop, flow_Skip_s2, flow_Skip_s4, flow_Skip_t5, flow_Skip_t3, flow_Skip_s1, flow_Skip_s7, flow_Skip_s8, flow_Skip_t6, Option.isSome_some, Option.getD_some]; (repeat (first | refine ⟨by first | with_reducible assumption | omega | (intro hh; (repeat refine ⟨hh, ?_⟩); revert hh; with_reducible assumption), ?_⟩ | refine fun (_ : _ ≤ _) => ?_)); refine hK _ ?_; clear hK K)
                      refine opsG0 ?_
                      refine hK34 _ ?_
                      refine Sm.ret ?_
                      try simp only [↓reduceIte, reduceCtorEq, Exit.exit.injEq]
                      refine ⟨⟨_, (Option.some.inj H).symm⟩, fun hz => ?_⟩
                      have hyy := Sum.inr.inj ((Option.some.inj H).trans hz)
                      subst hyy
                      have H := Ho26
                      try dsimp only at H
                      try simp only [↓reduceIte, reduceCtorEq, Exit.exit.injEq]
                      refine ⟨⟨_, (Option.some.inj H).symm⟩, fun hz => ?_⟩
                      have hyy := Sum.inr.inj ((Option.some.inj H).trans hz)
                      subst hyy
                      have H := Ho11
                      try dsimp only at H
                      try simp only [↓reduceIte, reduceCtorEq, Exit.exit.injEq]
                      obtain rfl := Option.some.inj H
                      refine Ret.ofR [] (.inr rfl) ?_
                      simp (maxSteps := 2000000) only [ev, ew, tys, tl, ↓reduceIte, reduceCtorEq, Nat.reduceAdd, Nat.reduceMul, Nat.reduceSub, Nat.reduceEqDiff, Nat.reduceLeDiff, Nat.reduceLT, Int.reduceToNat, xflow_Test, xflow_Stop, flow_Skip_s2, flow_Skip_s4, flow_Skip_t5, flow_Skip_t3, flow_Skip_s1, flow_Skip_s7, flow_Skip_s8, flow_Skip_t6, Option.isSome_some, Option.getD_some]
                      done
                    · replace H := bif_f h33 H
                      refine Sm.skip ?_
                      refine hK30 _ ?_
                      refine Sm.regA (Γ := [xflow_Test n, xflow_Stop n]) h00 mixed hΓ (by kernel_rfl) ?_
                      simp only [rs]
                      repeat (refine opsG fun K hK => ?_; simp (maxSteps := 2000000) only [ev, ew, tys, tl, ↓reduceIte, reduceCtorEq, Nat.reduceAdd, Nat.reduceMul, Nat.reduceSub, Nat.reduceEqDiff, Nat.reduceLeDiff, Nat.reduceLT, Int.reduceToNat, xflow_Test, xflow_Stop, flow_Skip_s2, flow_Skip_s4, flow_Skip_t5, flow_Skip_t3, flow_Skip_s1, flow_Skip_s7, flow_Skip_s8, flow_Skip_t6, Option.isSome_some, Option.getD_some]; (repeat (first | refine ⟨by first | with_reducible assumption | omega | (intro hh; (repeat refine ⟨hh, ?_⟩); revert hh; with_reducible assumption), ?_⟩ | refine fun (_ : _ ≤ _) => ?_)); refine hK _ ?_; clear hK K)
                      refine opsG0 ?_
                      try simp only [↓reduceIte, reduceCtorEq, Exit.exit.injEq]
                      refine ⟨_, (Option.some.inj H).symm, ?_⟩
                      exact weak_b [some 9007, some 9008] rfl rfl (by simp only [wk, ev, ew, tys, tl, ↓reduceIte, reduceCtorEq, Nat.reduceAdd, Nat.reduceMul, Nat.reduceSub, Nat.reduceEqDiff, Nat.reduceLeDiff, Nat.reduceLT, Int.reduceToNat, flow_Skip_s2, flow_Skip_s4, flow_Skip_t5, flow_Skip_t3, flow_Skip_s1, flow_Skip_s7, flow_Skip_s8, flow_Skip_t6]) (by simp only [wk, ev, ew, tys, tl, ↓reduceIte, reduceCtorEq, Nat.reduceAdd, Nat.reduceMul, Nat.reduceSub, Nat.reduceEqDiff, Nat.reduceLeDiff, Nat.reduceLT, Int.reduceToNat, flow_Skip_s2, flow_Skip_s4, flow_Skip_t5, flow_Skip_t3, flow_Skip_s1, flow_Skip_s7, flow_Skip_s8, flow_Skip_t6])
                  · replace H := bif_f h29 H
                    refine Sm.exit ?_
                    try simp only [↓reduceIte, reduceCtorEq, Exit.exit.injEq]
                    refine ⟨⟨_, (Option.some.inj H).symm⟩, fun hz => ?_⟩
                    have hyy := Sum.inr.inj ((Option.some.inj H).trans hz)
                    subst hyy
                    have H := Ho26
                    try dsimp only at H
                    try simp only [↓reduceIte, reduceCtorEq, Exit.exit.injEq]
                    refine ⟨(), H, ?_⟩
                    exact weak_b [some 9007] rfl rfl (by simp only [wk, ev, ew, tys, tl, ↓reduceIte, reduceCtorEq, Nat.reduceAdd, Nat.reduceMul, Nat.reduceSub, Nat.reduceEqDiff, Nat.reduceLeDiff, Nat.reduceLT, Int.reduceToNat, flow_Skip_s2, flow_Skip_s4, flow_Skip_t5, flow_Skip_t3, flow_Skip_s1, flow_Skip_s7, flow_Skip_s8, flow_Skip_t6]) (by simp only [wk, ev, ew, tys, tl, ↓reduceIte, reduceCtorEq, Nat.reduceAdd, Nat.reduceMul, Nat.reduceSub, Nat.reduceEqDiff, Nat.reduceLeDiff, Nat.reduceLT, Int.reduceToNat, flow_Skip_s2, flow_Skip_s4, flow_Skip_t5, flow_Skip_t3, flow_Skip_s1, flow_Skip_s7, flow_Skip_s8, flow_Skip_t6])
            · rintro ⟨⟩ H
              try dsimp only at H
              unfold flow_Skip_k4 at H
              refine Sm.regA (Γ := [xflow_Test n, xflow_Stop n]) h00 mixed hΓ (by kernel_rfl) ?_
              simp only [rs]
              repeat (refine opsG fun K hK => ?_; simp (maxSteps := 2000000) only [ev, ew, tys, tl, ↓reduceIte, reduceCtorEq, Nat.reduceAdd, Nat.reduceMul, Nat.reduceSub, Nat.reduceEqDiff, Nat.reduceLeDiff, Nat.reduceLT, Int.reduceToNat, xflow_Test, xflow_Stop, flow_Skip_s2, flow_Skip_s4, flow_Skip_t5, flow_Skip_t3, flow_Skip_s1, flow_Skip_s7, flow_Skip_s8, flow_Skip_t6, Option.isSome_some, Option.getD_some]; (repeat (first | refine ⟨by first | with_reducible assumption | omega | (intro hh; (repeat refine ⟨hh, ?_⟩); revert hh; with_reducible assumption), ?_⟩ | refine fun (_ : _ ≤ _) => ?_)); refine hK _ ?_; clear hK K)
              refine opsG0 ?_
              try simp only [↓reduceIte, reduceCtorEq, Exit.exit.injEq]
              refine ⟨_, (Option.some.inj H).symm, ?_⟩
              exact weak_b [some 9004] rfl rfl (by simp only [wk, ev, ew, tys, tl, ↓reduceIte, reduceCtorEq, Nat.reduceAdd, Nat.reduceMul, Nat.reduceSub, Nat.reduceEqDiff, Nat.reduceLeDiff, Nat.reduceLT, Int.reduceToNat, flow_Skip_s2, flow_Skip_s4, flow_Skip_t5, flow_Skip_t3, flow_Skip_s1, flow_Skip_s7, flow_Skip_s8, flow_Skip_t6]) (by simp only [wk, ev, ew, tys, tl, ↓reduceIte, reduceCtorEq, Nat.reduceAdd, Nat.reduceMul, Nat.reduceSub, Nat.reduceEqDiff, Nat.reduceLeDiff, Nat.reduceLT, Int.reduceToNat, flow_Skip_s2, flow_Skip_s4, flow_Skip_t5, flow_Skip_t3, flow_Skip_s1, flow_Skip_s7, flow_Skip_s8, flow_Skip_t6])
          · replace H := bif_f h14 H
            refine Sm.exit ?_
            try simp only [↓reduceIte, reduceCtorEq, Exit.exit.injEq]
            refine ⟨⟨_, (Option.some.inj H).symm⟩, fun hz => ?_⟩
            have hyy := Sum.inr.inj ((Option.some.inj H).trans hz)
            subst hyy
            have H := Ho11
            try dsimp only at H
            try simp only [↓reduceIte, reduceCtorEq, Exit.exit.injEq]
            refine ⟨(), H, ?_⟩
            exact weak_b [] rfl rfl (by simp only [wk, ev, ew, tys, tl, ↓reduceIte, reduceCtorEq, Nat.reduceAdd, Nat.reduceMul, Nat.reduceSub, Nat.reduceEqDiff, Nat.reduceLeDiff, Nat.reduceLT, Int.reduceToNat, flow_Skip_s2, flow_Skip_s4, flow_Skip_t5, flow_Skip_t3, flow_Skip_s1, flow_Skip_s7, flow_Skip_s8, flow_Skip_t6]) (by simp only [wk, ev, ew, tys, tl, ↓reduceIte, reduceCtorEq, Nat.reduceAdd, Nat.reduceMul, Nat.reduceSub, Nat.reduceEqDiff, Nat.reduceLeDiff, Nat.reduceLT, Int.reduceToNat, flow_Skip_s2, flow_Skip_s4, flow_Skip_t5, flow_Skip_t3, flow_Skip_s1, flow_Skip_s7, flow_Skip_s8, flow_Skip_t6])
      · rintro ⟨⟩ H
        try dsimp only at H
        unfold flow_Skip_k2 at H
        refine Sm.seqK fun K9 hK9 => ?_
        refine Sm.regA (Γ := [xflow_Test n, xflow_Stop n]) h00 mixed hΓ (by kernel_rfl) ?_
        simp only [rs]
        repeat (refine opsG fun K hK => ?_; simp (maxSteps := 2000000) only [ev, ew, tys, tl, ↓reduceIte, reduceCtorEq, Nat.reduceAdd, Nat.reduceMul, Nat.reduceSub, Nat.reduceEqDiff, Nat.reduceLeDiff, Nat.reduceLT, Int.reduceToNat, xflow_Test, xflow_Stop, flow_Skip_s2, flow_Skip_s4, flow_Skip_t5, flow_Skip_t3, flow_Skip_s1, flow_Skip_s7, flow_Skip_s8, flow_Skip_t6, Option.isSome_some, Option.getD_some]; (repeat (first | refine ⟨by first | with_reducible assumption | omega | (intro hh; (repeat refine ⟨hh, ?_⟩); revert hh; with_reducible assumption), ?_⟩ | refine fun (_ : _ ≤ _) => ?_)); refine hK _ ?_; clear hK K)
        refine opsG0 ?_
        refine hK9 _ ?_
        refine Sm.ret ?_
        try simp only [↓reduceIte, reduceCtorEq, Exit.exit.injEq]
        obtain rfl := Option.some.inj H
        refine Ret.ofR [] (.inr rfl) ?_
        simp (maxSteps := 2000000) only [ev, ew, tys, tl, ↓reduceIte, reduceCtorEq, Nat.reduceAdd, Nat.reduceMul, Nat.reduceSub, Nat.reduceEqDiff, Nat.reduceLeDiff, Nat.reduceLT, Int.reduceToNat, xflow_Test, xflow_Stop, flow_Skip_s2, flow_Skip_s4, flow_Skip_t5, flow_Skip_t3, flow_Skip_s1, flow_Skip_s7, flow_Skip_s8, flow_Skip_t6, Option.isSome_some, Option.getD_some]
        done

def flow_named (n : Nat) (d : TDD) : Option Bool :=
  some (if (if (if (d.Dsn != []) = true then (!d.Dummy) else false) = true then (d.Sysout == []) else false) = true then (!d.HasData) else false)

def xflow_named (n : Nat) : Go.AE.Fn := mkFn (A := TDD) (R := Bool) 25 [(true, [.str, .str, .str, .int .i64, .bool, .int .i64, .int .i64, .int .i64, .int .i64, .str, .int .i64, .int .i64, .int .i64, .int .i64, .int .i64, .bool, .bool, .int .i64, .int .i64, .int .i64, .int .i64, .str, .slice 9, .bool, .bool])] false (fun xs => (⟨(cg (xs.getD 0 []) 0).toStr, (cg (xs.getD 0 []) 1).toStr, (cg (xs.getD 0 []) 2).toStr, (cg (xs.getD 0 []) 3).toInt, (cg (xs.getD 0 []) 4).toBool, (cg (xs.getD 0 []) 5).toInt, (cg (xs.getD 0 []) 6).toInt, (cg (xs.getD 0 []) 7).toInt, (cg (xs.getD 0 []) 8).toInt, (cg (xs.getD 0 []) 9).toStr, (cg (xs.getD 0 []) 10).toInt, (cg (xs.getD 0 []) 11).toInt, (cg (xs.getD 0 []) 12).toInt, (⟨(cg (xs.getD 0 []) 13).toInt, (cg (xs.getD 0 []) 14).toInt, (cg (xs.getD 0 []) 15).toBool, (cg (xs.getD 0 []) 16).toBool, (cg (xs.getD 0 []) 17).toInt, (cg (xs.getD 0 []) 18).toInt, (cg (xs.getD 0 []) 19).toInt, (cg (xs.getD 0 []) 20).toInt⟩ : TDcb), (cg (xs.getD 0 []) 21).toStr, ((cg (xs.getD 0 []) 22).toSl.map d_Str), (cg (xs.getD 0 []) 23).toBool, (cg (xs.getD 0 []) 24).toBool⟩ : TDD)) (fun a => [[.str a.Name, .str a.Dsn, .str a.Member, .int a.Gen, .bool a.HasGen, .int a.Disp, .int a.Normal, .int a.Abend, .int a.Unit, .str a.Vol, .int a.Tracks, .int a.More, .int a.File, .int a.Dcb.Org, .int a.Dcb.Format, .bool a.Dcb.Blocked, .bool a.Dcb.Asa, .int a.Dcb.Lrecl, .int a.Dcb.Blksize, .int a.Dcb.KeyLen, .int a.Dcb.KeyPos, .str a.Sysout, .slice (List.map e_Str a.Instream), .bool a.HasData, .bool a.Dummy]]) (fun a => flow_named n a) (fun r => [.c .bool (.bool r)]) (fun r => [])

theorem cflow_named (n : Nat) : Contract Try.prog (xflow_named n) := by
  have hΓ : ∀ g, g ∈ ([] : List Go.AE.Fn) → Contract Try.prog g := by simp
  refine contract_f (Try.f25.body.getD .skip) h00 Try.func25 rfl (by intro args w; exact Try.call25 args w) (by decide) (by intro _ r; exact ⟨rfl, by simp⟩) ?_
  rintro d r H
  try dsimp only at H
  unfold flow_named at H
  simp only [Try.f25, Option.getD]
  refine Sm.seqK fun K1 hK1 => ?_
  refine Sm.regA (Γ := []) h00 mixed hΓ (by kernel_rfl) ?_
  simp only [rs]
  repeat (refine opsG fun K hK => ?_; simp (maxSteps := 2000000) only [ev, ew, tys, tl, ↓reduceIte, reduceCtorEq, Nat.reduceAdd, Nat.reduceMul, Nat.reduceSub, Nat.reduceEqDiff, Nat.reduceLeDiff, Nat.reduceLT, Int.reduceToNat, Option.isSome_some, Option.getD_some]; (repeat (first | refine ⟨by first | with_reducible assumption | omega | (intro hh; (repeat refine ⟨hh, ?_⟩); revert hh; with_reducible assumption), ?_⟩ | refine fun (_ : _ ≤ _) => ?_)); refine hK _ ?_; clear hK K)
  refine opsG0 ?_
  refine hK1 _ ?_
  refine Sm.seqK fun K2 hK2 => ?_
  refine Sm.regA (Γ := []) h00 mixed hΓ (by kernel_rfl) ?_
  simp only [rs]
  repeat (refine opsG fun K hK => ?_; simp (maxSteps := 2000000) only [ev, ew, tys, tl, ↓reduceIte, reduceCtorEq, Nat.reduceAdd, Nat.reduceMul, Nat.reduceSub, Nat.reduceEqDiff, Nat.reduceLeDiff, Nat.reduceLT, Int.reduceToNat, Option.isSome_some, Option.getD_some]; (repeat (first | refine ⟨by first | with_reducible assumption | omega | (intro hh; (repeat refine ⟨hh, ?_⟩); revert hh; with_reducible assumption), ?_⟩ | refine fun (_ : _ ≤ _) => ?_)); refine hK _ ?_; clear hK K)
  refine opsG0 ?_
  refine hK2 _ ?_
  refine Sm.ret ?_
  try simp only [↓reduceIte, reduceCtorEq, Exit.exit.injEq]
  obtain rfl := Option.some.inj H
  refine Ret.ofR [] (.inr rfl) ?_
  simp (maxSteps := 2000000) only [ev, ew, tys, tl, ↓reduceIte, reduceCtorEq, Nat.reduceAdd, Nat.reduceMul, Nat.reduceSub, Nat.reduceEqDiff, Nat.reduceLeDiff, Nat.reduceLT, Int.reduceToNat, Option.isSome_some, Option.getD_some]
  done

abbrev flow_Default_s4 (d : TDD) (d_1 : Int) (d_2 : Int) (d_3 : Int) : S := stB [(1, .box 9006 0), (2, .box 9007 0)] [(9006, .box [.c .str (.str d.Name), .c .str (.str d.Dsn), .c .str (.str d.Member), .c (.int .i64) (.int d.Gen), .c .bool (.bool d.HasGen), .c (.int .i64) (.int d_1), .c (.int .i64) (.int d_2), .c (.int .i64) (.int d_3), .c (.int .i64) (.int d.Unit), .c .str (.str d.Vol), .c (.int .i64) (.int d.Tracks), .c (.int .i64) (.int d.More), .c (.int .i64) (.int d.File), .c (.int .i64) (.int d.Dcb.Org), .c (.int .i64) (.int d.Dcb.Format), .c .bool (.bool d.Dcb.Blocked), .c .bool (.bool d.Dcb.Asa), .c (.int .i64) (.int d.Dcb.Lrecl), .c (.int .i64) (.int d.Dcb.Blksize), .c (.int .i64) (.int d.Dcb.KeyLen), .c (.int .i64) (.int d.Dcb.KeyPos), .c .str (.str d.Sysout), .c (.slice 9) (.slice (List.map e_Str d.Instream)), .c .bool (.bool d.HasData), .c .bool (.bool d.Dummy)]), (9007, .box [.c .str (.str []), .c .str (.str []), .c .str (.str []), .c (.int .i64) (.int 0), .c .bool (.bool false), .c (.int .i64) (.int 0), .c (.int .i64) (.int 0), .c (.int .i64) (.int 0), .c (.int .i64) (.int 0), .c .str (.str []), .c (.int .i64) (.int 0), .c (.int .i64) (.int 0), .c (.int .i64) (.int 0), .c (.int .i64) (.int 0), .c (.int .i64) (.int 0), .c .bool (.bool false), .c .bool (.bool false), .c (.int .i64) (.int 0), .c (.int .i64) (.int 0), .c (.int .i64) (.int 0), .c (.int .i64) (.int 0), .c .str (.str []), .nilsl, .c .bool (.bool false), .c .bool (.bool false)])]

def flow_Default_k4 (n : Nat) (d : TDD) (d_1 : Int) (d_2 : Int) (d_3 : Int) : Option TDD :=
  gd (d.Instream.length ≤ 2147483648) <|
  some (⟨d.Name, d.Dsn, d.Member, d.Gen, d.HasGen, d_1, d_2, d_3, d.Unit, d.Vol, d.Tracks, d.More, d.File, d.Dcb, d.Sysout, d.Instream, d.HasData, d.Dummy⟩ : TDD)

abbrev flow_Default_s3 (d : TDD) (d_1 : Int) (d_2 : Int) (end_ : Int) : S := stB [(1, .box 9004 0), (2, .box 9005 0), (3, .c (.int .i64) (.int end_))] [(9004, .box [.c .str (.str d.Name), .c .str (.str d.Dsn), .c .str (.str d.Member), .c (.int .i64) (.int d.Gen), .c .bool (.bool d.HasGen), .c (.int .i64) (.int d_1), .c (.int .i64) (.int d_2), .c (.int .i64) (.int d.Abend), .c (.int .i64) (.int d.Unit), .c .str (.str d.Vol), .c (.int .i64) (.int d.Tracks), .c (.int .i64) (.int d.More), .c (.int .i64) (.int d.File), .c (.int .i64) (.int d.Dcb.Org), .c (.int .i64) (.int d.Dcb.Format), .c .bool (.bool d.Dcb.Blocked), .c .bool (.bool d.Dcb.Asa), .c (.int .i64) (.int d.Dcb.Lrecl), .c (.int .i64) (.int d.Dcb.Blksize), .c (.int .i64) (.int d.Dcb.KeyLen), .c (.int .i64) (.int d.Dcb.KeyPos), .c .str (.str d.Sysout), .c (.slice 9) (.slice (List.map e_Str d.Instream)), .c .bool (.bool d.HasData), .c .bool (.bool d.Dummy)]), (9005, .box [.c .str (.str []), .c .str (.str []), .c .str (.str []), .c (.int .i64) (.int 0), .c .bool (.bool false), .c (.int .i64) (.int 0), .c (.int .i64) (.int 0), .c (.int .i64) (.int 0), .c (.int .i64) (.int 0), .c .str (.str []), .c (.int .i64) (.int 0), .c (.int .i64) (.int 0), .c (.int .i64) (.int 0), .c (.int .i64) (.int 0), .c (.int .i64) (.int 0), .c .bool (.bool false), .c .bool (.bool false), .c (.int .i64) (.int 0), .c (.int .i64) (.int 0), .c (.int .i64) (.int 0), .c (.int .i64) (.int 0), .c .str (.str []), .nilsl, .c .bool (.bool false), .c .bool (.bool false)])]

def flow_Default_k3 (n : Nat) (d : TDD) (d_1 : Int) (d_2 : Int) (end_ : Int) : Option TDD :=
  bif (d.Abend == 0) then
    bif (d_2 == 5) then
      flow_Default_k4 n d d_1 d_2 end_
    else
      flow_Default_k4 n d d_1 d_2 d_2
  else
    flow_Default_k4 n d d_1 d_2 d.Abend

abbrev flow_Default_s2 (d : TDD) (d_1 : Int) (end_ : Int) : S := stB [(1, .box 9002 0), (2, .box 9003 0), (3, .c (.int .i64) (.int end_))] [(9002, .box [.c .str (.str d.Name), .c .str (.str d.Dsn), .c .str (.str d.Member), .c (.int .i64) (.int d.Gen), .c .bool (.bool d.HasGen), .c (.int .i64) (.int d_1), .c (.int .i64) (.int d.Normal), .c (.int .i64) (.int d.Abend), .c (.int .i64) (.int d.Unit), .c .str (.str d.Vol), .c (.int .i64) (.int d.Tracks), .c (.int .i64) (.int d.More), .c (.int .i64) (.int d.File), .c (.int .i64) (.int d.Dcb.Org), .c (.int .i64) (.int d.Dcb.Format), .c .bool (.bool d.Dcb.Blocked), .c .bool (.bool d.Dcb.Asa), .c (.int .i64) (.int d.Dcb.Lrecl), .c (.int .i64) (.int d.Dcb.Blksize), .c (.int .i64) (.int d.Dcb.KeyLen), .c (.int .i64) (.int d.Dcb.KeyPos), .c .str (.str d.Sysout), .c (.slice 9) (.slice (List.map e_Str d.Instream)), .c .bool (.bool d.HasData), .c .bool (.bool d.Dummy)]), (9003, .box [.c .str (.str []), .c .str (.str []), .c .str (.str []), .c (.int .i64) (.int 0), .c .bool (.bool false), .c (.int .i64) (.int 0), .c (.int .i64) (.int 0), .c (.int .i64) (.int 0), .c (.int .i64) (.int 0), .c .str (.str []), .c (.int .i64) (.int 0), .c (.int .i64) (.int 0), .c (.int .i64) (.int 0), .c (.int .i64) (.int 0), .c (.int .i64) (.int 0), .c .bool (.bool false), .c .bool (.bool false), .c (.int .i64) (.int 0), .c (.int .i64) (.int 0), .c (.int .i64) (.int 0), .c (.int .i64) (.int 0), .c .str (.str []), .nilsl, .c .bool (.bool false), .c .bool (.bool false)])]

def flow_Default_k2 (n : Nat) (d : TDD) (d_1 : Int) (end_ : Int) : Option TDD :=
  bif (d.Normal == 0) then
    flow_Default_k3 n d d_1 end_ end_
  else
    flow_Default_k3 n d d_1 d.Normal end_

abbrev flow_Default_s1 (d : TDD) (d_1 : Int) : S := stB [(1, .box 9000 0), (2, .box 9001 0)] [(9000, .box [.c .str (.str d.Name), .c .str (.str d.Dsn), .c .str (.str d.Member), .c (.int .i64) (.int d.Gen), .c .bool (.bool d.HasGen), .c (.int .i64) (.int d_1), .c (.int .i64) (.int d.Normal), .c (.int .i64) (.int d.Abend), .c (.int .i64) (.int d.Unit), .c .str (.str d.Vol), .c (.int .i64) (.int d.Tracks), .c (.int .i64) (.int d.More), .c (.int .i64) (.int d.File), .c (.int .i64) (.int d.Dcb.Org), .c (.int .i64) (.int d.Dcb.Format), .c .bool (.bool d.Dcb.Blocked), .c .bool (.bool d.Dcb.Asa), .c (.int .i64) (.int d.Dcb.Lrecl), .c (.int .i64) (.int d.Dcb.Blksize), .c (.int .i64) (.int d.Dcb.KeyLen), .c (.int .i64) (.int d.Dcb.KeyPos), .c .str (.str d.Sysout), .c (.slice 9) (.slice (List.map e_Str d.Instream)), .c .bool (.bool d.HasData), .c .bool (.bool d.Dummy)]), (9001, .box [.c .str (.str []), .c .str (.str []), .c .str (.str []), .c (.int .i64) (.int 0), .c .bool (.bool false), .c (.int .i64) (.int 0), .c (.int .i64) (.int 0), .c (.int .i64) (.int 0), .c (.int .i64) (.int 0), .c .str (.str []), .c (.int .i64) (.int 0), .c (.int .i64) (.int 0), .c (.int .i64) (.int 0), .c (.int .i64) (.int 0), .c (.int .i64) (.int 0), .c .bool (.bool false), .c .bool (.bool false), .c (.int .i64) (.int 0), .c (.int .i64) (.int 0), .c (.int .i64) (.int 0), .c (.int .i64) (.int 0), .c .str (.str []), .nilsl, .c .bool (.bool false), .c .bool (.bool false)])]

def flow_Default_k1 (n : Nat) (d : TDD) (d_1 : Int) : Option TDD :=
  bif (d_1 == 1) then
    flow_Default_k2 n d d_1 2
  else
    flow_Default_k2 n d d_1 1

def flow_Default (n : Nat) (d : TDD) : Option TDD :=
  bif (d.Disp == 0) then
    flow_Default_k1 n d 1
  else
    flow_Default_k1 n d d.Disp

def xflow_Default (n : Nat) : Go.AE.Fn := mkFn (A := TDD) (R := TDD) 18 [(true, [.str, .str, .str, .int .i64, .bool, .int .i64, .int .i64, .int .i64, .int .i64, .str, .int .i64, .int .i64, .int .i64, .int .i64, .int .i64, .bool, .bool, .int .i64, .int .i64, .int .i64, .int .i64, .str, .slice 9, .bool, .bool])] false (fun xs => (⟨(cg (xs.getD 0 []) 0).toStr, (cg (xs.getD 0 []) 1).toStr, (cg (xs.getD 0 []) 2).toStr, (cg (xs.getD 0 []) 3).toInt, (cg (xs.getD 0 []) 4).toBool, (cg (xs.getD 0 []) 5).toInt, (cg (xs.getD 0 []) 6).toInt, (cg (xs.getD 0 []) 7).toInt, (cg (xs.getD 0 []) 8).toInt, (cg (xs.getD 0 []) 9).toStr, (cg (xs.getD 0 []) 10).toInt, (cg (xs.getD 0 []) 11).toInt, (cg (xs.getD 0 []) 12).toInt, (⟨(cg (xs.getD 0 []) 13).toInt, (cg (xs.getD 0 []) 14).toInt, (cg (xs.getD 0 []) 15).toBool, (cg (xs.getD 0 []) 16).toBool, (cg (xs.getD 0 []) 17).toInt, (cg (xs.getD 0 []) 18).toInt, (cg (xs.getD 0 []) 19).toInt, (cg (xs.getD 0 []) 20).toInt⟩ : TDcb), (cg (xs.getD 0 []) 21).toStr, ((cg (xs.getD 0 []) 22).toSl.map d_Str), (cg (xs.getD 0 []) 23).toBool, (cg (xs.getD 0 []) 24).toBool⟩ : TDD)) (fun a => [[.str a.Name, .str a.Dsn, .str a.Member, .int a.Gen, .bool a.HasGen, .int a.Disp, .int a.Normal, .int a.Abend, .int a.Unit, .str a.Vol, .int a.Tracks, .int a.More, .int a.File, .int a.Dcb.Org, .int a.Dcb.Format, .bool a.Dcb.Blocked, .bool a.Dcb.Asa, .int a.Dcb.Lrecl, .int a.Dcb.Blksize, .int a.Dcb.KeyLen, .int a.Dcb.KeyPos, .str a.Sysout, .slice (List.map e_Str a.Instream), .bool a.HasData, .bool a.Dummy]]) (fun a => flow_Default n a) (fun r => [.agg [.c .str (.str r.Name), .c .str (.str r.Dsn), .c .str (.str r.Member), .c (.int .i64) (.int r.Gen), .c .bool (.bool r.HasGen), .c (.int .i64) (.int r.Disp), .c (.int .i64) (.int r.Normal), .c (.int .i64) (.int r.Abend), .c (.int .i64) (.int r.Unit), .c .str (.str r.Vol), .c (.int .i64) (.int r.Tracks), .c (.int .i64) (.int r.More), .c (.int .i64) (.int r.File), .c (.int .i64) (.int r.Dcb.Org), .c (.int .i64) (.int r.Dcb.Format), .c .bool (.bool r.Dcb.Blocked), .c .bool (.bool r.Dcb.Asa), .c (.int .i64) (.int r.Dcb.Lrecl), .c (.int .i64) (.int r.Dcb.Blksize), .c (.int .i64) (.int r.Dcb.KeyLen), .c (.int .i64) (.int r.Dcb.KeyPos), .c .str (.str r.Sysout), .own 0 [.str] 0 r.Instream.length, .c .bool (.bool r.HasData), .c .bool (.bool r.Dummy)]]) (fun r => [.row 9 (List.map e_Str r.Instream)])

theorem cflow_Default (n : Nat) : Contract Try.prog (xflow_Default n) := by
  have hΓ : ∀ g, g ∈ ([] : List Go.AE.Fn) → Contract Try.prog g := by simp
  refine contract_f (Try.f18.body.getD .skip) h00 Try.func18 rfl (by intro args w; exact Try.call18 args w) (by decide) (by
    intro _ r; refine ⟨rfl, ?_⟩; simp only [List.mem_cons, List.not_mem_nil, or_false]; rintro _ rfl
    · exact ⟨9, _, _, rfl, ty9, rfl⟩) ?_
  rintro d r H
  try dsimp only at H
  unfold flow_Default at H
  simp only [Try.f18, Option.getD]
  refine Sm.seqK fun K1 hK1 => ?_
  refine Sm.regA (Γ := []) h00 mixed hΓ (by kernel_rfl) ?_
  simp only [rs]
  repeat (refine opsG fun K hK => ?_; simp (maxSteps := 2000000) only [ev, ew, tys, tl, ↓reduceIte, reduceCtorEq, Nat.reduceAdd, Nat.reduceMul, Nat.reduceSub, Nat.reduceEqDiff, Nat.reduceLeDiff, Nat.reduceLT, Int.reduceToNat, flow_Default_s4, flow_Default_s3, flow_Default_s2, flow_Default_s1, Option.isSome_some, Option.getD_some]; (repeat (first | refine ⟨by first | with_reducible assumption | omega | (intro hh; (repeat refine ⟨hh, ?_⟩); revert hh; with_reducible assumption), ?_⟩ | refine fun (_ : _ ≤ _) => ?_)); refine hK _ ?_; clear hK K)
  refine opsG0 ?_
  refine hK1 _ ?_
  refine Sm.cut (fun (x : Int) => flow_Default_s1 d x) (fun x => flow_Default_k1 n d x = some r) ?_ ?_
  · refine Sm.seqK fun K15 hK15 => ?_
    refine Sm.regA (Γ := []) h00 mixed hΓ (by kernel_rfl) ?_
    simp only [rs]
    repeat (refine opsG fun K hK => ?_; simp (maxSteps := 2000000) only [ev, ew, tys, tl, ↓reduceIte, reduceCtorEq, Nat.reduceAdd, Nat.reduceMul, Nat.reduceSub, Nat.reduceEqDiff, Nat.reduceLeDiff, Nat.reduceLT, Int.reduceToNat, flow_Default_s4, flow_Default_s3, flow_Default_s2, flow_Default_s1, Option.isSome_some, Option.getD_some]; (repeat (first | refine ⟨by first | with_reducible assumption | omega | (intro hh; (repeat refine ⟨hh, ?_⟩); revert hh; with_reducible assumption), ?_⟩ | refine fun (_ : _ ≤ _) => ?_)); refine hK _ ?_; clear hK K)
    refine opsG0 ?_
    refine hK15 _ ?_
    refine Sm.condK (by rfl) fun Ka Kb ha hb => ?_
    simp only [wpCond, ev, ew, tys, tl, ↓reduceIte, reduceCtorEq, Nat.reduceAdd, Nat.reduceMul, Nat.reduceSub, Nat.reduceEqDiff, Nat.reduceLeDiff, Nat.reduceLT, Int.reduceToNat, flow_Default_s4, flow_Default_s3, flow_Default_s2, flow_Default_s1, Option.isSome_some, Option.getD_some]
    refine ⟨fun h16 => ha ?_, fun h16 => hb ?_⟩
    · replace H := bif_t h16 H
      refine Sm.regA (Γ := []) h00 mixed hΓ (by kernel_rfl) ?_
      simp only [rs]
      repeat (refine opsG fun K hK => ?_; simp (maxSteps := 2000000) only [ev, ew, tys, tl, ↓reduceIte, reduceCtorEq, Nat.reduceAdd, Nat.reduceMul, Nat.reduceSub, Nat.reduceEqDiff, Nat.reduceLeDiff, Nat.reduceLT, Int.reduceToNat, flow_Default_s4, flow_Default_s3, flow_Default_s2, flow_Default_s1, Option.isSome_some, Option.getD_some]; (repeat (first | refine ⟨by first | with_reducible assumption | omega | (intro hh; (repeat refine ⟨hh, ?_⟩); revert hh; with_reducible assumption), ?_⟩ | refine fun (_ : _ ≤ _) => ?_)); refine hK _ ?_; clear hK K)
      refine opsG0 ?_
      try simp only [↓reduceIte, reduceCtorEq, Exit.exit.injEq]
      refine ⟨_, H, ?_⟩
      exact weak_b [some 16, some 32] rfl rfl (by simp only [wk, ev, ew, tys, tl, ↓reduceIte, reduceCtorEq, Nat.reduceAdd, Nat.reduceMul, Nat.reduceSub, Nat.reduceEqDiff, Nat.reduceLeDiff, Nat.reduceLT, Int.reduceToNat, flow_Default_s4, flow_Default_s3, flow_Default_s2, flow_Default_s1]) (by simp only [wk, ev, ew, tys, tl, ↓reduceIte, reduceCtorEq, Nat.reduceAdd, Nat.reduceMul, Nat.reduceSub, Nat.reduceEqDiff, Nat.reduceLeDiff, Nat.reduceLT, Int.reduceToNat, flow_Default_s4, flow_Default_s3, flow_Default_s2, flow_Default_s1])
    · replace H := bif_f h16 H
      refine Sm.skip ?_
      try simp only [↓reduceIte, reduceCtorEq, Exit.exit.injEq]
      refine ⟨_, H, ?_⟩
      exact weak_b [some 16, some 32] rfl rfl (by simp only [wk, ev, ew, tys, tl, ↓reduceIte, reduceCtorEq, Nat.reduceAdd, Nat.reduceMul, Nat.reduceSub, Nat.reduceEqDiff, Nat.reduceLeDiff, Nat.reduceLT, Int.reduceToNat, flow_Default_s4, flow_Default_s3, flow_Default_s2, flow_Default_s1]) (by simp only [wk, ev, ew, tys, tl, ↓reduceIte, reduceCtorEq, Nat.reduceAdd, Nat.reduceMul, Nat.reduceSub, Nat.reduceEqDiff, Nat.reduceLeDiff, Nat.reduceLT, Int.reduceToNat, flow_Default_s4, flow_Default_s3, flow_Default_s2, flow_Default_s1])
  · rintro d_1 H
    try dsimp only at H
    unfold flow_Default_k1 at H
    refine Sm.seqK fun K2 hK2 => ?_
    refine Sm.regA (Γ := []) h00 mixed hΓ (by kernel_rfl) ?_
    simp only [rs]
    repeat (refine opsG fun K hK => ?_; simp (maxSteps := 2000000) only [ev, ew, tys, tl, ↓reduceIte, reduceCtorEq, Nat.reduceAdd, Nat.reduceMul, Nat.reduceSub, Nat.reduceEqDiff, Nat.reduceLeDiff, Nat.reduceLT, Int.reduceToNat, flow_Default_s4, flow_Default_s3, flow_Default_s2, flow_Default_s1, Option.isSome_some, Option.getD_some]; (repeat (first | refine ⟨by first | with_reducible assumption | omega | (intro hh; (repeat refine ⟨hh, ?_⟩); revert hh; with_reducible assumption), ?_⟩ | refine fun (_ : _ ≤ _) => ?_)); refine hK _ ?_; clear hK K)
    refine opsG0 ?_
    refine hK2 _ ?_
    refine Sm.cut (fun (x : Int) => flow_Default_s2 d d_1 x) (fun x => flow_Default_k2 n d d_1 x = some r) ?_ ?_
    · refine Sm.seqK fun K13 hK13 => ?_
      refine Sm.regA (Γ := []) h00 mixed hΓ (by kernel_rfl) ?_
      simp only [rs]
      repeat (refine opsG fun K hK => ?_; simp (maxSteps := 2000000) only [ev, ew, tys, tl, ↓reduceIte, reduceCtorEq, Nat.reduceAdd, Nat.reduceMul, Nat.reduceSub, Nat.reduceEqDiff, Nat.reduceLeDiff, Nat.reduceLT, Int.reduceToNat, flow_Default_s4, flow_Default_s3, flow_Default_s2, flow_Default_s1, Option.isSome_some, Option.getD_some]; (repeat (first | refine ⟨by first | with_reducible assumption | omega | (intro hh; (repeat refine ⟨hh, ?_⟩); revert hh; with_reducible assumption), ?_⟩ | refine fun (_ : _ ≤ _) => ?_)); refine hK _ ?_; clear hK K)
      refine opsG0 ?_
      refine hK13 _ ?_
      refine Sm.condK (by rfl) fun Ka Kb ha hb => ?_
      simp only [wpCond, ev, ew, tys, tl, ↓reduceIte, reduceCtorEq, Nat.reduceAdd, Nat.reduceMul, Nat.reduceSub, Nat.reduceEqDiff, Nat.reduceLeDiff, Nat.reduceLT, Int.reduceToNat, flow_Default_s4, flow_Default_s3, flow_Default_s2, flow_Default_s1, Option.isSome_some, Option.getD_some]
      refine ⟨fun h14 => ha ?_, fun h14 => hb ?_⟩
      · replace H := bif_t h14 H
        refine Sm.regA (Γ := []) h00 mixed hΓ (by kernel_rfl) ?_
        simp only [rs]
        repeat (refine opsG fun K hK => ?_; simp (maxSteps := 2000000) only [ev, ew, tys, tl, ↓reduceIte, reduceCtorEq, Nat.reduceAdd, Nat.reduceMul, Nat.reduceSub, Nat.reduceEqDiff, Nat.reduceLeDiff, Nat.reduceLT, Int.reduceToNat, flow_Default_s4, flow_Default_s3, flow_Default_s2, flow_Default_s1, Option.isSome_some, Option.getD_some]; (repeat (first | refine ⟨by first | with_reducible assumption | omega | (intro hh; (repeat refine ⟨hh, ?_⟩); revert hh; with_reducible assumption), ?_⟩ | refine fun (_ : _ ≤ _) => ?_)); refine hK _ ?_; clear hK K)
        refine opsG0 ?_
        try simp only [↓reduceIte, reduceCtorEq, Exit.exit.injEq]
        refine ⟨_, H, ?_⟩
        exact weak_b [some 9000, some 9001] rfl rfl (by simp only [wk, ev, ew, tys, tl, ↓reduceIte, reduceCtorEq, Nat.reduceAdd, Nat.reduceMul, Nat.reduceSub, Nat.reduceEqDiff, Nat.reduceLeDiff, Nat.reduceLT, Int.reduceToNat, flow_Default_s4, flow_Default_s3, flow_Default_s2, flow_Default_s1]) (by simp only [wk, ev, ew, tys, tl, ↓reduceIte, reduceCtorEq, Nat.reduceAdd, Nat.reduceMul, Nat.reduceSub, Nat.reduceEqDiff, Nat.reduceLeDiff, Nat.reduceLT, Int.reduceToNat, flow_Default_s4, flow_Default_s3, flow_Default_s2, flow_Default_s1])
      · replace H := bif_f h14 H
        refine Sm.skip ?_
        try simp only [↓reduceIte, reduceCtorEq, Exit.exit.injEq]
        refine ⟨_, H, ?_⟩
        exact weak_b [some 9000, some 9001] rfl rfl (by simp only [wk, ev, ew, tys, tl, ↓reduceIte, reduceCtorEq, Nat.reduceAdd, Nat.reduceMul, Nat.reduceSub, Nat.reduceEqDiff, Nat.reduceLeDiff, Nat.reduceLT, Int.reduceToNat, flow_Default_s4, flow_Default_s3, flow_Default_s2, flow_Default_s1]) (by simp only [wk, ev, ew, tys, tl, ↓reduceIte, reduceCtorEq, Nat.reduceAdd, Nat.reduceMul, Nat.reduceSub, Nat.reduceEqDiff, Nat.reduceLeDiff, Nat.reduceLT, Int.reduceToNat, flow_Default_s4, flow_Default_s3, flow_Default_s2, flow_Default_s1])
    · rintro end_ H
      try dsimp only at H
      unfold flow_Default_k2 at H
      refine Sm.cut (fun (x : Int) => flow_Default_s3 d d_1 x end_) (fun x => flow_Default_k3 n d d_1 x end_ = some r) ?_ ?_
      · refine Sm.seqK fun K11 hK11 => ?_
        refine Sm.regA (Γ := []) h00 mixed hΓ (by kernel_rfl) ?_
        simp only [rs]
        repeat (refine opsG fun K hK => ?_; simp (maxSteps := 2000000) only [ev, ew, tys, tl, ↓reduceIte, reduceCtorEq, Nat.reduceAdd, Nat.reduceMul, Nat.reduceSub, Nat.reduceEqDiff, Nat.reduceLeDiff, Nat.reduceLT, Int.reduceToNat, flow_Default_s4, flow_Default_s3, flow_Default_s2, flow_Default_s1, Option.isSome_some, Option.getD_some]; (repeat (first | refine ⟨by first | with_reducible assumption | omega | (intro hh; (repeat refine ⟨hh, ?_⟩); revert hh; with_reducible assumption), ?_⟩ | refine fun (_ : _ ≤ _) => ?_)); refine hK _ ?_; clear hK K)
        refine opsG0 ?_
        refine hK11 _ ?_
        refine Sm.condK (by rfl) fun Ka Kb ha hb => ?_
        simp only [wpCond, ev, ew, tys, tl, ↓reduceIte, reduceCtorEq, Nat.reduceAdd, Nat.reduceMul, Nat.reduceSub, Nat.reduceEqDiff, Nat.reduceLeDiff, Nat.reduceLT, Int.reduceToNat, flow_Default_s4, flow_Default_s3, flow_Default_s2, flow_Default_s1, Option.isSome_some, Option.getD_some]
        refine ⟨fun h12 => ha ?_, fun h12 => hb ?_⟩
        · replace H := bif_t h12 H
          refine Sm.regA (Γ := []) h00 mixed hΓ (by kernel_rfl) ?_
          simp only [rs]
          repeat (refine opsG fun K hK => ?_; simp (maxSteps := 2000000) only [ev, ew, tys, tl, ↓reduceIte, reduceCtorEq, Nat.reduceAdd, Nat.reduceMul, Nat.reduceSub, Nat.reduceEqDiff, Nat.reduceLeDiff, Nat.reduceLT, Int.reduceToNat, flow_Default_s4, flow_Default_s3, flow_Default_s2, flow_Default_s1, Option.isSome_some, Option.getD_some]; (repeat (first | refine ⟨by first | with_reducible assumption | omega | (intro hh; (repeat refine ⟨hh, ?_⟩); revert hh; with_reducible assumption), ?_⟩ | refine fun (_ : _ ≤ _) => ?_)); refine hK _ ?_; clear hK K)
          refine opsG0 ?_
          try simp only [↓reduceIte, reduceCtorEq, Exit.exit.injEq]
          refine ⟨_, H, ?_⟩
          exact weak_b [some 9002, some 9003] rfl rfl (by simp only [wk, ev, ew, tys, tl, ↓reduceIte, reduceCtorEq, Nat.reduceAdd, Nat.reduceMul, Nat.reduceSub, Nat.reduceEqDiff, Nat.reduceLeDiff, Nat.reduceLT, Int.reduceToNat, flow_Default_s4, flow_Default_s3, flow_Default_s2, flow_Default_s1]) (by simp only [wk, ev, ew, tys, tl, ↓reduceIte, reduceCtorEq, Nat.reduceAdd, Nat.reduceMul, Nat.reduceSub, Nat.reduceEqDiff, Nat.reduceLeDiff, Nat.reduceLT, Int.reduceToNat, flow_Default_s4, flow_Default_s3, flow_Default_s2, flow_Default_s1])
        · replace H := bif_f h12 H
          refine Sm.skip ?_
          try simp only [↓reduceIte, reduceCtorEq, Exit.exit.injEq]
          refine ⟨_, H, ?_⟩
          exact weak_b [some 9002, some 9003] rfl rfl (by simp only [wk, ev, ew, tys, tl, ↓reduceIte, reduceCtorEq, Nat.reduceAdd, Nat.reduceMul, Nat.reduceSub, Nat.reduceEqDiff, Nat.reduceLeDiff, Nat.reduceLT, Int.reduceToNat, flow_Default_s4, flow_Default_s3, flow_Default_s2, flow_Default_s1]) (by simp only [wk, ev, ew, tys, tl, ↓reduceIte, reduceCtorEq, Nat.reduceAdd, Nat.reduceMul, Nat.reduceSub, Nat.reduceEqDiff, Nat.reduceLeDiff, Nat.reduceLT, Int.reduceToNat, flow_Default_s4, flow_Default_s3, flow_Default_s2, flow_Default_s1])
      · rintro d_2 H
        try dsimp only at H
        unfold flow_Default_k3 at H
        refine Sm.cut (fun (x : Int) => flow_Default_s4 d d_1 d_2 x) (fun x => flow_Default_k4 n d d_1 d_2 x = some r) ?_ ?_
        · refine Sm.seqK fun K6 hK6 => ?_
          refine Sm.regA (Γ := []) h00 mixed hΓ (by kernel_rfl) ?_
          simp only [rs]
          repeat (refine opsG fun K hK => ?_; simp (maxSteps := 2000000) only [ev, ew, tys, tl, ↓reduceIte, reduceCtorEq, Nat.reduceAdd, Nat.reduceMul, Nat.reduceSub, Nat.reduceEqDiff, Nat.reduceLeDiff, Nat.reduceLT, Int.reduceToNat, flow_Default_s4, flow_Default_s3, flow_Default_s2, flow_Default_s1, Option.isSome_some, Option.getD_some]; (repeat (first | refine ⟨by first | with_reducible assumption | omega | (intro hh; (repeat refine ⟨hh, ?_⟩); revert hh; with_reducible assumption), ?_⟩ | refine fun (_ : _ ≤ _) => ?_)); refine hK _ ?_; clear hK K)
          refine opsG0 ?_
          refine hK6 _ ?_
          refine Sm.condK (by rfl) fun Ka Kb ha hb => ?_
          simp only [wpCond, ev, ew, tys, tl, ↓reduceIte, reduceCtorEq, Nat.reduceAdd, Nat.reduceMul, Nat.reduceSub, Nat.reduceEqDiff, Nat.reduceLeDiff, Nat.reduceLT, Int.reduceToNat, flow_Default_s4, flow_Default_s3, flow_Default_s2, flow_Default_s1, Option.isSome_some, Option.getD_some]
          refine ⟨fun h7 => ha ?_, fun h7 => hb ?_⟩
          · replace H := bif_t h7 H
            refine Sm.seqK fun K8 hK8 => ?_
            refine Sm.regA (Γ := []) h00 mixed hΓ (by kernel_rfl) ?_
            simp only [rs]
            repeat (refine opsG fun K hK => ?_; simp (maxSteps := 2000000) only [ev, ew, tys, tl, ↓reduceIte, reduceCtorEq, Nat.reduceAdd, Nat.reduceMul, Nat.reduceSub, Nat.reduceEqDiff, Nat.reduceLeDiff, Nat.reduceLT, Int.reduceToNat, flow_Default_s4, flow_Default_s3, flow_Default_s2, flow_Default_s1, Option.isSome_some, Option.getD_some]; (repeat (first | refine ⟨by first | with_reducible assumption | omega | (intro hh; (repeat refine ⟨hh, ?_⟩); revert hh; with_reducible assumption), ?_⟩ | refine fun (_ : _ ≤ _) => ?_)); refine hK _ ?_; clear hK K)
            refine opsG0 ?_
            refine hK8 _ ?_
            refine Sm.seqK fun K9 hK9 => ?_
            refine Sm.regA (Γ := []) h00 mixed hΓ (by kernel_rfl) ?_
            simp only [rs]
            repeat (refine opsG fun K hK => ?_; simp (maxSteps := 2000000) only [ev, ew, tys, tl, ↓reduceIte, reduceCtorEq, Nat.reduceAdd, Nat.reduceMul, Nat.reduceSub, Nat.reduceEqDiff, Nat.reduceLeDiff, Nat.reduceLT, Int.reduceToNat, flow_Default_s4, flow_Default_s3, flow_Default_s2, flow_Default_s1, Option.isSome_some, Option.getD_some]; (repeat (first | refine ⟨by first | with_reducible assumption | omega | (intro hh; (repeat refine ⟨hh, ?_⟩); revert hh; with_reducible assumption), ?_⟩ | refine fun (_ : _ ≤ _) => ?_)); refine hK _ ?_; clear hK K)
            refine opsG0 ?_
            refine hK9 _ ?_
            refine Sm.condK (by rfl) fun Ka Kb ha hb => ?_
            simp only [wpCond, ev, ew, tys, tl, ↓reduceIte, reduceCtorEq, Nat.reduceAdd, Nat.reduceMul, Nat.reduceSub, Nat.reduceEqDiff, Nat.reduceLeDiff, Nat.reduceLT, Int.reduceToNat, flow_Default_s4, flow_Default_s3, flow_Default_s2, flow_Default_s1, Option.isSome_some, Option.getD_some]
            refine ⟨fun h10 => ha ?_, fun h10 => hb ?_⟩
            · replace H := bif_t h10 H
              refine Sm.regA (Γ := []) h00 mixed hΓ (by kernel_rfl) ?_
              simp only [rs]
              repeat (refine opsG fun K hK => ?_; simp (maxSteps := 2000000) only [ev, ew, tys, tl, ↓reduceIte, reduceCtorEq, Nat.reduceAdd, Nat.reduceMul, Nat.reduceSub, Nat.reduceEqDiff, Nat.reduceLeDiff, Nat.reduceLT, Int.reduceToNat, flow_Default_s4, flow_Default_s3, flow_Default_s2, flow_Default_s1, Option.isSome_some, Option.getD_some]; (repeat (first | refine ⟨by first | with_reducible assumption | omega | (intro hh; (repeat refine ⟨hh, ?_⟩); revert hh; with_reducible assumption), ?_⟩ | refine fun (_ : _ ≤ _) => ?_)); refine hK _ ?_; clear hK K)
              refine opsG0 ?_
              try simp only [↓reduceIte, reduceCtorEq, Exit.exit.injEq]
              refine ⟨_, H, ?_⟩
              exact weak_b [some 9004, some 9005] rfl rfl (by simp only [wk, ev, ew, tys, tl, ↓reduceIte, reduceCtorEq, Nat.reduceAdd, Nat.reduceMul, Nat.reduceSub, Nat.reduceEqDiff, Nat.reduceLeDiff, Nat.reduceLT, Int.reduceToNat, flow_Default_s4, flow_Default_s3, flow_Default_s2, flow_Default_s1]) (by simp only [wk, ev, ew, tys, tl, ↓reduceIte, reduceCtorEq, Nat.reduceAdd, Nat.reduceMul, Nat.reduceSub, Nat.reduceEqDiff, Nat.reduceLeDiff, Nat.reduceLT, Int.reduceToNat, flow_Default_s4, flow_Default_s3, flow_Default_s2, flow_Default_s1])
            · replace H := bif_f h10 H
              refine Sm.skip ?_
              try simp only [↓reduceIte, reduceCtorEq, Exit.exit.injEq]
              refine ⟨_, H, ?_⟩
              exact weak_b [some 9004, some 9005] rfl rfl (by simp only [wk, ev, ew, tys, tl, ↓reduceIte, reduceCtorEq, Nat.reduceAdd, Nat.reduceMul, Nat.reduceSub, Nat.reduceEqDiff, Nat.reduceLeDiff, Nat.reduceLT, Int.reduceToNat, flow_Default_s4, flow_Default_s3, flow_Default_s2, flow_Default_s1]) (by simp only [wk, ev, ew, tys, tl, ↓reduceIte, reduceCtorEq, Nat.reduceAdd, Nat.reduceMul, Nat.reduceSub, Nat.reduceEqDiff, Nat.reduceLeDiff, Nat.reduceLT, Int.reduceToNat, flow_Default_s4, flow_Default_s3, flow_Default_s2, flow_Default_s1])
          · replace H := bif_f h7 H
            refine Sm.skip ?_
            try simp only [↓reduceIte, reduceCtorEq, Exit.exit.injEq]
            refine ⟨_, H, ?_⟩
            exact weak_b [some 9004, some 9005] rfl rfl (by simp only [wk, ev, ew, tys, tl, ↓reduceIte, reduceCtorEq, Nat.reduceAdd, Nat.reduceMul, Nat.reduceSub, Nat.reduceEqDiff, Nat.reduceLeDiff, Nat.reduceLT, Int.reduceToNat, flow_Default_s4, flow_Default_s3, flow_Default_s2, flow_Default_s1]) (by simp only [wk, ev, ew, tys, tl, ↓reduceIte, reduceCtorEq, Nat.reduceAdd, Nat.reduceMul, Nat.reduceSub, Nat.reduceEqDiff, Nat.reduceLeDiff, Nat.reduceLT, Int.reduceToNat, flow_Default_s4, flow_Default_s3, flow_Default_s2, flow_Default_s1])
        · rintro d_3 H
          try dsimp only at H
          unfold flow_Default_k4 at H
          refine Sm.seqK fun K3 hK3 => ?_
          obtain ⟨hg5, H⟩ := gd_some H
          refine Sm.regA (Γ := []) h00 mixed hΓ (by kernel_rfl) ?_
          simp only [rs]
          repeat (refine opsG fun K hK => ?_; simp (maxSteps := 2000000) only [ev, ew, tys, tl, ↓reduceIte, reduceCtorEq, Nat.reduceAdd, Nat.reduceMul, Nat.reduceSub, Nat.reduceEqDiff, Nat.reduceLeDiff, Nat.reduceLT, Int.reduceToNat, flow_Default_s4, flow_Default_s3, flow_Default_s2, flow_Default_s1, Option.isSome_some, Option.getD_some]; (repeat (first | refine ⟨by first | with_reducible assumption | omega | (intro hh; (repeat refine ⟨hh, ?_⟩); revert hh; with_reducible assumption), ?_⟩ | refine fun (_ : _ ≤ _) => ?_)); refine hK _ ?_; clear hK K)
          refine opsG0 ?_
          refine hK3 _ ?_
          refine Sm.seqK fun K4 hK4 => ?_
          refine Sm.regA (Γ := []) h00 mixed hΓ (by kernel_rfl) ?_
          simp only [rs]
          repeat (refine opsG fun K hK => ?_; simp (maxSteps := 2000000) only [ev, ew, tys, tl, ↓reduceIte, reduceCtorEq, Nat.reduceAdd, Nat.reduceMul, Nat.reduceSub, Nat.reduceEqDiff, Nat.reduceLeDiff, Nat.reduceLT, Int.reduceToNat, flow_Default_s4, flow_Default_s3, flow_Default_s2, flow_Default_s1, Option.isSome_some, Option.getD_some]; (repeat (first | refine ⟨by first | with_reducible assumption | omega | (intro hh; (repeat refine ⟨hh, ?_⟩); revert hh; with_reducible assumption), ?_⟩ | refine fun (_ : _ ≤ _) => ?_)); refine hK _ ?_; clear hK K)
          refine opsG0 ?_
          refine hK4 _ ?_
          refine Sm.ret ?_
          try simp only [↓reduceIte, reduceCtorEq, Exit.exit.injEq]
          obtain rfl := Option.some.inj H
          refine Ret.ofR [some 464] (.inr rfl) ?_
          simp (maxSteps := 2000000) only [ev, ew, tys, tl, ↓reduceIte, reduceCtorEq, Nat.reduceAdd, Nat.reduceMul, Nat.reduceSub, Nat.reduceEqDiff, Nat.reduceLeDiff, Nat.reduceLT, Int.reduceToNat, flow_Default_s4, flow_Default_s3, flow_Default_s2, flow_Default_s1, Option.isSome_some, Option.getD_some]
          done

abbrev flow_After_s1 (d : TDD) (d_1 : Int) (end_ : TStepEnd) : S := stB [(3, .box 9000 0), (4, .box 9001 0)] [(9000, .box [.c .str (.str d.Name), .c .str (.str d.Dsn), .c .str (.str d.Member), .c (.int .i64) (.int d.Gen), .c .bool (.bool d.HasGen), .c (.int .i64) (.int d_1), .c (.int .i64) (.int d.Normal), .c (.int .i64) (.int d.Abend), .c (.int .i64) (.int d.Unit), .c .str (.str d.Vol), .c (.int .i64) (.int d.Tracks), .c (.int .i64) (.int d.More), .c (.int .i64) (.int d.File), .c (.int .i64) (.int d.Dcb.Org), .c (.int .i64) (.int d.Dcb.Format), .c .bool (.bool d.Dcb.Blocked), .c .bool (.bool d.Dcb.Asa), .c (.int .i64) (.int d.Dcb.Lrecl), .c (.int .i64) (.int d.Dcb.Blksize), .c (.int .i64) (.int d.Dcb.KeyLen), .c (.int .i64) (.int d.Dcb.KeyPos), .c .str (.str d.Sysout), .c (.slice 9) (.slice (List.map e_Str d.Instream)), .c .bool (.bool d.HasData), .c .bool (.bool d.Dummy)]), (9001, .box [.c (.int .i64) (.int end_.Kind), .c (.int .i64) (.int end_.Code), .c (.int .i64) (.int end_.Ins), .c (.int .i64) (.int end_.Ios)])]

def flow_After_k1 (n : Nat) (d : TDD) (d_1 : Int) (end_ : TStepEnd) : Option Int :=
  (flow_Default n (⟨d.Name, d.Dsn, d.Member, d.Gen, d.HasGen, d_1, d.Normal, d.Abend, d.Unit, d.Vol, d.Tracks, d.More, d.File, d.Dcb, d.Sysout, d.Instream, d.HasData, d.Dummy⟩ : TDD)).bind fun r2 =>
  bif (end_.Kind == 1) then
    some r2.Normal
  else
    bif (end_.Kind == 2) then
      some r2.Abend
    else
      some 0

def flow_After (n : Nat) (d : TDD) (end_ : TStepEnd) (created : Bool) : Option Int :=
  (flow_named n d).bind fun r1 =>
  bif (!r1) then
    some 0
  else
    bif (if (d.Disp == 4) = true then created else false) then
      flow_After_k1 n d 1 end_
    else
      flow_After_k1 n d d.Disp end_

def xflow_After (n : Nat) : Go.AE.Fn := mkFn (A := TDD × TStepEnd × Bool) (R := Int) 16 [(true, [.str, .str, .str, .int .i64, .bool, .int .i64, .int .i64, .int .i64, .int .i64, .str, .int .i64, .int .i64, .int .i64, .int .i64, .int .i64, .bool, .bool, .int .i64, .int .i64, .int .i64, .int .i64, .str, .slice 9, .bool, .bool]), (true, [.int .i64, .int .i64, .int .i64, .int .i64]), (false, [.bool])] false (fun xs => ((⟨(cg (xs.getD 0 []) 0).toStr, (cg (xs.getD 0 []) 1).toStr, (cg (xs.getD 0 []) 2).toStr, (cg (xs.getD 0 []) 3).toInt, (cg (xs.getD 0 []) 4).toBool, (cg (xs.getD 0 []) 5).toInt, (cg (xs.getD 0 []) 6).toInt, (cg (xs.getD 0 []) 7).toInt, (cg (xs.getD 0 []) 8).toInt, (cg (xs.getD 0 []) 9).toStr, (cg (xs.getD 0 []) 10).toInt, (cg (xs.getD 0 []) 11).toInt, (cg (xs.getD 0 []) 12).toInt, (⟨(cg (xs.getD 0 []) 13).toInt, (cg (xs.getD 0 []) 14).toInt, (cg (xs.getD 0 []) 15).toBool, (cg (xs.getD 0 []) 16).toBool, (cg (xs.getD 0 []) 17).toInt, (cg (xs.getD 0 []) 18).toInt, (cg (xs.getD 0 []) 19).toInt, (cg (xs.getD 0 []) 20).toInt⟩ : TDcb), (cg (xs.getD 0 []) 21).toStr, ((cg (xs.getD 0 []) 22).toSl.map d_Str), (cg (xs.getD 0 []) 23).toBool, (cg (xs.getD 0 []) 24).toBool⟩ : TDD), (⟨(cg (xs.getD 1 []) 0).toInt, (cg (xs.getD 1 []) 1).toInt, (cg (xs.getD 1 []) 2).toInt, (cg (xs.getD 1 []) 3).toInt⟩ : TStepEnd), (cg (xs.getD 2 []) 0).toBool)) (fun a => [[.str a.1.Name, .str a.1.Dsn, .str a.1.Member, .int a.1.Gen, .bool a.1.HasGen, .int a.1.Disp, .int a.1.Normal, .int a.1.Abend, .int a.1.Unit, .str a.1.Vol, .int a.1.Tracks, .int a.1.More, .int a.1.File, .int a.1.Dcb.Org, .int a.1.Dcb.Format, .bool a.1.Dcb.Blocked, .bool a.1.Dcb.Asa, .int a.1.Dcb.Lrecl, .int a.1.Dcb.Blksize, .int a.1.Dcb.KeyLen, .int a.1.Dcb.KeyPos, .str a.1.Sysout, .slice (List.map e_Str a.1.Instream), .bool a.1.HasData, .bool a.1.Dummy], [.int a.2.1.Kind, .int a.2.1.Code, .int a.2.1.Ins, .int a.2.1.Ios], [.bool a.2.2]]) (fun a => flow_After n a.1 a.2.1 a.2.2) (fun r => [.c (.int .i64) (.int r)]) (fun r => [])

theorem cflow_After (n : Nat) : Contract Try.prog (xflow_After n) := by
  have hΓ : ∀ g, g ∈ ([xflow_named n, xflow_Default n] : List Go.AE.Fn) → Contract Try.prog g := by
    intro g hg; simp only [List.mem_cons, List.not_mem_nil, or_false] at hg; rcases hg with rfl | rfl; exact cflow_named n; exact cflow_Default n
  refine contract_f (Try.f16.body.getD .skip) h00 Try.func16 rfl (by intro args w; exact Try.call16 args w) (by decide) (by intro _ r; exact ⟨rfl, by simp⟩) ?_
  rintro ⟨d, end_, created⟩ r H
  try dsimp only at H
  unfold flow_After at H
  simp only [Try.f16, Option.getD]
  refine Sm.seqK fun K1 hK1 => ?_
  refine Sm.regA (Γ := [xflow_named n, xflow_Default n]) h00 mixed hΓ (by kernel_rfl) ?_
  simp only [rs]
  repeat (refine opsG fun K hK => ?_; simp (maxSteps := 2000000) only [ev, ew, tys, tl, ↓reduceIte, reduceCtorEq, Nat.reduceAdd, Nat.reduceMul, Nat.reduceSub, Nat.reduceEqDiff, Nat.reduceLeDiff, Nat.reduceLT, Int.reduceToNat, xflow_named, xflow_Default, flow_After_s1, Option.isSome_some, Option.getD_some]; (repeat (first | refine ⟨by first | with_reducible assumption | omega | (intro hh; (repeat refine ⟨hh, ?_⟩); revert hh; with_reducible assumption), ?_⟩ | refine fun (_ : _ ≤ _) => ?_)); refine hK _ ?_; clear hK K)
  refine opsG0 ?_
  refine hK1 _ ?_
  refine Sm.seqK fun K2 hK2 => ?_
  refine Sm.seqK fun K3 hK3 => ?_
  obtain ⟨r1, hr1, H⟩ := bind_some H
  refine Sm.regA (Γ := [xflow_named n, xflow_Default n]) h00 mixed hΓ (by kernel_rfl) ?_
  simp only [rs]
  repeat (refine opsG fun K hK => ?_; simp (maxSteps := 2000000) only [ev, ew, tys, tl, ↓reduceIte, reduceCtorEq, Nat.reduceAdd, Nat.reduceMul, Nat.reduceSub, Nat.reduceEqDiff, Nat.reduceLeDiff, Nat.reduceLT, Int.reduceToNat, xflow_named, xflow_Default, flow_After_s1, Option.isSome_some, Option.getD_some, hr1]; (repeat (first | refine ⟨by first | with_reducible assumption | omega | (intro hh; (repeat refine ⟨hh, ?_⟩); revert hh; with_reducible assumption), ?_⟩ | refine fun (_ : _ ≤ _) => ?_)); refine hK _ ?_; clear hK K)
  refine opsG0 ?_
  refine hK3 _ ?_
  refine Sm.condK (by rfl) fun Ka Kb ha hb => ?_
  simp only [wpCond, ev, ew, tys, tl, ↓reduceIte, reduceCtorEq, Nat.reduceAdd, Nat.reduceMul, Nat.reduceSub, Nat.reduceEqDiff, Nat.reduceLeDiff, Nat.reduceLT, Int.reduceToNat, xflow_named, xflow_Default, flow_After_s1, Option.isSome_some, Option.getD_some]
  refine ⟨fun h4 => ha ?_, fun h4 => hb ?_⟩
  · replace H := bif_t h4 H
    refine Sm.seqK fun K5 hK5 => ?_
    refine Sm.regA (Γ := [xflow_named n, xflow_Default n]) h00 mixed hΓ (by kernel_rfl) ?_
    simp only [rs]
    repeat (refine opsG fun K hK => ?_; simp (maxSteps := 2000000) only [ev, ew, tys, tl, ↓reduceIte, reduceCtorEq, Nat.reduceAdd, Nat.reduceMul, Nat.reduceSub, Nat.reduceEqDiff, Nat.reduceLeDiff, Nat.reduceLT, Int.reduceToNat, xflow_named, xflow_Default, flow_After_s1, Option.isSome_some, Option.getD_some]; (repeat (first | refine ⟨by first | with_reducible assumption | omega | (intro hh; (repeat refine ⟨hh, ?_⟩); revert hh; with_reducible assumption), ?_⟩ | refine fun (_ : _ ≤ _) => ?_)); refine hK _ ?_; clear hK K)
    refine opsG0 ?_
    refine hK5 _ ?_
    refine Sm.ret ?_
    try simp only [↓reduceIte, reduceCtorEq, Exit.exit.injEq]
    obtain rfl := Option.some.inj H
    refine Ret.ofR [] (.inr rfl) ?_
    simp (maxSteps := 2000000) only [ev, ew, tys, tl, ↓reduceIte, reduceCtorEq, Nat.reduceAdd, Nat.reduceMul, Nat.reduceSub, Nat.reduceEqDiff, Nat.reduceLeDiff, Nat.reduceLT, Int.reduceToNat, xflow_named, xflow_Default, flow_After_s1, Option.isSome_some, Option.getD_some]
    done
  · replace H := bif_f h4 H
    refine Sm.skip ?_
    refine hK2 _ ?_
    refine Sm.cut (fun (x : Int) => flow_After_s1 d x end_) (fun x => flow_After_k1 n d x end_ = some r) ?_ ?_
    · refine Sm.seqK fun K16 hK16 => ?_
      refine Sm.regA (Γ := [xflow_named n, xflow_Default n]) h00 mixed hΓ (by kernel_rfl) ?_
      simp only [rs]
      repeat (refine opsG fun K hK => ?_; simp (maxSteps := 2000000) only [ev, ew, tys, tl, ↓reduceIte, reduceCtorEq, Nat.reduceAdd, Nat.reduceMul, Nat.reduceSub, Nat.reduceEqDiff, Nat.reduceLeDiff, Nat.reduceLT, Int.reduceToNat, xflow_named, xflow_Default, flow_After_s1, Option.isSome_some, Option.getD_some]; (repeat (first | refine ⟨by first | with_reducible assumption | omega | (intro hh; (repeat refine ⟨hh, ?_⟩); revert hh; with_reducible assumption), ?_⟩ | refine fun (_ : _ ≤ _) => ?_)); refine hK _ ?_; clear hK K)
      refine opsG0 ?_
      refine hK16 _ ?_
      refine Sm.condK (by rfl) fun Ka Kb ha hb => ?_
      simp only [wpCond, ev, ew, tys, tl, ↓reduceIte, reduceCtorEq, Nat.reduceAdd, Nat.reduceMul, Nat.reduceSub, Nat.reduceEqDiff, Nat.reduceLeDiff, Nat.reduceLT, Int.reduceToNat, xflow_named, xflow_Default, flow_After_s1, Option.isSome_some, Option.getD_some]
      refine ⟨fun h17 => ha ?_, fun h17 => hb ?_⟩
      · replace H := bif_t h17 H
        refine Sm.regA (Γ := [xflow_named n, xflow_Default n]) h00 mixed hΓ (by kernel_rfl) ?_
        simp only [rs]
        repeat (refine opsG fun K hK => ?_; simp (maxSteps := 2000000) only [ev, ew, tys, tl, ↓reduceIte, reduceCtorEq, Nat.reduceAdd, Nat.reduceMul, Nat.reduceSub, Nat.reduceEqDiff, Nat.reduceLeDiff, Nat.reduceLT, Int.reduceToNat, xflow_named, xflow_Default, flow_After_s1, Option.isSome_some, Option.getD_some]; (repeat (first | refine ⟨by first | with_reducible assumption | omega | (intro hh; (repeat refine ⟨hh, ?_⟩); revert hh; with_reducible assumption), ?_⟩ | refine fun (_ : _ ≤ _) => ?_)); refine hK _ ?_; clear hK K)
        refine opsG0 ?_
        try simp only [↓reduceIte, reduceCtorEq, Exit.exit.injEq]
        refine ⟨_, H, ?_⟩
        exact weak_b [some 48, some 64] rfl rfl (by simp only [wk, ev, ew, tys, tl, ↓reduceIte, reduceCtorEq, Nat.reduceAdd, Nat.reduceMul, Nat.reduceSub, Nat.reduceEqDiff, Nat.reduceLeDiff, Nat.reduceLT, Int.reduceToNat, flow_After_s1]) (by simp only [wk, ev, ew, tys, tl, ↓reduceIte, reduceCtorEq, Nat.reduceAdd, Nat.reduceMul, Nat.reduceSub, Nat.reduceEqDiff, Nat.reduceLeDiff, Nat.reduceLT, Int.reduceToNat, flow_After_s1])
      · replace H := bif_f h17 H
        refine Sm.skip ?_
        try simp only [↓reduceIte, reduceCtorEq, Exit.exit.injEq]
        refine ⟨_, H, ?_⟩
        exact weak_b [some 48, some 64] rfl rfl (by simp only [wk, ev, ew, tys, tl, ↓reduceIte, reduceCtorEq, Nat.reduceAdd, Nat.reduceMul, Nat.reduceSub, Nat.reduceEqDiff, Nat.reduceLeDiff, Nat.reduceLT, Int.reduceToNat, flow_After_s1]) (by simp only [wk, ev, ew, tys, tl, ↓reduceIte, reduceCtorEq, Nat.reduceAdd, Nat.reduceMul, Nat.reduceSub, Nat.reduceEqDiff, Nat.reduceLeDiff, Nat.reduceLT, Int.reduceToNat, flow_After_s1])
    · rintro d_1 H
      try dsimp only at H
      unfold flow_After_k1 at H
      refine Sm.seqK fun K6 hK6 => ?_
      obtain ⟨r2, hr2, H⟩ := bind_some H
      refine Sm.regA (Γ := [xflow_named n, xflow_Default n]) h00 mixed hΓ (by kernel_rfl) ?_
      simp only [rs]
      repeat (refine opsG fun K hK => ?_; simp (maxSteps := 2000000) only [ev, ew, tys, tl, ↓reduceIte, reduceCtorEq, Nat.reduceAdd, Nat.reduceMul, Nat.reduceSub, Nat.reduceEqDiff, Nat.reduceLeDiff, Nat.reduceLT, Int.reduceToNat, xflow_named, xflow_Default, flow_After_s1, Option.isSome_some, Option.getD_some, hr2]; (repeat (first | refine ⟨by first | with_reducible assumption | omega | (intro hh; (repeat refine ⟨hh, ?_⟩); revert hh; with_reducible assumption), ?_⟩ | refine fun (_ : _ ≤ _) => ?_)); refine hK _ ?_; clear hK K)
      refine opsG0 ?_
      refine hK6 _ ?_
      refine Sm.seqK fun K7 hK7 => ?_
      refine Sm.seqK fun K8 hK8 => ?_
      refine Sm.regA (Γ := [xflow_named n, xflow_Default n]) h00 mixed hΓ (by kernel_rfl) ?_
      simp only [rs]
      repeat (refine opsG fun K hK => ?_; simp (maxSteps := 2000000) only [ev, ew, tys, tl, ↓reduceIte, reduceCtorEq, Nat.reduceAdd, Nat.reduceMul, Nat.reduceSub, Nat.reduceEqDiff, Nat.reduceLeDiff, Nat.reduceLT, Int.reduceToNat, xflow_named, xflow_Default, flow_After_s1, Option.isSome_some, Option.getD_some]; (repeat (first | refine ⟨by first | with_reducible assumption | omega | (intro hh; (repeat refine ⟨hh, ?_⟩); revert hh; with_reducible assumption), ?_⟩ | refine fun (_ : _ ≤ _) => ?_)); refine hK _ ?_; clear hK K)
      refine opsG0 ?_
      refine hK8 _ ?_
      refine Sm.block ?_
      refine Sm.seqK fun K9 hK9 => ?_
      refine Sm.regA (Γ := [xflow_named n, xflow_Default n]) h00 mixed hΓ (by kernel_rfl) ?_
      simp only [rs]
      repeat (refine opsG fun K hK => ?_; simp (maxSteps := 2000000) only [ev, ew, tys, tl, ↓reduceIte, reduceCtorEq, Nat.reduceAdd, Nat.reduceMul, Nat.reduceSub, Nat.reduceEqDiff, Nat.reduceLeDiff, Nat.reduceLT, Int.reduceToNat, xflow_named, xflow_Default, flow_After_s1, Option.isSome_some, Option.getD_some]; (repeat (first | refine ⟨by first | with_reducible assumption | omega | (intro hh; (repeat refine ⟨hh, ?_⟩); revert hh; with_reducible assumption), ?_⟩ | refine fun (_ : _ ≤ _) => ?_)); refine hK _ ?_; clear hK K)
      refine opsG0 ?_
      refine hK9 _ ?_
      refine Sm.condK (by rfl) fun Ka Kb ha hb => ?_
      simp only [wpCond, ev, ew, tys, tl, ↓reduceIte, reduceCtorEq, Nat.reduceAdd, Nat.reduceMul, Nat.reduceSub, Nat.reduceEqDiff, Nat.reduceLeDiff, Nat.reduceLT, Int.reduceToNat, xflow_named, xflow_Default, flow_After_s1, Option.isSome_some, Option.getD_some]
      refine ⟨fun h10 => ha ?_, fun h10 => hb ?_⟩
      · replace H := bif_t h10 H
        refine Sm.seqK fun K11 hK11 => ?_
        refine Sm.regA (Γ := [xflow_named n, xflow_Default n]) h00 mixed hΓ (by kernel_rfl) ?_
        simp only [rs]
        repeat (refine opsG fun K hK => ?_; simp (maxSteps := 2000000) only [ev, ew, tys, tl, ↓reduceIte, reduceCtorEq, Nat.reduceAdd, Nat.reduceMul, Nat.reduceSub, Nat.reduceEqDiff, Nat.reduceLeDiff, Nat.reduceLT, Int.reduceToNat, xflow_named, xflow_Default, flow_After_s1, Option.isSome_some, Option.getD_some]; (repeat (first | refine ⟨by first | with_reducible assumption | omega | (intro hh; (repeat refine ⟨hh, ?_⟩); revert hh; with_reducible assumption), ?_⟩ | refine fun (_ : _ ≤ _) => ?_)); refine hK _ ?_; clear hK K)
        refine opsG0 ?_
        refine hK11 _ ?_
        refine Sm.ret ?_
        try simp only [↓reduceIte, reduceCtorEq, Exit.exit.injEq]
        obtain rfl := Option.some.inj H
        refine Ret.ofR [] (.inr rfl) ?_
        simp (maxSteps := 2000000) only [ev, ew, tys, tl, ↓reduceIte, reduceCtorEq, Nat.reduceAdd, Nat.reduceMul, Nat.reduceSub, Nat.reduceEqDiff, Nat.reduceLeDiff, Nat.reduceLT, Int.reduceToNat, xflow_named, xflow_Default, flow_After_s1, Option.isSome_some, Option.getD_some]
        done
      · replace H := bif_f h10 H
        refine Sm.seqK fun K12 hK12 => ?_
        refine Sm.regA (Γ := [xflow_named n, xflow_Default n]) h00 mixed hΓ (by kernel_rfl) ?_
        simp only [rs]
        repeat (refine opsG fun K hK => ?_; simp (maxSteps := 2000000) only [ev, ew, tys, tl, ↓reduceIte, reduceCtorEq, Nat.reduceAdd, Nat.reduceMul, Nat.reduceSub, Nat.reduceEqDiff, Nat.reduceLeDiff, Nat.reduceLT, Int.reduceToNat, xflow_named, xflow_Default, flow_After_s1, Option.isSome_some, Option.getD_some]; (repeat (first | refine ⟨by first | with_reducible assumption | omega | (intro hh; (repeat refine ⟨hh, ?_⟩); revert hh; with_reducible assumption), ?_⟩ | refine fun (_ : _ ≤ _) => ?_)); refine hK _ ?_; clear hK K)
        refine opsG0 ?_
        refine hK12 _ ?_
        refine Sm.condK (by rfl) fun Ka Kb ha hb => ?_
        simp only [wpCond, ev, ew, tys, tl, ↓reduceIte, reduceCtorEq, Nat.reduceAdd, Nat.reduceMul, Nat.reduceSub, Nat.reduceEqDiff, Nat.reduceLeDiff, Nat.reduceLT, Int.reduceToNat, xflow_named, xflow_Default, flow_After_s1, Option.isSome_some, Option.getD_some]
        refine ⟨fun h13 => ha ?_, fun h13 => hb ?_⟩
        · replace H := bif_t h13 H
          refine Sm.seqK fun K14 hK14 => ?_
          refine Sm.regA (Γ := [xflow_named n, xflow_Default n]) h00 mixed hΓ (by kernel_rfl) ?_
          simp only [rs]
          repeat (refine opsG fun K hK => ?_; simp (maxSteps := 2000000) only [ev, ew, tys, tl, ↓reduceIte, reduceCtorEq, Nat.reduceAdd, Nat.reduceMul, Nat.reduceSub, Nat.reduceEqDiff, Nat.reduceLeDiff, Nat.reduceLT, Int.reduceToNat, xflow_named, xflow_Default, flow_After_s1, Option.isSome_some, Option.getD_some]; (repeat (first | refine ⟨by first | with_reducible assumption | omega | (intro hh; (repeat refine ⟨hh, ?_⟩); revert hh; with_reducible assumption), ?_⟩ | refine fun (_ : _ ≤ _) => ?_)); refine hK _ ?_; clear hK K)
          refine opsG0 ?_
          refine hK14 _ ?_
          refine Sm.ret ?_
          try simp only [↓reduceIte, reduceCtorEq, Exit.exit.injEq]
          obtain rfl := Option.some.inj H
          refine Ret.ofR [] (.inr rfl) ?_
          simp (maxSteps := 2000000) only [ev, ew, tys, tl, ↓reduceIte, reduceCtorEq, Nat.reduceAdd, Nat.reduceMul, Nat.reduceSub, Nat.reduceEqDiff, Nat.reduceLeDiff, Nat.reduceLT, Int.reduceToNat, xflow_named, xflow_Default, flow_After_s1, Option.isSome_some, Option.getD_some]
          done
        · replace H := bif_f h13 H
          refine Sm.skip ?_
          refine hK7 _ ?_
          refine Sm.seqK fun K15 hK15 => ?_
          refine Sm.regA (Γ := [xflow_named n, xflow_Default n]) h00 mixed hΓ (by kernel_rfl) ?_
          simp only [rs]
          repeat (refine opsG fun K hK => ?_; simp (maxSteps := 2000000) only [ev, ew, tys, tl, ↓reduceIte, reduceCtorEq, Nat.reduceAdd, Nat.reduceMul, Nat.reduceSub, Nat.reduceEqDiff, Nat.reduceLeDiff, Nat.reduceLT, Int.reduceToNat, xflow_named, xflow_Default, flow_After_s1, Option.isSome_some, Option.getD_some]; (repeat (first | refine ⟨by first | with_reducible assumption | omega | (intro hh; (repeat refine ⟨hh, ?_⟩); revert hh; with_reducible assumption), ?_⟩ | refine fun (_ : _ ≤ _) => ?_)); refine hK _ ?_; clear hK K)
          refine opsG0 ?_
          refine hK15 _ ?_
          refine Sm.ret ?_
          try simp only [↓reduceIte, reduceCtorEq, Exit.exit.injEq]
          obtain rfl := Option.some.inj H
          refine Ret.ofR [] (.inr rfl) ?_
          simp (maxSteps := 2000000) only [ev, ew, tys, tl, ↓reduceIte, reduceCtorEq, Nat.reduceAdd, Nat.reduceMul, Nat.reduceSub, Nat.reduceEqDiff, Nat.reduceLeDiff, Nat.reduceLT, Int.reduceToNat, xflow_named, xflow_Default, flow_After_s1, Option.isSome_some, Option.getD_some]
          done

def law36_works (n : Nat) : Option Bool :=
  (flow_Skip n (⟨[], [], [], [(⟨4, 5, []⟩ : TCond)], false, false, 0, []⟩ : TJobStep) [[65]] [(⟨1, 8, 0, 0⟩ : TStepEnd)]).bind fun r1 =>
  (flow_Skip n (⟨[], [], [], [(⟨4, 5, []⟩ : TCond)], false, false, 0, []⟩ : TJobStep) [[65]] [(⟨1, 4, 0, 0⟩ : TStepEnd)]).bind fun r2 =>
  gd (((if r1 = true then (!r2) else false) = true → (flow_After n (⟨[], [88], [], 0, false, 0, 0, 0, 0, [], 0, 0, 0, (⟨0, 0, false, false, 0, 0, 0, 0⟩ : TDcb), [], [], false, false⟩ : TDD) (⟨1, 0, 0, 0⟩ : TStepEnd) false).isSome = true)) <|
  some (if (if r1 = true then (!r2) else false) = true then (((flow_After n (⟨[], [88], [], 0, false, 0, 0, 0, 0, [], 0, 0, 0, (⟨0, 0, false, false, 0, 0, 0, 0⟩ : TDcb), [], [], false, false⟩ : TDD) (⟨1, 0, 0, 0⟩ : TStepEnd) false).getD default) == 2) else false)

def xlaw36_works (n : Nat) : Go.AE.Fn := mkFn (A := Unit) (R := Bool) 13 [] false (fun xs => ()) (fun a => []) (fun a => law36_works n) (fun r => [.c .bool (.bool r)]) (fun r => [])

theorem claw36_works (n : Nat) : Contract Try.prog (xlaw36_works n) := by
  have hΓ : ∀ g, g ∈ ([xflow_Skip n, xflow_After n] : List Go.AE.Fn) → Contract Try.prog g := by
    intro g hg; simp only [List.mem_cons, List.not_mem_nil, or_false] at hg; rcases hg with rfl | rfl; exact cflow_Skip n; exact cflow_After n
  refine contract_f (Try.f13.body.getD .skip) h00 Try.func13 rfl (by intro args w; exact Try.call13 args w) (by decide) (by intro _ r; exact ⟨rfl, by simp⟩) ?_
  rintro ⟨⟩ r H
  try dsimp only at H
  unfold law36_works at H
  simp only [Try.f13, Option.getD]
  refine Sm.seqK fun K1 hK1 => ?_
  refine Sm.regA (Γ := [xflow_Skip n, xflow_After n]) h00 mixed hΓ (by kernel_rfl) ?_
  simp only [rs]
  repeat (refine opsG fun K hK => ?_; simp (maxSteps := 2000000) only [ev, ew, tys, tl, ↓reduceIte, reduceCtorEq, Nat.reduceAdd, Nat.reduceMul, Nat.reduceSub, Nat.reduceEqDiff, Nat.reduceLeDiff, Nat.reduceLT, Int.reduceToNat, xflow_Skip, xflow_After, Option.isSome_some, Option.getD_some]; (repeat (first | refine ⟨by first | with_reducible assumption | omega | (intro hh; (repeat refine ⟨hh, ?_⟩); revert hh; with_reducible assumption), ?_⟩ | refine fun (_ : _ ≤ _) => ?_)); refine hK _ ?_; clear hK K)
  refine opsG0 ?_
  refine hK1 _ ?_
  refine Sm.seqK fun K2 hK2 => ?_
  refine Sm.regA (Γ := [xflow_Skip n, xflow_After n]) h00 mixed hΓ (by kernel_rfl) ?_
  simp only [rs]
  repeat (refine opsG fun K hK => ?_; simp (maxSteps := 2000000) only [ev, ew, tys, tl, ↓reduceIte, reduceCtorEq, Nat.reduceAdd, Nat.reduceMul, Nat.reduceSub, Nat.reduceEqDiff, Nat.reduceLeDiff, Nat.reduceLT, Int.reduceToNat, xflow_Skip, xflow_After, Option.isSome_some, Option.getD_some]; (repeat (first | refine ⟨by first | with_reducible assumption | omega | (intro hh; (repeat refine ⟨hh, ?_⟩); revert hh; with_reducible assumption), ?_⟩ | refine fun (_ : _ ≤ _) => ?_)); refine hK _ ?_; clear hK K)
  refine opsG0 ?_
  refine hK2 _ ?_
  refine Sm.seqK fun K3 hK3 => ?_
  obtain ⟨r1, hr1, H⟩ := bind_some H
  refine Sm.regA (Γ := [xflow_Skip n, xflow_After n]) h00 mixed hΓ (by kernel_rfl) ?_
  simp only [rs]
  repeat (refine opsG fun K hK => ?_; simp (maxSteps := 2000000) only [ev, ew, tys, tl, ↓reduceIte, reduceCtorEq, Nat.reduceAdd, Nat.reduceMul, Nat.reduceSub, Nat.reduceEqDiff, Nat.reduceLeDiff, Nat.reduceLT, Int.reduceToNat, xflow_Skip, xflow_After, Option.isSome_some, Option.getD_some, hr1]; (repeat (first | refine ⟨by first | with_reducible assumption | omega | (intro hh; (repeat refine ⟨hh, ?_⟩); revert hh; with_reducible assumption), ?_⟩ | refine fun (_ : _ ≤ _) => ?_)); refine hK _ ?_; clear hK K)
  refine opsG0 ?_
  refine hK3 _ ?_
  refine Sm.seqK fun K4 hK4 => ?_
  obtain ⟨r2, hr2, H⟩ := bind_some H
  refine Sm.regA (Γ := [xflow_Skip n, xflow_After n]) h00 mixed hΓ (by kernel_rfl) ?_
  simp only [rs]
  repeat (refine opsG fun K hK => ?_; simp (maxSteps := 2000000) only [ev, ew, tys, tl, ↓reduceIte, reduceCtorEq, Nat.reduceAdd, Nat.reduceMul, Nat.reduceSub, Nat.reduceEqDiff, Nat.reduceLeDiff, Nat.reduceLT, Int.reduceToNat, xflow_Skip, xflow_After, Option.isSome_some, Option.getD_some, hr2]; (repeat (first | refine ⟨by first | with_reducible assumption | omega | (intro hh; (repeat refine ⟨hh, ?_⟩); revert hh; with_reducible assumption), ?_⟩ | refine fun (_ : _ ≤ _) => ?_)); refine hK _ ?_; clear hK K)
  refine opsG0 ?_
  refine hK4 _ ?_
  refine Sm.seqK fun K5 hK5 => ?_
  obtain ⟨hg6, H⟩ := gd_some H
  refine Sm.regA (Γ := [xflow_Skip n, xflow_After n]) h00 mixed hΓ (by kernel_rfl) ?_
  simp only [rs]
  repeat (refine opsG fun K hK => ?_; simp (maxSteps := 2000000) only [ev, ew, tys, tl, ↓reduceIte, reduceCtorEq, Nat.reduceAdd, Nat.reduceMul, Nat.reduceSub, Nat.reduceEqDiff, Nat.reduceLeDiff, Nat.reduceLT, Int.reduceToNat, xflow_Skip, xflow_After, Option.isSome_some, Option.getD_some]; (repeat (first | refine ⟨by first | with_reducible assumption | omega | (intro hh; (repeat refine ⟨hh, ?_⟩); revert hh; with_reducible assumption), ?_⟩ | refine fun (_ : _ ≤ _) => ?_)); refine hK _ ?_; clear hK K)
  refine opsG0 ?_
  refine hK5 _ ?_
  refine Sm.ret ?_
  try simp only [↓reduceIte, reduceCtorEq, Exit.exit.injEq]
  obtain rfl := Option.some.inj H
  refine Ret.ofR [] (.inr rfl) ?_
  simp (maxSteps := 2000000) only [ev, ew, tys, tl, ↓reduceIte, reduceCtorEq, Nat.reduceAdd, Nat.reduceMul, Nat.reduceSub, Nat.reduceEqDiff, Nat.reduceLeDiff, Nat.reduceLT, Int.reduceToNat, xflow_Skip, xflow_After, Option.isSome_some, Option.getD_some]
  done

abbrev law36_FlowTests_s1 (l : List TCond) (end_ : TStepEnd) : S := stB [(0, .c (.slice 27) (.slice (List.map e_TCond l))), (3, .box 9000 0)] [(9000, .box [.c (.int .i64) (.int end_.Kind), .c (.int .i64) (.int end_.Code), .c (.int .i64) (.int end_.Ins), .c (.int .i64) (.int end_.Ios)])]

def law36_FlowTests_k1 (n : Nat) (l : List TCond) (end_ : TStepEnd) : Option Bool :=
  (flow_Stop n l end_).bind fun r1 =>
  (ref36_Stop n l end_).bind fun r2 =>
  gd (((r1 == r2) = true → (law36_works n).isSome = true)) <|
  some (if (r1 == r2) = true then ((law36_works n).getD default) else false)

abbrev law36_FlowTests_t2 (l : List TCond) (end_ : TStepEnd) (i : Int) : S := stB [(0, .c (.slice 27) (.slice (List.map e_TCond l))), (3, .box 9002 0), (5, .c (.int .i64) (.int i))] [(9002, .box [.c (.int .i64) (.int end_.Kind), .c (.int .i64) (.int end_.Code), .c (.int .i64) (.int end_.Ins), .c (.int .i64) (.int end_.Ios)])]

def law36_FlowTests_b2 (n : Nat) (l : List TCond) (end_ : TStepEnd) (i : Int) : Option ((Int) ⊕ (((Bool) ⊕ (Unit)))) :=
  bif (decide (i < (l.length : Int))) then
    gd ((0 ≤ i ∧ i < (l.length : Int))) <|
    (flow_Test n (gt l (Int.toNat i)) end_.Code).bind fun r3 =>
    gd ((0 ≤ i ∧ i < (l.length : Int))) <|
    (ref36_Test n (gt l (Int.toNat i)) end_.Code).bind fun r4 =>
    bif (r3 != r4) then
      some (.inr (.inl false))
    else
      some (.inl (IntKind.wrap .i64 (i + 1)))
  else
    some (.inr (.inr ()))

def law36_FlowTests (n : Nat) (l : List TCond) (end_ : TStepEnd) : Option Bool :=
  (loopF (fun (x : Int) => law36_FlowTests_b2 n l end_ x) n 0).bind fun y5 =>
  match y5 with
  | .inl v =>
    some v
  | .inr v =>
    law36_FlowTests_k1 n l end_

def xlaw36_FlowTests (n : Nat) : Go.AE.Fn := mkFn (A := (List TCond) × TStepEnd) (R := Bool) 3 [(false, [.slice 27]), (true, [.int .i64, .int .i64, .int .i64, .int .i64])] false (fun xs => (((cg (xs.getD 0 []) 0).toSl.map d_TCond), (⟨(cg (xs.getD 1 []) 0).toInt, (cg (xs.getD 1 []) 1).toInt, (cg (xs.getD 1 []) 2).toInt, (cg (xs.getD 1 []) 3).toInt⟩ : TStepEnd))) (fun a => [[.slice (List.map e_TCond a.1)], [.int a.2.Kind, .int a.2.Code, .int a.2.Ins, .int a.2.Ios]]) (fun a => law36_FlowTests n a.1 a.2) (fun r => [.c .bool (.bool r)]) (fun r => [])

theorem claw36_FlowTests (n : Nat) : Contract Try.prog (xlaw36_FlowTests n) := by
  have hΓ : ∀ g, g ∈ ([xflow_Test n, xref36_Test n, xflow_Stop n, xref36_Stop n, xlaw36_works n] : List Go.AE.Fn) → Contract Try.prog g := by
    intro g hg; simp only [List.mem_cons, List.not_mem_nil, or_false] at hg; rcases hg with rfl | rfl | rfl | rfl | rfl; exact cflow_Test n; exact cref36_Test n; exact cflow_Stop n; exact cref36_Stop n; exact claw36_works n
  refine contract_f (Try.f3.body.getD .skip) h00 Try.func3 rfl (by intro args w; exact Try.call3 args w) (by decide) (by intro _ r; exact ⟨rfl, by simp⟩) ?_
  rintro ⟨l, end_⟩ r H
  try dsimp only at H
  unfold law36_FlowTests at H
  simp only [Try.f3, Option.getD]
  refine Sm.seqK fun K1 hK1 => ?_
  refine Sm.regA (Γ := [xflow_Test n, xref36_Test n, xflow_Stop n, xref36_Stop n, xlaw36_works n]) h00 mixed hΓ (by kernel_rfl) ?_
  simp only [rs]
  repeat (refine opsG fun K hK => ?_; simp (maxSteps := 2000000) only [ev, ew, tys, tl, ↓reduceIte, reduceCtorEq, Nat.reduceAdd, Nat.reduceMul, Nat.reduceSub, Nat.reduceEqDiff, Nat.reduceLeDiff, Nat.reduceLT, Int.reduceToNat, xflow_Test, xref36_Test, xflow_Stop, xref36_Stop, xlaw36_works, law36_FlowTests_s1, law36_FlowTests_t2, Option.isSome_some, Option.getD_some]; (repeat (first | refine ⟨by first | with_reducible assumption | omega | (intro hh; (repeat refine ⟨hh, ?_⟩); revert hh; with_reducible assumption), ?_⟩ | refine fun (_ : _ ≤ _) => ?_)); refine hK _ ?_; clear hK K)
  refine opsG0 ?_
  refine hK1 _ ?_
  refine Sm.cut (fun (x : Unit) => law36_FlowTests_s1 l end_) (fun x => law36_FlowTests_k1 n l end_ = some r) ?_ ?_
  · refine Sm.seqK fun K4 hK4 => ?_
    refine Sm.regA (Γ := [xflow_Test n, xref36_Test n, xflow_Stop n, xref36_Stop n, xlaw36_works n]) h00 mixed hΓ (by kernel_rfl) ?_
    simp only [rs]
    repeat (refine opsG fun K hK => ?_; simp (maxSteps := 2000000) only [ev, ew, tys, tl, ↓reduceIte, reduceCtorEq, Nat.reduceAdd, Nat.reduceMul, Nat.reduceSub, Nat.reduceEqDiff, Nat.reduceLeDiff, Nat.reduceLT, Int.reduceToNat, xflow_Test, xref36_Test, xflow_Stop, xref36_Stop, xlaw36_works, law36_FlowTests_s1, law36_FlowTests_t2, Option.isSome_some, Option.getD_some]; (repeat (first | refine ⟨by first | with_reducible assumption | omega | (intro hh; (repeat refine ⟨hh, ?_⟩); revert hh; with_reducible assumption), ?_⟩ | refine fun (_ : _ ≤ _) => ?_)); refine hK _ ?_; clear hK K)
    refine opsG0 ?_
    refine hK4 _ ?_
    refine Sm.block ?_
    obtain ⟨y5, hy5, Ho5⟩ := bind_some H
    refine Sm.loopB (fun (x : Int) => law36_FlowTests_b2 n l end_ x) (fun x => law36_FlowTests_t2 l end_ x) hy5 ?_ ?_
    · exact weak_b [some 48] rfl rfl (by simp only [wk, ev, ew, tys, tl, ↓reduceIte, reduceCtorEq, Nat.reduceAdd, Nat.reduceMul, Nat.reduceSub, Nat.reduceEqDiff, Nat.reduceLeDiff, Nat.reduceLT, Int.reduceToNat, law36_FlowTests_s1, law36_FlowTests_t2]) (by simp only [wk, ev, ew, tys, tl, ↓reduceIte, reduceCtorEq, Nat.reduceAdd, Nat.reduceMul, Nat.reduceSub, Nat.reduceEqDiff, Nat.reduceLeDiff, Nat.reduceLT, Int.reduceToNat, law36_FlowTests_s1, law36_FlowTests_t2])
    · rintro i z5 H
      try dsimp only at H
      unfold law36_FlowTests_b2 at H
      refine Sm.seqK fun K6 hK6 => ?_
      refine Sm.seqK fun K7 hK7 => ?_
      refine Sm.regA (Γ := [xflow_Test n, xref36_Test n, xflow_Stop n, xref36_Stop n, xlaw36_works n]) h00 mixed hΓ (by kernel_rfl) ?_
      simp only [rs]
      repeat (refine opsG fun K hK => ?_; simp (maxSteps := 2000000) only [ev, ew, tys, tl, ↓reduceIte, reduceCtorEq, Nat.reduceAdd, Nat.reduceMul, Nat.reduceSub, Nat.reduceEqDiff, Nat.reduceLeDiff, Nat.reduceLT, Int.reduceToNat, xflow_Test, xref36_Test, xflow_Stop, xref36_Stop, xlaw36_works, law36_FlowTests_s1, law36_FlowTests_t2, Option.isSome_some, Option.getD_some]; (repeat (first | refine ⟨by first | with_reducible assumption | omega | (intro hh; (repeat refine ⟨hh, ?_⟩); revert hh; with_reducible assumption), ?_⟩ | refine fun (_ : _ ≤ _) => ?_)); refine hK _ ?_; clear hK K)
      refine opsG0 ?_
      refine hK7 _ ?_
      refine Sm.condK (by rfl) fun Ka Kb ha hb => ?_
      simp only [wpCond, ev, ew, tys, tl, ↓reduceIte, reduceCtorEq, Nat.reduceAdd, Nat.reduceMul, Nat.reduceSub, Nat.reduceEqDiff, Nat.reduceLeDiff, Nat.reduceLT, Int.reduceToNat, xflow_Test, xref36_Test, xflow_Stop, xref36_Stop, xlaw36_works, law36_FlowTests_s1, law36_FlowTests_t2, Option.isSome_some, Option.getD_some]
      refine ⟨fun h8 => ha ?_, fun h8 => hb ?_⟩
      · replace H := bif_t h8 H
        refine Sm.skip ?_
        refine hK6 _ ?_
        refine Sm.seqK fun K9 hK9 => ?_
        refine Sm.block ?_
        refine Sm.seqK fun K10 hK10 => ?_
        obtain ⟨hg13, H⟩ := gd_some H
        obtain ⟨r3, hr3, H⟩ := bind_some H
        obtain ⟨hg14, H⟩ := gd_some H
        obtain ⟨r4, hr4, H⟩ := bind_some H
        refine Sm.regD (Γ := [xflow_Test n, xref36_Test n, xflow_Stop n, xref36_Stop n, xlaw36_works n]) h00 mixed hΓ (by kernel_rfl) ?_
        simp only [rs]
        repeat (refine opsH fun K hK => ?_; simp (maxSteps := 2000000) only [ev, ew, tys, tl, ↓reduceIte, reduceCtorEq, Nat.reduceAdd, Nat.reduceMul, Nat.reduceSub, Nat.reduceEqDiff, Nat.reduceLeDiff, Nat.reduceLT, Int.reduceToNat, xflow_Test, xref36_Test, xflow_Stop, xref36_Stop, xlaw36_works, law36_FlowTests_s1, law36_FlowTests_t2, Option.isSome_some, Option.getD_some, hr3, hr4]; (repeat (first | refine ⟨by first | with_reducible assumption | omega | (intro hh; (repeat refine ⟨hh, ?_⟩); revert hh; with_reducible assumption), ?_⟩ | refine fun (_ : _ ≤ _) => ?_)); refine hK _ ?_; clear hK K)
        refine opsH0 ?_
        refine hK10 _ ?_
        refine Sm.condK (by rfl) fun Ka Kb ha hb => ?_
        simp only [wpCond, ev, ew, tys, tl, ↓reduceIte, reduceCtorEq, Nat.reduceAdd, Nat.reduceMul, Nat.reduceSub, Nat.reduceEqDiff, Nat.reduceLeDiff, Nat.reduceLT, Int.reduceToNat, xflow_Test, xref36_Test, xflow_Stop, xref36_Stop, xlaw36_works, law36_FlowTests_s1, law36_FlowTests_t2, Option.isSome_some, Option.getD_some]
        refine ⟨fun h11 => ha ?_, fun h11 => hb ?_⟩
        · replace H := bif_t h11 H
          refine Sm.seqK fun K12 hK12 => ?_
          refine Sm.regA (Γ := [xflow_Test n, xref36_Test n, xflow_Stop n, xref36_Stop n, xlaw36_works n]) h00 mixed hΓ (by kernel_rfl) ?_
          simp only [rs]
          repeat (refine opsG fun K hK => ?_; simp (maxSteps := 2000000) only [ev, ew, tys, tl, ↓reduceIte, reduceCtorEq, Nat.reduceAdd, Nat.reduceMul, Nat.reduceSub, Nat.reduceEqDiff, Nat.reduceLeDiff, Nat.reduceLT, Int.reduceToNat, xflow_Test, xref36_Test, xflow_Stop, xref36_Stop, xlaw36_works, law36_FlowTests_s1, law36_FlowTests_t2, Option.isSome_some, Option.getD_some]; (repeat (first | refine ⟨by first | with_reducible assumption | omega | (intro hh; (repeat refine ⟨hh, ?_⟩); revert hh; with_reducible assumption), ?_⟩ | refine fun (_ : _ ≤ _) => ?_)); refine hK _ ?_; clear hK K)
          refine opsG0 ?_
          refine hK12 _ ?_
          refine Sm.ret ?_
          try simp only [↓reduceIte, reduceCtorEq, Exit.exit.injEq]
          refine ⟨⟨_, (Option.some.inj H).symm⟩, fun hz => ?_⟩
          have hyy := Sum.inr.inj ((Option.some.inj H).trans hz)
          subst hyy
          have H := Ho5
          try dsimp only at H
          try simp only [↓reduceIte, reduceCtorEq, Exit.exit.injEq]
          obtain rfl := Option.some.inj H
          refine Ret.ofR [] (.inr rfl) ?_
          simp (maxSteps := 2000000) only [ev, ew, tys, tl, ↓reduceIte, reduceCtorEq, Nat.reduceAdd, Nat.reduceMul, Nat.reduceSub, Nat.reduceEqDiff, Nat.reduceLeDiff, Nat.reduceLT, Int.reduceToNat, xflow_Test, xref36_Test, xflow_Stop, xref36_Stop, xlaw36_works, law36_FlowTests_s1, law36_FlowTests_t2, Option.isSome_some, Option.getD_some]
          done
        · replace H := bif_f h11 H
          refine Sm.skip ?_
          refine hK9 _ ?_
          refine Sm.regA (Γ := [xflow_Test n, xref36_Test n, xflow_Stop n, xref36_Stop n, xlaw36_works n]) h00 mixed hΓ (by kernel_rfl) ?_
          simp only [rs]
          repeat (refine opsG fun K hK => ?_; simp (maxSteps := 2000000) only [ev, ew, tys, tl, ↓reduceIte, reduceCtorEq, Nat.reduceAdd, Nat.reduceMul, Nat.reduceSub, Nat.reduceEqDiff, Nat.reduceLeDiff, Nat.reduceLT, Int.reduceToNat, xflow_Test, xref36_Test, xflow_Stop, xref36_Stop, xlaw36_works, law36_FlowTests_s1, law36_FlowTests_t2, Option.isSome_some, Option.getD_some]; (repeat (first | refine ⟨by first | with_reducible assumption | omega | (intro hh; (repeat refine ⟨hh, ?_⟩); revert hh; with_reducible assumption), ?_⟩ | refine fun (_ : _ ≤ _) => ?_)); refine hK _ ?_; clear hK K)
          refine opsG0 ?_
          try simp only [↓reduceIte, reduceCtorEq, Exit.exit.injEq]
          refine ⟨_, (Option.some.inj H).symm, ?_⟩
          exact weak_b [some 9002] rfl rfl (by simp only [wk, ev, ew, tys, tl, ↓reduceIte, reduceCtorEq, Nat.reduceAdd, Nat.reduceMul, Nat.reduceSub, Nat.reduceEqDiff, Nat.reduceLeDiff, Nat.reduceLT, Int.reduceToNat, law36_FlowTests_s1, law36_FlowTests_t2]) (by simp only [wk, ev, ew, tys, tl, ↓reduceIte, reduceCtorEq, Nat.reduceAdd, Nat.reduceMul, Nat.reduceSub, Nat.reduceEqDiff, Nat.reduceLeDiff, Nat.reduceLT, Int.reduceToNat, law36_FlowTests_s1, law36_FlowTests_t2])
      · replace H := bif_f h8 H
        refine Sm.exit ?_
        try simp only [↓reduceIte, reduceCtorEq, Exit.exit.injEq]
        refine ⟨⟨_, (Option.some.inj H).symm⟩, fun hz => ?_⟩
        have hyy := Sum.inr.inj ((Option.some.inj H).trans hz)
        subst hyy
        have H := Ho5
        try dsimp only at H
        try simp only [↓reduceIte, reduceCtorEq, Exit.exit.injEq]
        refine ⟨(), H, ?_⟩
        exact weak_b [some 9002] rfl rfl (by simp only [wk, ev, ew, tys, tl, ↓reduceIte, reduceCtorEq, Nat.reduceAdd, Nat.reduceMul, Nat.reduceSub, Nat.reduceEqDiff, Nat.reduceLeDiff, Nat.reduceLT, Int.reduceToNat, law36_FlowTests_s1, law36_FlowTests_t2]) (by simp only [wk, ev, ew, tys, tl, ↓reduceIte, reduceCtorEq, Nat.reduceAdd, Nat.reduceMul, Nat.reduceSub, Nat.reduceEqDiff, Nat.reduceLeDiff, Nat.reduceLT, Int.reduceToNat, law36_FlowTests_s1, law36_FlowTests_t2])
  · rintro ⟨⟩ H
    try dsimp only at H
    unfold law36_FlowTests_k1 at H
    refine Sm.seqK fun K2 hK2 => ?_
    obtain ⟨r1, hr1, H⟩ := bind_some H
    obtain ⟨r2, hr2, H⟩ := bind_some H
    obtain ⟨hg3, H⟩ := gd_some H
    refine Sm.regD (Γ := [xflow_Test n, xref36_Test n, xflow_Stop n, xref36_Stop n, xlaw36_works n]) h00 mixed hΓ (by kernel_rfl) ?_
    simp only [rs]
    repeat (refine opsH fun K hK => ?_; simp (maxSteps := 2000000) only [ev, ew, tys, tl, ↓reduceIte, reduceCtorEq, Nat.reduceAdd, Nat.reduceMul, Nat.reduceSub, Nat.reduceEqDiff, Nat.reduceLeDiff, Nat.reduceLT, Int.reduceToNat, xflow_Test, xref36_Test, xflow_Stop, xref36_Stop, xlaw36_works, law36_FlowTests_s1, law36_FlowTests_t2, Option.isSome_some, Option.getD_some, hr1, hr2]; (repeat (first | refine ⟨by first | with_reducible assumption | omega | (intro hh; (repeat refine ⟨hh, ?_⟩); revert hh; with_reducible assumption), ?_⟩ | refine fun (_ : _ ≤ _) => ?_)); refine hK _ ?_; clear hK K)
    refine opsH0 ?_
    refine hK2 _ ?_
    refine Sm.ret ?_
    try simp only [↓reduceIte, reduceCtorEq, Exit.exit.injEq]
    obtain rfl := Option.some.inj H
    refine Ret.ofR [] (.inr rfl) ?_
    simp (maxSteps := 2000000) only [ev, ew, tys, tl, ↓reduceIte, reduceCtorEq, Nat.reduceAdd, Nat.reduceMul, Nat.reduceSub, Nat.reduceEqDiff, Nat.reduceLeDiff, Nat.reduceLT, Int.reduceToNat, xflow_Test, xref36_Test, xflow_Stop, xref36_Stop, xlaw36_works, law36_FlowTests_s1, law36_FlowTests_t2, Option.isSome_some, Option.getD_some]
    done

abbrev ref36_holds_s1 : S := stB [] []

def ref36_holds_k1 (n : Nat) : Option Bool :=
  some false

abbrev ref36_holds_t2 (names : List (List UInt8)) (ends : List TStepEnd) (c : TCond) (i : Int) : S := stB [(1, .c (.slice 9) (.slice (List.map e_Str names))), (2, .c (.slice 24) (.slice (List.map e_TStepEnd ends))), (3, .box 9000 0), (7, .c (.int .i64) (.int i))] [(9000, .box [.c (.int .i64) (.int c.Code), .c (.int .i64) (.int c.Op), .c .str (.str c.Step)])]

def ref36_holds_b2 (n : Nat) (names : List (List UInt8)) (ends : List TStepEnd) (c : TCond) (i : Int) : Option ((Int) ⊕ (((Bool) ⊕ (Unit)))) :=
  bif (decide (i ≥ 0)) then
    gd (((c.Step == []) = true → (0 ≤ i ∧ i < (ends.length : Int))) ∧ ((if (c.Step == []) = true then (((gt ends (Int.toNat i)).Kind) == 1) else false) = true → (0 ≤ i ∧ i < (ends.length : Int))) ∧ ((if (c.Step == []) = true then (((gt ends (Int.toNat i)).Kind) == 1) else false) = true → (ref36_Test n c ((gt ends (Int.toNat i)).Code)).isSome = true)) <|
    bif (if (if (c.Step == []) = true then (((gt ends (Int.toNat i)).Kind) == 1) else false) = true then ((ref36_Test n c ((gt ends (Int.toNat i)).Code)).getD default) else false) then
      some (.inr (.inl true))
    else
      gd (((c.Step != []) = true → (0 ≤ i ∧ i < (names.length : Int)))) <|
      bif (if (c.Step != []) = true then ((gt names (Int.toNat i)) == c.Step) else false) then
        gd ((0 ≤ i ∧ i < (ends.length : Int)) ∧ ((((gt ends (Int.toNat i)).Kind) == 1) = true → (0 ≤ i ∧ i < (ends.length : Int))) ∧ ((((gt ends (Int.toNat i)).Kind) == 1) = true → (ref36_Test n c ((gt ends (Int.toNat i)).Code)).isSome = true)) <|
        some (.inr (.inl (if (((gt ends (Int.toNat i)).Kind) == 1) = true then ((ref36_Test n c ((gt ends (Int.toNat i)).Code)).getD default) else false)))
      else
        some (.inl (IntKind.wrap .i64 (i - 1)))
  else
    some (.inr (.inr ()))

def ref36_holds (n : Nat) (c : TCond) (names : List (List UInt8)) (ends : List TStepEnd) : Option Bool :=
  (loopF (fun (x : Int) => ref36_holds_b2 n names ends c x) n (IntKind.wrap .i64 ((ends.length : Int) - 1))).bind fun y4 =>
  match y4 with
  | .inl v =>
    some v
  | .inr v =>
    ref36_holds_k1 n

def xref36_holds (n : Nat) : Go.AE.Fn := mkFn (A := TCond × (List (List UInt8)) × (List TStepEnd)) (R := Bool) 24 [(true, [.int .i64, .int .i64, .str]), (false, [.slice 9]), (false, [.slice 24])] false (fun xs => ((⟨(cg (xs.getD 0 []) 0).toInt, (cg (xs.getD 0 []) 1).toInt, (cg (xs.getD 0 []) 2).toStr⟩ : TCond), ((cg (xs.getD 1 []) 0).toSl.map d_Str), ((cg (xs.getD 2 []) 0).toSl.map d_TStepEnd))) (fun a => [[.int a.1.Code, .int a.1.Op, .str a.1.Step], [.slice (List.map e_Str a.2.1)], [.slice (List.map e_TStepEnd a.2.2)]]) (fun a => ref36_holds n a.1 a.2.1 a.2.2) (fun r => [.c .bool (.bool r)]) (fun r => [])

theorem cref36_holds (n : Nat) : Contract Try.prog (xref36_holds n) := by
  have hΓ : ∀ g, g ∈ ([xref36_Test n] : List Go.AE.Fn) → Contract Try.prog g := by
    intro g hg; simp only [List.mem_cons, List.not_mem_nil, or_false] at hg; subst hg; exact cref36_Test n
  refine contract_f (Try.f24.body.getD .skip) h00 Try.func24 rfl (by intro args w; exact Try.call24 args w) (by decide) (by intro _ r; exact ⟨rfl, by simp⟩) ?_
  rintro ⟨c, names, ends⟩ r H
  try dsimp only at H
  unfold ref36_holds at H
  simp only [Try.f24, Option.getD]
  refine Sm.seqK fun K1 hK1 => ?_
  refine Sm.regA (Γ := [xref36_Test n]) h00 mixed hΓ (by kernel_rfl) ?_
  simp only [rs]
  repeat (refine opsG fun K hK => ?_; simp (maxSteps := 2000000) only [ev, ew, tys, tl, ↓reduceIte, reduceCtorEq, Nat.reduceAdd, Nat.reduceMul, Nat.reduceSub, Nat.reduceEqDiff, Nat.reduceLeDiff, Nat.reduceLT, Int.reduceToNat, xref36_Test, ref36_holds_s1, ref36_holds_t2, Option.isSome_some, Option.getD_some]; (repeat (first | refine ⟨by first | with_reducible assumption | omega | (intro hh; (repeat refine ⟨hh, ?_⟩); revert hh; with_reducible assumption), ?_⟩ | refine fun (_ : _ ≤ _) => ?_)); refine hK _ ?_; clear hK K)
  refine opsG0 ?_
  refine hK1 _ ?_
  refine Sm.cut (fun (x : Unit) => ref36_holds_s1) (fun x => ref36_holds_k1 n = some r) ?_ ?_
  · refine Sm.seqK fun K3 hK3 => ?_
    refine Sm.regA (Γ := [xref36_Test n]) h00 mixed hΓ (by kernel_rfl) ?_
    simp only [rs]
    repeat (refine opsG fun K hK => ?_; simp (maxSteps := 2000000) only [ev, ew, tys, tl, ↓reduceIte, reduceCtorEq, Nat.reduceAdd, Nat.reduceMul, Nat.reduceSub, Nat.reduceEqDiff, Nat.reduceLeDiff, Nat.reduceLT, Int.reduceToNat, xref36_Test, ref36_holds_s1, ref36_holds_t2, Option.isSome_some, Option.getD_some]; (repeat (first | refine ⟨by first | with_reducible assumption | omega | (intro hh; (repeat refine ⟨hh, ?_⟩); revert hh; with_reducible assumption), ?_⟩ | refine fun (_ : _ ≤ _) => ?_)); refine hK _ ?_; clear hK K)
    refine opsG0 ?_
    refine hK3 _ ?_
    refine Sm.block ?_
    obtain ⟨y4, hy4, Ho4⟩ := bind_some H
    refine Sm.loopB (fun (x : Int) => ref36_holds_b2 n names ends c x) (fun x => ref36_holds_t2 names ends c x) hy4 ?_ ?_
    · exact weak_b [some 48] rfl rfl (by simp only [wk, ev, ew, tys, tl, ↓reduceIte, reduceCtorEq, Nat.reduceAdd, Nat.reduceMul, Nat.reduceSub, Nat.reduceEqDiff, Nat.reduceLeDiff, Nat.reduceLT, Int.reduceToNat, ref36_holds_s1, ref36_holds_t2]) (by simp only [wk, ev, ew, tys, tl, ↓reduceIte, reduceCtorEq, Nat.reduceAdd, Nat.reduceMul, Nat.reduceSub, Nat.reduceEqDiff, Nat.reduceLeDiff, Nat.reduceLT, Int.reduceToNat, ref36_holds_s1, ref36_holds_t2])
    · rintro i z4 H
      try dsimp only at H
      unfold ref36_holds_b2 at H
      refine Sm.seqK fun K5 hK5 => ?_
      refine Sm.seqK fun K6 hK6 => ?_
      refine Sm.regA (Γ := [xref36_Test n]) h00 mixed hΓ (by kernel_rfl) ?_
      simp only [rs]
      repeat (refine opsG fun K hK => ?_; simp (maxSteps := 2000000) only [ev, ew, tys, tl, ↓reduceIte, reduceCtorEq, Nat.reduceAdd, Nat.reduceMul, Nat.reduceSub, Nat.reduceEqDiff, Nat.reduceLeDiff, Nat.reduceLT, Int.reduceToNat, xref36_Test, ref36_holds_s1, ref36_holds_t2, Option.isSome_some, Option.getD_some]; (repeat (first | refine ⟨by first | with_reducible assumption | omega | (intro hh; (repeat refine ⟨hh, ?_⟩); revert hh; with_reducible assumption), ?_⟩ | refine fun (_ : _ ≤ _) => ?_)); refine hK _ ?_; clear hK K)
      refine opsG0 ?_
      refine hK6 _ ?_
      refine Sm.condK (by rfl) fun Ka Kb ha hb => ?_
      simp only [wpCond, ev, ew, tys, tl, ↓reduceIte, reduceCtorEq, Nat.reduceAdd, Nat.reduceMul, Nat.reduceSub, Nat.reduceEqDiff, Nat.reduceLeDiff, Nat.reduceLT, Int.reduceToNat, xref36_Test, ref36_holds_s1, ref36_holds_t2, Option.isSome_some, Option.getD_some]
      refine ⟨fun h7 => ha ?_, fun h7 => hb ?_⟩
      · replace H := bif_t h7 H
        refine Sm.skip ?_
        refine hK5 _ ?_
        refine Sm.seqK fun K8 hK8 => ?_
        refine Sm.block ?_
        refine Sm.seqK fun K9 hK9 => ?_
        refine Sm.seqK fun K10 hK10 => ?_
        obtain ⟨⟨hg20, hg21, hg22⟩, H⟩ := gd_some H
        refine Sm.regD (Γ := [xref36_Test n]) h00 mixed hΓ (by kernel_rfl) ?_
        simp only [rs]
        repeat (refine opsH fun K hK => ?_; simp (maxSteps := 2000000) only [ev, ew, tys, tl, ↓reduceIte, reduceCtorEq, Nat.reduceAdd, Nat.reduceMul, Nat.reduceSub, Nat.reduceEqDiff, Nat.reduceLeDiff, Nat.reduceLT, Int.reduceToNat, xref36_Test, ref36_holds_s1, ref36_holds_t2, Option.isSome_some, Option.getD_some]; (repeat (first | refine ⟨by first | with_reducible assumption | omega | (intro hh; (repeat refine ⟨hh, ?_⟩); revert hh; with_reducible assumption), ?_⟩ | refine fun (_ : _ ≤ _) => ?_)); refine hK _ ?_; clear hK K)
        refine opsH0 ?_
        refine hK10 _ ?_
        refine Sm.condK (by rfl) fun Ka Kb ha hb => ?_
        simp only [wpCond, ev, ew, tys, tl, ↓reduceIte, reduceCtorEq, Nat.reduceAdd, Nat.reduceMul, Nat.reduceSub, Nat.reduceEqDiff, Nat.reduceLeDiff, Nat.reduceLT, Int.reduceToNat, xref36_Test, ref36_holds_s1, ref36_holds_t2, Option.isSome_some, Option.getD_some]
        refine ⟨fun h11 => ha ?_, fun h11 => hb ?_⟩
        · replace H := bif_t h11 H
          refine Sm.seqK fun K12 hK12 => ?_
          refine Sm.regA (Γ := [xref36_Test n]) h00 mixed hΓ (by kernel_rfl) ?_
          simp only [rs]
          repeat (refine opsG fun K hK => ?_; simp (maxSteps := 2000000) only [ev, ew, tys, tl, ↓reduceIte, reduceCtorEq, Nat.reduceAdd, Nat.reduceMul, Nat.reduceSub, Nat.reduceEqDiff, Nat.reduceLeDiff, Nat.reduceLT, Int.reduceToNat, xref36_Test, ref36_holds_s1, ref36_holds_t2, Option.isSome_some, Option.getD_some]; (repeat (first | refine ⟨by first | with_reducible assumption | omega | (intro hh; (repeat refine ⟨hh, ?_⟩); revert hh; with_reducible assumption), ?_⟩ | refine fun (_ : _ ≤ _) => ?_)); refine hK _ ?_; clear hK K)
          refine opsG0 ?_
          refine hK12 _ ?_
          refine Sm.ret ?_
          try simp only [↓reduceIte, reduceCtorEq, Exit.exit.injEq]
          refine ⟨⟨_, (Option.some.inj H).symm⟩, fun hz => ?_⟩
          have hyy := Sum.inr.inj ((Option.some.inj H).trans hz)
          subst hyy
          have H := Ho4
          try dsimp only at H
          try simp only [↓reduceIte, reduceCtorEq, Exit.exit.injEq]
          obtain rfl := Option.some.inj H
          refine Ret.ofR [] (.inr rfl) ?_
          simp (maxSteps := 2000000) only [ev, ew, tys, tl, ↓reduceIte, reduceCtorEq, Nat.reduceAdd, Nat.reduceMul, Nat.reduceSub, Nat.reduceEqDiff, Nat.reduceLeDiff, Nat.reduceLT, Int.reduceToNat, xref36_Test, ref36_holds_s1, ref36_holds_t2, Option.isSome_some, Option.getD_some]
          done
        · replace H := bif_f h11 H
          refine Sm.skip ?_
          refine hK9 _ ?_
          refine Sm.seqK fun K13 hK13 => ?_
          obtain ⟨hg19, H⟩ := gd_some H
          refine Sm.regD (Γ := [xref36_Test n]) h00 mixed hΓ (by kernel_rfl) ?_
          simp only [rs]
          repeat (refine opsH fun K hK => ?_; simp (maxSteps := 2000000) only [ev, ew, tys, tl, ↓reduceIte, reduceCtorEq, Nat.reduceAdd, Nat.reduceMul, Nat.reduceSub, Nat.reduceEqDiff, Nat.reduceLeDiff, Nat.reduceLT, Int.reduceToNat, xref36_Test, ref36_holds_s1, ref36_holds_t2, Option.isSome_some, Option.getD_some]; (repeat (first | refine ⟨by first | with_reducible assumption | omega | (intro hh; (repeat refine ⟨hh, ?_⟩); revert hh; with_reducible assumption), ?_⟩ | refine fun (_ : _ ≤ _) => ?_)); refine hK _ ?_; clear hK K)
          refine opsH0 ?_
          refine hK13 _ ?_
          refine Sm.condK (by rfl) fun Ka Kb ha hb => ?_
          simp only [wpCond, ev, ew, tys, tl, ↓reduceIte, reduceCtorEq, Nat.reduceAdd, Nat.reduceMul, Nat.reduceSub, Nat.reduceEqDiff, Nat.reduceLeDiff, Nat.reduceLT, Int.reduceToNat, xref36_Test, ref36_holds_s1, ref36_holds_t2, Option.isSome_some, Option.getD_some]
          refine ⟨fun h14 => ha ?_, fun h14 => hb ?_⟩
          · replace H := bif_t h14 H
            refine Sm.seqK fun K15 hK15 => ?_
            obtain ⟨⟨hg16, hg17, hg18⟩, H⟩ := gd_some H
            refine Sm.regD (Γ := [xref36_Test n]) h00 mixed hΓ (by kernel_rfl) ?_
            simp only [rs]
            repeat (refine opsH fun K hK => ?_; simp (maxSteps := 2000000) only [ev, ew, tys, tl, ↓reduceIte, reduceCtorEq, Nat.reduceAdd, Nat.reduceMul, Nat.reduceSub, Nat.reduceEqDiff, Nat.reduceLeDiff, Nat.reduceLT, Int.reduceToNat, xref36_Test, ref36_holds_s1, ref36_holds_t2, Option.isSome_some, Option.getD_some]; (repeat (first | refine ⟨by first | with_reducible assumption | omega | (intro hh; (repeat refine ⟨hh, ?_⟩); revert hh; with_reducible assumption), ?_⟩ | refine fun (_ : _ ≤ _) => ?_)); refine hK _ ?_; clear hK K)
            refine opsH0 ?_
            refine hK15 _ ?_
            refine Sm.ret ?_
            try simp only [↓reduceIte, reduceCtorEq, Exit.exit.injEq]
            refine ⟨⟨_, (Option.some.inj H).symm⟩, fun hz => ?_⟩
            have hyy := Sum.inr.inj ((Option.some.inj H).trans hz)
            subst hyy
            have H := Ho4
            try dsimp only at H
            try simp only [↓reduceIte, reduceCtorEq, Exit.exit.injEq]
            obtain rfl := Option.some.inj H
            refine Ret.ofR [] (.inr rfl) ?_
            simp (maxSteps := 2000000) only [ev, ew, tys, tl, ↓reduceIte, reduceCtorEq, Nat.reduceAdd, Nat.reduceMul, Nat.reduceSub, Nat.reduceEqDiff, Nat.reduceLeDiff, Nat.reduceLT, Int.reduceToNat, xref36_Test, ref36_holds_s1, ref36_holds_t2, Option.isSome_some, Option.getD_some]
            done
          · replace H := bif_f h14 H
            refine Sm.skip ?_
            refine hK8 _ ?_
            refine Sm.regA (Γ := [xref36_Test n]) h00 mixed hΓ (by kernel_rfl) ?_
            simp only [rs]
            repeat (refine opsG fun K hK => ?_; simp (maxSteps := 2000000) only [ev, ew, tys, tl, ↓reduceIte, reduceCtorEq, Nat.reduceAdd, Nat.reduceMul, Nat.reduceSub, Nat.reduceEqDiff, Nat.reduceLeDiff, Nat.reduceLT, Int.reduceToNat, xref36_Test, ref36_holds_s1, ref36_holds_t2, Option.isSome_some, Option.getD_some]; (repeat (first | refine ⟨by first | with_reducible assumption | omega | (intro hh; (repeat refine ⟨hh, ?_⟩); revert hh; with_reducible assumption), ?_⟩ | refine fun (_ : _ ≤ _) => ?_)); refine hK _ ?_; clear hK K)
            refine opsG0 ?_
            try simp only [↓reduceIte, reduceCtorEq, Exit.exit.injEq]
            refine ⟨_, (Option.some.inj H).symm, ?_⟩
            exact weak_b [some 9000] rfl rfl (by simp only [wk, ev, ew, tys, tl, ↓reduceIte, reduceCtorEq, Nat.reduceAdd, Nat.reduceMul, Nat.reduceSub, Nat.reduceEqDiff, Nat.reduceLeDiff, Nat.reduceLT, Int.reduceToNat, ref36_holds_s1, ref36_holds_t2]) (by simp only [wk, ev, ew, tys, tl, ↓reduceIte, reduceCtorEq, Nat.reduceAdd, Nat.reduceMul, Nat.reduceSub, Nat.reduceEqDiff, Nat.reduceLeDiff, Nat.reduceLT, Int.reduceToNat, ref36_holds_s1, ref36_holds_t2])
      · replace H := bif_f h7 H
        refine Sm.exit ?_
        try simp only [↓reduceIte, reduceCtorEq, Exit.exit.injEq]
        refine ⟨⟨_, (Option.some.inj H).symm⟩, fun hz => ?_⟩
        have hyy := Sum.inr.inj ((Option.some.inj H).trans hz)
        subst hyy
        have H := Ho4
        try dsimp only at H
        try simp only [↓reduceIte, reduceCtorEq, Exit.exit.injEq]
        refine ⟨(), H, ?_⟩
        exact weak_b [] rfl rfl (by simp only [wk, ev, ew, tys, tl, ↓reduceIte, reduceCtorEq, Nat.reduceAdd, Nat.reduceMul, Nat.reduceSub, Nat.reduceEqDiff, Nat.reduceLeDiff, Nat.reduceLT, Int.reduceToNat, ref36_holds_s1, ref36_holds_t2]) (by simp only [wk, ev, ew, tys, tl, ↓reduceIte, reduceCtorEq, Nat.reduceAdd, Nat.reduceMul, Nat.reduceSub, Nat.reduceEqDiff, Nat.reduceLeDiff, Nat.reduceLT, Int.reduceToNat, ref36_holds_s1, ref36_holds_t2])
  · rintro ⟨⟩ H
    try dsimp only at H
    unfold ref36_holds_k1 at H
    refine Sm.seqK fun K2 hK2 => ?_
    refine Sm.regA (Γ := [xref36_Test n]) h00 mixed hΓ (by kernel_rfl) ?_
    simp only [rs]
    repeat (refine opsG fun K hK => ?_; simp (maxSteps := 2000000) only [ev, ew, tys, tl, ↓reduceIte, reduceCtorEq, Nat.reduceAdd, Nat.reduceMul, Nat.reduceSub, Nat.reduceEqDiff, Nat.reduceLeDiff, Nat.reduceLT, Int.reduceToNat, xref36_Test, ref36_holds_s1, ref36_holds_t2, Option.isSome_some, Option.getD_some]; (repeat (first | refine ⟨by first | with_reducible assumption | omega | (intro hh; (repeat refine ⟨hh, ?_⟩); revert hh; with_reducible assumption), ?_⟩ | refine fun (_ : _ ≤ _) => ?_)); refine hK _ ?_; clear hK K)
    refine opsG0 ?_
    refine hK2 _ ?_
    refine Sm.ret ?_
    try simp only [↓reduceIte, reduceCtorEq, Exit.exit.injEq]
    obtain rfl := Option.some.inj H
    refine Ret.ofR [] (.inr rfl) ?_
    simp (maxSteps := 2000000) only [ev, ew, tys, tl, ↓reduceIte, reduceCtorEq, Nat.reduceAdd, Nat.reduceMul, Nat.reduceSub, Nat.reduceEqDiff, Nat.reduceLeDiff, Nat.reduceLT, Int.reduceToNat, xref36_Test, ref36_holds_s1, ref36_holds_t2, Option.isSome_some, Option.getD_some]
    done

abbrev ref36_Skip_s2 : S := stB [] []

def ref36_Skip_k2 (n : Nat) : Option Bool :=
  some false

abbrev ref36_Skip_t3 (names_1 : List (List UInt8)) (ends_1 : List TStepEnd) (s : TJobStep) (i : Int) : S := stB [(1, .c (.slice 9) (.slice (List.map e_Str names_1))), (2, .c (.slice 24) (.slice (List.map e_TStepEnd ends_1))), (3, .box 9002 0), (11, .c (.int .i64) (.int i))] [(9002, .box [.c .str (.str s.Name), .c .str (.str s.Pgm), .c .str (.str s.Parm), .c (.slice 27) (.slice (List.map e_TCond s.Conds)), .c .bool (.bool s.Even), .c .bool (.bool s.Only), .c (.int .i64) (.int s.Time), .c (.slice 39) (.slice (List.map e_TDD s.DDs))])]

def ref36_Skip_b3 (n : Nat) (names_1 : List (List UInt8)) (ends_1 : List TStepEnd) (s : TJobStep) (i : Int) : Option ((Int) ⊕ (((Bool) ⊕ (Unit)))) :=
  bif (decide (i < (s.Conds.length : Int))) then
    gd ((0 ≤ i ∧ i < (s.Conds.length : Int))) <|
    (ref36_holds n (gt s.Conds (Int.toNat i)) names_1 ends_1).bind fun r1 =>
    bif r1 then
      some (.inr (.inl true))
    else
      some (.inl (IntKind.wrap .i64 (i + 1)))
  else
    some (.inr (.inr ()))

abbrev ref36_Skip_s1 (names_1 : List (List UInt8)) (ends_1 : List TStepEnd) (s : TJobStep) (abend : Bool) (bad : Bool) : S := stB [(1, .c (.slice 9) (.slice (List.map e_Str names_1))), (2, .c (.slice 24) (.slice (List.map e_TStepEnd ends_1))), (3, .box 9000 0), (8, .c .bool (.bool abend)), (9, .c .bool (.bool bad))] [(9000, .box [.c .str (.str s.Name), .c .str (.str s.Pgm), .c .str (.str s.Parm), .c (.slice 27) (.slice (List.map e_TCond s.Conds)), .c .bool (.bool s.Even), .c .bool (.bool s.Only), .c (.int .i64) (.int s.Time), .c (.slice 39) (.slice (List.map e_TDD s.DDs))])]

def ref36_Skip_k1 (n : Nat) (names_1 : List (List UInt8)) (ends_1 : List TStepEnd) (s : TJobStep) (abend : Bool) (bad : Bool) : Option Bool :=
  bif (if (if bad = true then true else (if (if abend = true then (!s.Even) else false) = true then (!s.Only) else false)) = true then true else (if (!abend) = true then s.Only else false)) then
    some true
  else
    (loopF (fun (x : Int) => ref36_Skip_b3 n names_1 ends_1 s x) n 0).bind fun y11 =>
    match y11 with
    | .inl v =>
      some v
    | .inr v =>
      ref36_Skip_k2 n

abbrev ref36_Skip_t4 (names_1 : List (List UInt8)) (ends_1 : List TStepEnd) (s : TJobStep) (n_ : Int) (abend : Bool) (bad : Bool) (i_1 : Int) : S := stB [(1, .c (.slice 9) (.slice (List.map e_Str names_1))), (2, .c (.slice 24) (.slice (List.map e_TStepEnd ends_1))), (3, .box 9004 0), (7, .c (.int .i64) (.int n_)), (8, .c .bool (.bool abend)), (9, .c .bool (.bool bad)), (10, .c (.int .i64) (.int i_1))] [(9004, .box [.c .str (.str s.Name), .c .str (.str s.Pgm), .c .str (.str s.Parm), .c (.slice 27) (.slice (List.map e_TCond s.Conds)), .c .bool (.bool s.Even), .c .bool (.bool s.Only), .c (.int .i64) (.int s.Time), .c (.slice 39) (.slice (List.map e_TDD s.DDs))])]

def ref36_Skip_b4 (n : Nat) (names_1 : List (List UInt8)) (ends_1 : List TStepEnd) (s : TJobStep) (n_ : Int) (abend : Bool) (bad : Bool) (i_1 : Int) : Option ((Bool × Bool × Int) ⊕ ((Bool × Bool))) :=
  bif (decide (i_1 < n_)) then
    gd (((!abend) = true → (0 ≤ i_1 ∧ i_1 < (ends_1.length : Int)))) <|
    gd (((!bad) = true → (0 ≤ i_1 ∧ i_1 < (ends_1.length : Int)))) <|
    some (.inl ((if abend = true then true else (((gt ends_1 (Int.toNat i_1)).Kind) == 2)), (if bad = true then true else (((gt ends_1 (Int.toNat i_1)).Kind) == 4)), (IntKind.wrap .i64 (i_1 + 1))))
  else
    some (.inr (abend, bad))

def ref36_Skip (n : Nat) (s : TJobStep) (names : List (List UInt8)) (ends : List TStepEnd) : Option Bool :=
  gd ((0 ≤ 0 ∧ 0 ≤ (if (ends.length : Int) < (names.length : Int) then (ends.length : Int) else (names.length : Int)) ∧ (if (ends.length : Int) < (names.length : Int) then (ends.length : Int) else (names.length : Int)) ≤ (names.length : Int)) ∧ (0 ≤ 0 ∧ 0 ≤ (if (ends.length : Int) < (names.length : Int) then (ends.length : Int) else (names.length : Int)) ∧ (if (ends.length : Int) < (names.length : Int) then (ends.length : Int) else (names.length : Int)) ≤ (ends.length : Int))) <|
  (loopF (fun (x : Bool × Bool × Int) => ref36_Skip_b4 n (List.take (Int.toNat (if (ends.length : Int) < (names.length : Int) then (ends.length : Int) else (names.length : Int))) names) (List.take (Int.toNat (if (ends.length : Int) < (names.length : Int) then (ends.length : Int) else (names.length : Int))) ends) s (if (ends.length : Int) < (names.length : Int) then (ends.length : Int) else (names.length : Int)) x.1 x.2.1 x.2.2) n (false, false, 0)).bind fun y21 =>
  ref36_Skip_k1 n (List.take (Int.toNat (if (ends.length : Int) < (names.length : Int) then (ends.length : Int) else (names.length : Int))) names) (List.take (Int.toNat (if (ends.length : Int) < (names.length : Int) then (ends.length : Int) else (names.length : Int))) ends) s y21.1 y21.2

def xref36_Skip (n : Nat) : Go.AE.Fn := mkFn (A := TJobStep × (List (List UInt8)) × (List TStepEnd)) (R := Bool) 15 [(true, [.str, .str, .str, .slice 27, .bool, .bool, .int .i64, .slice 39]), (false, [.slice 9]), (false, [.slice 24])] false (fun xs => ((⟨(cg (xs.getD 0 []) 0).toStr, (cg (xs.getD 0 []) 1).toStr, (cg (xs.getD 0 []) 2).toStr, ((cg (xs.getD 0 []) 3).toSl.map d_TCond), (cg (xs.getD 0 []) 4).toBool, (cg (xs.getD 0 []) 5).toBool, (cg (xs.getD 0 []) 6).toInt, ((cg (xs.getD 0 []) 7).toSl.map d_TDD)⟩ : TJobStep), ((cg (xs.getD 1 []) 0).toSl.map d_Str), ((cg (xs.getD 2 []) 0).toSl.map d_TStepEnd))) (fun a => [[.str a.1.Name, .str a.1.Pgm, .str a.1.Parm, .slice (List.map e_TCond a.1.Conds), .bool a.1.Even, .bool a.1.Only, .int a.1.Time, .slice (List.map e_TDD a.1.DDs)], [.slice (List.map e_Str a.2.1)], [.slice (List.map e_TStepEnd a.2.2)]]) (fun a => ref36_Skip n a.1 a.2.1 a.2.2) (fun r => [.c .bool (.bool r)]) (fun r => [])

theorem cref36_Skip (n : Nat) : Contract Try.prog (xref36_Skip n) := by
  have hΓ : ∀ g, g ∈ ([xref36_holds n] : List Go.AE.Fn) → Contract Try.prog g := by
    intro g hg; simp only [List.mem_cons, List.not_mem_nil, or_false] at hg; subst hg; exact cref36_holds n
  refine contract_f (Try.f15.body.getD .skip) h00 Try.func15 rfl (by intro args w; exact Try.call15 args w) (by decide) (by intro _ r; exact ⟨rfl, by simp⟩) ?_
  rintro ⟨s, names, ends⟩ r H
  try dsimp only at H
  unfold ref36_Skip at H
  simp only [Try.f15, Option.getD]
  refine Sm.seqK fun K1 hK1 => ?_
  refine Sm.regA (Γ := [xref36_holds n]) h00 mixed hΓ (by kernel_rfl) ?_
  simp only [rs]
  repeat (refine opsG fun K hK => ?_; simp (maxSteps := 2000000) only [ev, ew, tys, tl, ↓reduceIte, reduceCtorEq, Nat.reduceAdd, Nat.reduceMul, Nat.reduceSub, Nat.reduceEqDiff, Nat.reduceLeDiff, Nat.reduceLT, Int.reduceToNat, xref36_holds, ref36_Skip_s2, ref36_Skip_t3, ref36_Skip_s1, ref36_Skip_t4, Option.isSome_some, Option.getD_some]; (repeat (first | refine ⟨by first | with_reducible assumption | omega | (intro hh; (repeat refine ⟨hh, ?_⟩); revert hh; with_reducible assumption), ?_⟩ | refine fun (_ : _ ≤ _) => ?_)); refine hK _ ?_; clear hK K)
  refine opsG0 ?_
  refine hK1 _ ?_
  refine Sm.seqK fun K2 hK2 => ?_
  refine Sm.regA (Γ := [xref36_holds n]) h00 mixed hΓ (by kernel_rfl) ?_
  simp only [rs]
  repeat (refine opsG fun K hK => ?_; simp (maxSteps := 2000000) only [ev, ew, tys, tl, ↓reduceIte, reduceCtorEq, Nat.reduceAdd, Nat.reduceMul, Nat.reduceSub, Nat.reduceEqDiff, Nat.reduceLeDiff, Nat.reduceLT, Int.reduceToNat, xref36_holds, ref36_Skip_s2, ref36_Skip_t3, ref36_Skip_s1, ref36_Skip_t4, Option.isSome_some, Option.getD_some]; (repeat (first | refine ⟨by first | with_reducible assumption | omega | (intro hh; (repeat refine ⟨hh, ?_⟩); revert hh; with_reducible assumption), ?_⟩ | refine fun (_ : _ ≤ _) => ?_)); refine hK _ ?_; clear hK K)
  refine opsG0 ?_
  refine hK2 _ ?_
  refine Sm.seqK fun K3 hK3 => ?_
  obtain ⟨⟨hg29, hg30⟩, H⟩ := gd_some H
  refine Sm.regD (Γ := [xref36_holds n]) h00 mixed hΓ (by kernel_rfl) ?_
  simp only [rs]
  repeat (refine opsH fun K hK => ?_; simp (maxSteps := 2000000) only [ev, ew, tys, tl, ↓reduceIte, reduceCtorEq, Nat.reduceAdd, Nat.reduceMul, Nat.reduceSub, Nat.reduceEqDiff, Nat.reduceLeDiff, Nat.reduceLT, Int.reduceToNat, xref36_holds, ref36_Skip_s2, ref36_Skip_t3, ref36_Skip_s1, ref36_Skip_t4, Option.isSome_some, Option.getD_some]; (repeat (first | refine ⟨by first | with_reducible assumption | omega | (intro hh; (repeat refine ⟨hh, ?_⟩); revert hh; with_reducible assumption), ?_⟩ | refine fun (_ : _ ≤ _) => ?_)); refine hK _ ?_; clear hK K)
  refine opsH0 ?_
  refine hK3 _ ?_
  refine Sm.seqK fun K4 hK4 => ?_
  refine Sm.regA (Γ := [xref36_holds n]) h00 mixed hΓ (by kernel_rfl) ?_
  simp only [rs]
  repeat (refine opsG fun K hK => ?_; simp (maxSteps := 2000000) only [ev, ew, tys, tl, ↓reduceIte, reduceCtorEq, Nat.reduceAdd, Nat.reduceMul, Nat.reduceSub, Nat.reduceEqDiff, Nat.reduceLeDiff, Nat.reduceLT, Int.reduceToNat, xref36_holds, ref36_Skip_s2, ref36_Skip_t3, ref36_Skip_s1, ref36_Skip_t4, Option.isSome_some, Option.getD_some]; (repeat (first | refine ⟨by first | with_reducible assumption | omega | (intro hh; (repeat refine ⟨hh, ?_⟩); revert hh; with_reducible assumption), ?_⟩ | refine fun (_ : _ ≤ _) => ?_)); refine hK _ ?_; clear hK K)
  refine opsG0 ?_
  refine hK4 _ ?_
  refine Sm.cut (fun (x : (List (List UInt8)) × (List TStepEnd) × Bool × Bool) => ref36_Skip_s1 x.1 x.2.1 s x.2.2.1 x.2.2.2) (fun x => ref36_Skip_k1 n x.1 x.2.1 s x.2.2.1 x.2.2.2 = some r) ?_ ?_
  · refine Sm.seqK fun K20 hK20 => ?_
    refine Sm.regA (Γ := [xref36_holds n]) h00 mixed hΓ (by kernel_rfl) ?_
    simp only [rs]
    repeat (refine opsG fun K hK => ?_; simp (maxSteps := 2000000) only [ev, ew, tys, tl, ↓reduceIte, reduceCtorEq, Nat.reduceAdd, Nat.reduceMul, Nat.reduceSub, Nat.reduceEqDiff, Nat.reduceLeDiff, Nat.reduceLT, Int.reduceToNat, xref36_holds, ref36_Skip_s2, ref36_Skip_t3, ref36_Skip_s1, ref36_Skip_t4, Option.isSome_some, Option.getD_some]; (repeat (first | refine ⟨by first | with_reducible assumption | omega | (intro hh; (repeat refine ⟨hh, ?_⟩); revert hh; with_reducible assumption), ?_⟩ | refine fun (_ : _ ≤ _) => ?_)); refine hK _ ?_; clear hK K)
    refine opsG0 ?_
    refine hK20 _ ?_
    refine Sm.block ?_
    obtain ⟨y21, hy21, Ho21⟩ := bind_some H
    refine Sm.loopB (fun (x : Bool × Bool × Int) => ref36_Skip_b4 n (List.take (Int.toNat (if (ends.length : Int) < (names.length : Int) then (ends.length : Int) else (names.length : Int))) names) (List.take (Int.toNat (if (ends.length : Int) < (names.length : Int) then (ends.length : Int) else (names.length : Int))) ends) s (if (ends.length : Int) < (names.length : Int) then (ends.length : Int) else (names.length : Int)) x.1 x.2.1 x.2.2) (fun x => ref36_Skip_t4 (List.take (Int.toNat (if (ends.length : Int) < (names.length : Int) then (ends.length : Int) else (names.length : Int))) names) (List.take (Int.toNat (if (ends.length : Int) < (names.length : Int) then (ends.length : Int) else (names.length : Int))) ends) s (if (ends.length : Int) < (names.length : Int) then (ends.length : Int) else (names.length : Int)) x.1 x.2.1 x.2.2) hy21 ?_ ?_
    · exact weak_b [some 48] rfl rfl (by simp only [wk, ev, ew, tys, tl, ↓reduceIte, reduceCtorEq, Nat.reduceAdd, Nat.reduceMul, Nat.reduceSub, Nat.reduceEqDiff, Nat.reduceLeDiff, Nat.reduceLT, Int.reduceToNat, ref36_Skip_s2, ref36_Skip_t3, ref36_Skip_s1, ref36_Skip_t4]) (by simp only [wk, ev, ew, tys, tl, ↓reduceIte, reduceCtorEq, Nat.reduceAdd, Nat.reduceMul, Nat.reduceSub, Nat.reduceEqDiff, Nat.reduceLeDiff, Nat.reduceLT, Int.reduceToNat, ref36_Skip_s2, ref36_Skip_t3, ref36_Skip_s1, ref36_Skip_t4])
    · rintro ⟨abend, bad, i_1⟩ z21 H
      try dsimp only at H
      unfold ref36_Skip_b4 at H
      refine Sm.seqK fun K22 hK22 => ?_
      refine Sm.seqK fun K23 hK23 => ?_
      refine Sm.regA (Γ := [xref36_holds n]) h00 mixed hΓ (by kernel_rfl) ?_
      simp only [rs]
      repeat (refine opsG fun K hK => ?_; simp (maxSteps := 2000000) only [ev, ew, tys, tl, ↓reduceIte, reduceCtorEq, Nat.reduceAdd, Nat.reduceMul, Nat.reduceSub, Nat.reduceEqDiff, Nat.reduceLeDiff, Nat.reduceLT, Int.reduceToNat, xref36_holds, ref36_Skip_s2, ref36_Skip_t3, ref36_Skip_s1, ref36_Skip_t4, Option.isSome_some, Option.getD_some]; (repeat (first | refine ⟨by first | with_reducible assumption | omega | (intro hh; (repeat refine ⟨hh, ?_⟩); revert hh; with_reducible assumption), ?_⟩ | refine fun (_ : _ ≤ _) => ?_)); refine hK _ ?_; clear hK K)
      refine opsG0 ?_
      refine hK23 _ ?_
      refine Sm.condK (by rfl) fun Ka Kb ha hb => ?_
      simp only [wpCond, ev, ew, tys, tl, ↓reduceIte, reduceCtorEq, Nat.reduceAdd, Nat.reduceMul, Nat.reduceSub, Nat.reduceEqDiff, Nat.reduceLeDiff, Nat.reduceLT, Int.reduceToNat, xref36_holds, ref36_Skip_s2, ref36_Skip_t3, ref36_Skip_s1, ref36_Skip_t4, Option.isSome_some, Option.getD_some]
      refine ⟨fun h24 => ha ?_, fun h24 => hb ?_⟩
      · replace H := bif_t h24 H
        refine Sm.skip ?_
        refine hK22 _ ?_
        refine Sm.seqK fun K25 hK25 => ?_
        refine Sm.block ?_
        refine Sm.seqK fun K26 hK26 => ?_
        obtain ⟨hg28, H⟩ := gd_some H
        refine Sm.regA (Γ := [xref36_holds n]) h00 mixed hΓ (by kernel_rfl) ?_
        simp only [rs]
        repeat (refine opsG fun K hK => ?_; simp (maxSteps := 2000000) only [ev, ew, tys, tl, ↓reduceIte, reduceCtorEq, Nat.reduceAdd, Nat.reduceMul, Nat.reduceSub, Nat.reduceEqDiff, Nat.reduceLeDiff, Nat.reduceLT, Int.reduceToNat, xref36_holds, ref36_Skip_s2, ref36_Skip_t3, ref36_Skip_s1, ref36_Skip_t4, Option.isSome_some, Option.getD_some]; (repeat (first | refine ⟨by first | with_reducible assumption | omega | (intro hh; (repeat refine ⟨hh, ?_⟩); revert hh; with_reducible assumption), ?_⟩ | refine fun (_ : _ ≤ _) => ?_)); refine hK _ ?_; clear hK K)
        refine opsG0 ?_
        refine hK26 _ ?_
        obtain ⟨hg27, H⟩ := gd_some H
        refine Sm.regA (Γ := [xref36_holds n]) h00 mixed hΓ (by kernel_rfl) ?_
        simp only [rs]
        repeat (refine opsG fun K hK => ?_; simp (maxSteps := 2000000) only [ev, ew, tys, tl, ↓reduceIte, reduceCtorEq, Nat.reduceAdd, Nat.reduceMul, Nat.reduceSub, Nat.reduceEqDiff, Nat.reduceLeDiff, Nat.reduceLT, Int.reduceToNat, xref36_holds, ref36_Skip_s2, ref36_Skip_t3, ref36_Skip_s1, ref36_Skip_t4, Option.isSome_some, Option.getD_some]; (repeat (first | refine ⟨by first | with_reducible assumption | omega | (intro hh; (repeat refine ⟨hh, ?_⟩); revert hh; with_reducible assumption), ?_⟩ | refine fun (_ : _ ≤ _) => ?_)); refine hK _ ?_; clear hK K)
        refine opsG0 ?_
        refine hK25 _ ?_
        refine Sm.regA (Γ := [xref36_holds n]) h00 mixed hΓ (by kernel_rfl) ?_
        simp only [rs]
        repeat (refine opsG fun K hK => ?_; simp (maxSteps := 2000000) only [ev, ew, tys, tl, ↓reduceIte, reduceCtorEq, Nat.reduceAdd, Nat.reduceMul, Nat.reduceSub, Nat.reduceEqDiff, Nat.reduceLeDiff, Nat.reduceLT, Int.reduceToNat, xref36_holds, ref36_Skip_s2, ref36_Skip_t3, ref36_Skip_s1, ref36_Skip_t4, Option.isSome_some, Option.getD_some]; (repeat (first | refine ⟨by first | with_reducible assumption | omega | (intro hh; (repeat refine ⟨hh, ?_⟩); revert hh; with_reducible assumption), ?_⟩ | refine fun (_ : _ ≤ _) => ?_)); refine hK _ ?_; clear hK K)
        refine opsG0 ?_
        try simp only [↓reduceIte, reduceCtorEq, Exit.exit.injEq]
        refine ⟨(_, _, _), (Option.some.inj H).symm, ?_⟩
        exact weak_b [some 9004] rfl rfl (by simp only [wk, ev, ew, tys, tl, ↓reduceIte, reduceCtorEq, Nat.reduceAdd, Nat.reduceMul, Nat.reduceSub, Nat.reduceEqDiff, Nat.reduceLeDiff, Nat.reduceLT, Int.reduceToNat, ref36_Skip_s2, ref36_Skip_t3, ref36_Skip_s1, ref36_Skip_t4]) (by simp only [wk, ev, ew, tys, tl, ↓reduceIte, reduceCtorEq, Nat.reduceAdd, Nat.reduceMul, Nat.reduceSub, Nat.reduceEqDiff, Nat.reduceLeDiff, Nat.reduceLT, Int.reduceToNat, ref36_Skip_s2, ref36_Skip_t3, ref36_Skip_s1, ref36_Skip_t4])
      · replace H := bif_f h24 H
        refine Sm.exit ?_
        try simp only [↓reduceIte, reduceCtorEq, Exit.exit.injEq]
        refine ⟨⟨_, (Option.some.inj H).symm⟩, fun hz => ?_⟩
        have hyy := Sum.inr.inj ((Option.some.inj H).trans hz)
        subst hyy
        have H := Ho21
        try dsimp only at H
        try simp only [↓reduceIte, reduceCtorEq, Exit.exit.injEq]
        refine ⟨((List.take (Int.toNat (if (ends.length : Int) < (names.length : Int) then (ends.length : Int) else (names.length : Int))) names), (List.take (Int.toNat (if (ends.length : Int) < (names.length : Int) then (ends.length : Int) else (names.length : Int))) ends), abend, bad), H, ?_⟩
        exact weak_b [some 9004] rfl rfl (by simp only [wk, ev, ew, tys, tl, ↓reduceIte, reduceCtorEq, Nat.reduceAdd, Nat.reduceMul, Nat.reduceSub, Nat.reduceEqDiff, Nat.reduceLeDiff, Nat.reduceLT, Int.reduceToNat, ref36_Skip_s2, ref36_Skip_t3, ref36_Skip_s1, ref36_Skip_t4]) (by simp only [wk, ev, ew, tys, tl, ↓reduceIte, reduceCtorEq, Nat.reduceAdd, Nat.reduceMul, Nat.reduceSub, Nat.reduceEqDiff, Nat.reduceLeDiff, Nat.reduceLT, Int.reduceToNat, ref36_Skip_s2, ref36_Skip_t3, ref36_Skip_s1, ref36_Skip_t4])
  · rintro ⟨names_1, ends_1, abend, bad⟩ H
    try dsimp only at H
    unfold ref36_Skip_k1 at H
    refine Sm.seqK fun K5 hK5 => ?_
    refine Sm.seqK fun K6 hK6 => ?_
    refine Sm.regA (Γ := [xref36_holds n]) h00 mixed hΓ (by kernel_rfl) ?_
    simp only [rs]
    repeat (refine opsG fun K hK => ?_; simp (maxSteps := 2000000) only [ev, ew, tys, tl, ↓reduceIte, reduceCtorEq, Nat.reduceAdd, Nat.reduceMul, Nat.reduceSub, Nat.reduceEqDiff, Nat.reduceLeDiff, Nat.reduceLT, Int.reduceToNat, xref36_holds, ref36_Skip_s2, ref36_Skip_t3, ref36_Skip_s1, ref36_Skip_t4, Option.isSome_some, Option.getD_some]; (repeat (first | refine ⟨by first | with_reducible assumption | omega | (intro hh; (repeat refine ⟨hh, ?_⟩); revert hh; with_reducible assumption), ?_⟩ | refine fun (_ : _ ≤ _) => ?_)); refine hK _ ?_; clear hK K)
    refine opsG0 ?_
    refine hK6 _ ?_
    refine Sm.condK (by rfl) fun Ka Kb ha hb => ?_
    simp only [wpCond, ev, ew, tys, tl, ↓reduceIte, reduceCtorEq, Nat.reduceAdd, Nat.reduceMul, Nat.reduceSub, Nat.reduceEqDiff, Nat.reduceLeDiff, Nat.reduceLT, Int.reduceToNat, xref36_holds, ref36_Skip_s2, ref36_Skip_t3, ref36_Skip_s1, ref36_Skip_t4, Option.isSome_some, Option.getD_some]
    refine ⟨fun h7 => ha ?_, fun h7 => hb ?_⟩
    · replace H := bif_t h7 H
      refine Sm.seqK fun K8 hK8 => ?_
      refine Sm.regA (Γ := [xref36_holds n]) h00 mixed hΓ (by kernel_rfl) ?_
      simp only [rs]
      repeat (refine opsG fun K hK => ?_; simp (maxSteps := 2000000) only [ev, ew, tys, tl, ↓reduceIte, reduceCtorEq, Nat.reduceAdd, Nat.reduceMul, Nat.reduceSub, Nat.reduceEqDiff, Nat.reduceLeDiff, Nat.reduceLT, Int.reduceToNat, xref36_holds, ref36_Skip_s2, ref36_Skip_t3, ref36_Skip_s1, ref36_Skip_t4, Option.isSome_some, Option.getD_some]; (repeat (first | refine ⟨by first | with_reducible assumption | omega | (intro hh; (repeat refine ⟨hh, ?_⟩); revert hh; with_reducible assumption), ?_⟩ | refine fun (_ : _ ≤ _) => ?_)); refine hK _ ?_; clear hK K)
      refine opsG0 ?_
      refine hK8 _ ?_
      refine Sm.ret ?_
      try simp only [↓reduceIte, reduceCtorEq, Exit.exit.injEq]
      obtain rfl := Option.some.inj H
      refine Ret.ofR [] (.inr rfl) ?_
      simp (maxSteps := 2000000) only [ev, ew, tys, tl, ↓reduceIte, reduceCtorEq, Nat.reduceAdd, Nat.reduceMul, Nat.reduceSub, Nat.reduceEqDiff, Nat.reduceLeDiff, Nat.reduceLT, Int.reduceToNat, xref36_holds, ref36_Skip_s2, ref36_Skip_t3, ref36_Skip_s1, ref36_Skip_t4, Option.isSome_some, Option.getD_some]
      done
    · replace H := bif_f h7 H
      refine Sm.skip ?_
      refine hK5 _ ?_
      refine Sm.cut (fun (x : Unit) => ref36_Skip_s2) (fun x => ref36_Skip_k2 n = some r) ?_ ?_
      · refine Sm.seqK fun K10 hK10 => ?_
        refine Sm.regA (Γ := [xref36_holds n]) h00 mixed hΓ (by kernel_rfl) ?_
        simp only [rs]
        repeat (refine opsG fun K hK => ?_; simp (maxSteps := 2000000) only [ev, ew, tys, tl, ↓reduceIte, reduceCtorEq, Nat.reduceAdd, Nat.reduceMul, Nat.reduceSub, Nat.reduceEqDiff, Nat.reduceLeDiff, Nat.reduceLT, Int.reduceToNat, xref36_holds, ref36_Skip_s2, ref36_Skip_t3, ref36_Skip_s1, ref36_Skip_t4, Option.isSome_some, Option.getD_some]; (repeat (first | refine ⟨by first | with_reducible assumption | omega | (intro hh; (repeat refine ⟨hh, ?_⟩); revert hh; with_reducible assumption), ?_⟩ | refine fun (_ : _ ≤ _) => ?_)); refine hK _ ?_; clear hK K)
        refine opsG0 ?_
        refine hK10 _ ?_
        refine Sm.block ?_
        obtain ⟨y11, hy11, Ho11⟩ := bind_some H
        refine Sm.loopB (fun (x : Int) => ref36_Skip_b3 n names_1 ends_1 s x) (fun x => ref36_Skip_t3 names_1 ends_1 s x) hy11 ?_ ?_
        · exact weak_b [some 9000] rfl rfl (by simp only [wk, ev, ew, tys, tl, ↓reduceIte, reduceCtorEq, Nat.reduceAdd, Nat.reduceMul, Nat.reduceSub, Nat.reduceEqDiff, Nat.reduceLeDiff, Nat.reduceLT, Int.reduceToNat, ref36_Skip_s2, ref36_Skip_t3, ref36_Skip_s1, ref36_Skip_t4]) (by simp only [wk, ev, ew, tys, tl, ↓reduceIte, reduceCtorEq, Nat.reduceAdd, Nat.reduceMul, Nat.reduceSub, Nat.reduceEqDiff, Nat.reduceLeDiff, Nat.reduceLT, Int.reduceToNat, ref36_Skip_s2, ref36_Skip_t3, ref36_Skip_s1, ref36_Skip_t4])
        · rintro i z11 H
          try dsimp only at H
          unfold ref36_Skip_b3 at H
          refine Sm.seqK fun K12 hK12 => ?_
          refine Sm.seqK fun K13 hK13 => ?_
          refine Sm.regA (Γ := [xref36_holds n]) h00 mixed hΓ (by kernel_rfl) ?_
          simp only [rs]
          repeat (refine opsG fun K hK => ?_; simp (maxSteps := 2000000) only [ev, ew, tys, tl, ↓reduceIte, reduceCtorEq, Nat.reduceAdd, Nat.reduceMul, Nat.reduceSub, Nat.reduceEqDiff, Nat.reduceLeDiff, Nat.reduceLT, Int.reduceToNat, xref36_holds, ref36_Skip_s2, ref36_Skip_t3, ref36_Skip_s1, ref36_Skip_t4, Option.isSome_some, Option.getD_some]; (repeat (first | refine ⟨by first | with_reducible assumption | omega | (intro hh; (repeat refine ⟨hh, ?_⟩); revert hh; with_reducible assumption), ?_⟩ | refine fun (_ : _ ≤ _) => ?_)); refine hK _ ?_; clear hK K)
          refine opsG0 ?_
          refine hK13 _ ?_
          refine Sm.condK (by rfl) fun Ka Kb ha hb => ?_
          simp only [wpCond, ev, ew, tys, tl, ↓reduceIte, reduceCtorEq, Nat.reduceAdd, Nat.reduceMul, Nat.reduceSub, Nat.reduceEqDiff, Nat.reduceLeDiff, Nat.reduceLT, Int.reduceToNat, xref36_holds, ref36_Skip_s2, ref36_Skip_t3, ref36_Skip_s1, ref36_Skip_t4, Option.isSome_some, Option.getD_some]
          refine ⟨fun h14 => ha ?_, fun h14 => hb ?_⟩
          · replace H := bif_t h14 H
            refine Sm.skip ?_
            refine hK12 _ ?_
            refine Sm.seqK fun K15 hK15 => ?_
            refine Sm.block ?_
            refine Sm.seqK fun K16 hK16 => ?_
            obtain ⟨hg19, H⟩ := gd_some H
            obtain ⟨r1, hr1, H⟩ := bind_some H
            refine Sm.regA (Γ := [xref36_holds n]) h00 mixed hΓ (by kernel_rfl) ?_
            simp only [rs]
            repeat (refine opsG fun K hK => ?_; simp (maxSteps := 2000000) only [ev, ew, tys, tl, ↓reduceIte, reduceCtorEq, Nat.reduceAdd, Nat.reduceMul, Nat.reduceSub, Nat.reduceEqDiff, Nat.reduceLeDiff, Nat.reduceLT, Int.reduceToNat, xref36_holds, ref36_Skip_s2, ref36_Skip_t3, ref36_Skip_s1, ref36_Skip_t4, Option.isSome_some, Option.getD_some, hr1]; (repeat (first | refine ⟨by first | with_reducible assumption | omega | (intro hh; (repeat refine ⟨hh, ?_⟩); revert hh; with_reducible assumption), ?_⟩ | refine fun (_ : _ ≤ _) => ?_)); refine hK _ ?_; clear hK K)
            refine opsG0 ?_
            refine hK16 _ ?_
            refine Sm.condK (by rfl) fun Ka Kb ha hb => ?_
            simp only [wpCond, ev, ew, tys, tl, ↓reduceIte, reduceCtorEq, Nat.reduceAdd, Nat.reduceMul, Nat.reduceSub, Nat.reduceEqDiff, Nat.reduceLeDiff, Nat.reduceLT, Int.reduceToNat, xref36_holds, ref36_Skip_s2, ref36_Skip_t3, ref36_Skip_s1, ref36_Skip_t4, Option.isSome_some, Option.getD_some]
            refine ⟨fun h17 => ha ?_, fun h17 => hb ?_⟩
            · replace H := bif_t h17 H
              refine Sm.seqK fun K18 hK18 => ?_
              refine Sm.regA (Γ := [xref36_holds n]) h00 mixed hΓ (by kernel_rfl) ?_
              simp only [rs]
              repeat (refine opsG fun K hK => ?_; simp (maxSteps := 2000000) only [ev, ew, tys, tl, ↓reduceIte, reduceCtorEq, Nat.reduceAdd, Nat.reduceMul, Nat.reduceSub, Nat.reduceEqDiff, Nat.reduceLeDiff, Nat.reduceLT, Int.reduceToNat, xref36_holds, ref36_Skip_s2, ref36_Skip_t3, ref36_Skip_s1, ref36_Skip_t4, Option.isSome_some, Option.getD_some]; (repeat (first | refine ⟨by first | with_reducible assumption | omega | (intro hh; (repeat refine ⟨hh, ?_⟩); revert hh; with_reducible assumption), ?_⟩ | refine fun (_ : _ ≤ _) => ?_)); refine hK _ ?_; clear hK K)
              refine opsG0 ?_
              refine hK18 _ ?_
              refine Sm.ret ?_
              try simp only [↓reduceIte, reduceCtorEq, Exit.exit.injEq]
              refine ⟨⟨_, (Option.some.inj H).symm⟩, fun hz => ?_⟩
              have hyy := Sum.inr.inj ((Option.some.inj H).trans hz)
              subst hyy
              have H := Ho11
              try dsimp only at H
              try simp only [↓reduceIte, reduceCtorEq, Exit.exit.injEq]
              obtain rfl := Option.some.inj H
              refine Ret.ofR [] (.inr rfl) ?_
              simp (maxSteps := 2000000) only [ev, ew, tys, tl, ↓reduceIte, reduceCtorEq, Nat.reduceAdd, Nat.reduceMul, Nat.reduceSub, Nat.reduceEqDiff, Nat.reduceLeDiff, Nat.reduceLT, Int.reduceToNat, xref36_holds, ref36_Skip_s2, ref36_Skip_t3, ref36_Skip_s1, ref36_Skip_t4, Option.isSome_some, Option.getD_some]
              done
            · replace H := bif_f h17 H
              refine Sm.skip ?_
              refine hK15 _ ?_
              refine Sm.regA (Γ := [xref36_holds n]) h00 mixed hΓ (by kernel_rfl) ?_
              simp only [rs]
              repeat (refine opsG fun K hK => ?_; simp (maxSteps := 2000000) only [ev, ew, tys, tl, ↓reduceIte, reduceCtorEq, Nat.reduceAdd, Nat.reduceMul, Nat.reduceSub, Nat.reduceEqDiff, Nat.reduceLeDiff, Nat.reduceLT, Int.reduceToNat, xref36_holds, ref36_Skip_s2, ref36_Skip_t3, ref36_Skip_s1, ref36_Skip_t4, Option.isSome_some, Option.getD_some]; (repeat (first | refine ⟨by first | with_reducible assumption | omega | (intro hh; (repeat refine ⟨hh, ?_⟩); revert hh; with_reducible assumption), ?_⟩ | refine fun (_ : _ ≤ _) => ?_)); refine hK _ ?_; clear hK K)
              refine opsG0 ?_
              try simp only [↓reduceIte, reduceCtorEq, Exit.exit.injEq]
              refine ⟨_, (Option.some.inj H).symm, ?_⟩
              exact weak_b [some 9002] rfl rfl (by simp only [wk, ev, ew, tys, tl, ↓reduceIte, reduceCtorEq, Nat.reduceAdd, Nat.reduceMul, Nat.reduceSub, Nat.reduceEqDiff, Nat.reduceLeDiff, Nat.reduceLT, Int.reduceToNat, ref36_Skip_s2, ref36_Skip_t3, ref36_Skip_s1, ref36_Skip_t4]) (by simp only [wk, ev, ew, tys, tl, ↓reduceIte, reduceCtorEq, Nat.reduceAdd, Nat.reduceMul, Nat.reduceSub, Nat.reduceEqDiff, Nat.reduceLeDiff, Nat.reduceLT, Int.reduceToNat, ref36_Skip_s2, ref36_Skip_t3, ref36_Skip_s1, ref36_Skip_t4])
          · replace H := bif_f h14 H
            refine Sm.exit ?_
            try simp only [↓reduceIte, reduceCtorEq, Exit.exit.injEq]
            refine ⟨⟨_, (Option.some.inj H).symm⟩, fun hz => ?_⟩
            have hyy := Sum.inr.inj ((Option.some.inj H).trans hz)
            subst hyy
            have H := Ho11
            try dsimp only at H
            try simp only [↓reduceIte, reduceCtorEq, Exit.exit.injEq]
            refine ⟨(), H, ?_⟩
            exact weak_b [] rfl rfl (by simp only [wk, ev, ew, tys, tl, ↓reduceIte, reduceCtorEq, Nat.reduceAdd, Nat.reduceMul, Nat.reduceSub, Nat.reduceEqDiff, Nat.reduceLeDiff, Nat.reduceLT, Int.reduceToNat, ref36_Skip_s2, ref36_Skip_t3, ref36_Skip_s1, ref36_Skip_t4]) (by simp only [wk, ev, ew, tys, tl, ↓reduceIte, reduceCtorEq, Nat.reduceAdd, Nat.reduceMul, Nat.reduceSub, Nat.reduceEqDiff, Nat.reduceLeDiff, Nat.reduceLT, Int.reduceToNat, ref36_Skip_s2, ref36_Skip_t3, ref36_Skip_s1, ref36_Skip_t4])
      · rintro ⟨⟩ H
        try dsimp only at H
        unfold ref36_Skip_k2 at H
        refine Sm.seqK fun K9 hK9 => ?_
        refine Sm.regA (Γ := [xref36_holds n]) h00 mixed hΓ (by kernel_rfl) ?_
        simp only [rs]
        repeat (refine opsG fun K hK => ?_; simp (maxSteps := 2000000) only [ev, ew, tys, tl, ↓reduceIte, reduceCtorEq, Nat.reduceAdd, Nat.reduceMul, Nat.reduceSub, Nat.reduceEqDiff, Nat.reduceLeDiff, Nat.reduceLT, Int.reduceToNat, xref36_holds, ref36_Skip_s2, ref36_Skip_t3, ref36_Skip_s1, ref36_Skip_t4, Option.isSome_some, Option.getD_some]; (repeat (first | refine ⟨by first | with_reducible assumption | omega | (intro hh; (repeat refine ⟨hh, ?_⟩); revert hh; with_reducible assumption), ?_⟩ | refine fun (_ : _ ≤ _) => ?_)); refine hK _ ?_; clear hK K)
        refine opsG0 ?_
        refine hK9 _ ?_
        refine Sm.ret ?_
        try simp only [↓reduceIte, reduceCtorEq, Exit.exit.injEq]
        obtain rfl := Option.some.inj H
        refine Ret.ofR [] (.inr rfl) ?_
        simp (maxSteps := 2000000) only [ev, ew, tys, tl, ↓reduceIte, reduceCtorEq, Nat.reduceAdd, Nat.reduceMul, Nat.reduceSub, Nat.reduceEqDiff, Nat.reduceLeDiff, Nat.reduceLT, Int.reduceToNat, xref36_holds, ref36_Skip_s2, ref36_Skip_t3, ref36_Skip_s1, ref36_Skip_t4, Option.isSome_some, Option.getD_some]
        done

def law36_FlowSkips (n : Nat) (s : TJobStep) (names : List (List UInt8)) (ends : List TStepEnd) : Option Bool :=
  (flow_Skip n s names ends).bind fun r1 =>
  (ref36_Skip n s names ends).bind fun r2 =>
  gd (((r1 == r2) = true → (law36_works n).isSome = true)) <|
  some (if (r1 == r2) = true then ((law36_works n).getD default) else false)

def xlaw36_FlowSkips (n : Nat) : Go.AE.Fn := mkFn (A := TJobStep × (List (List UInt8)) × (List TStepEnd)) (R := Bool) 4 [(true, [.str, .str, .str, .slice 27, .bool, .bool, .int .i64, .slice 39]), (false, [.slice 9]), (false, [.slice 24])] false (fun xs => ((⟨(cg (xs.getD 0 []) 0).toStr, (cg (xs.getD 0 []) 1).toStr, (cg (xs.getD 0 []) 2).toStr, ((cg (xs.getD 0 []) 3).toSl.map d_TCond), (cg (xs.getD 0 []) 4).toBool, (cg (xs.getD 0 []) 5).toBool, (cg (xs.getD 0 []) 6).toInt, ((cg (xs.getD 0 []) 7).toSl.map d_TDD)⟩ : TJobStep), ((cg (xs.getD 1 []) 0).toSl.map d_Str), ((cg (xs.getD 2 []) 0).toSl.map d_TStepEnd))) (fun a => [[.str a.1.Name, .str a.1.Pgm, .str a.1.Parm, .slice (List.map e_TCond a.1.Conds), .bool a.1.Even, .bool a.1.Only, .int a.1.Time, .slice (List.map e_TDD a.1.DDs)], [.slice (List.map e_Str a.2.1)], [.slice (List.map e_TStepEnd a.2.2)]]) (fun a => law36_FlowSkips n a.1 a.2.1 a.2.2) (fun r => [.c .bool (.bool r)]) (fun r => [])

theorem claw36_FlowSkips (n : Nat) : Contract Try.prog (xlaw36_FlowSkips n) := by
  have hΓ : ∀ g, g ∈ ([xflow_Skip n, xref36_Skip n, xlaw36_works n] : List Go.AE.Fn) → Contract Try.prog g := by
    intro g hg; simp only [List.mem_cons, List.not_mem_nil, or_false] at hg; rcases hg with rfl | rfl | rfl; exact cflow_Skip n; exact cref36_Skip n; exact claw36_works n
  refine contract_f (Try.f4.body.getD .skip) h00 Try.func4 rfl (by intro args w; exact Try.call4 args w) (by decide) (by intro _ r; exact ⟨rfl, by simp⟩) ?_
  rintro ⟨s, names, ends⟩ r H
  try dsimp only at H
  unfold law36_FlowSkips at H
  simp only [Try.f4, Option.getD]
  refine Sm.seqK fun K1 hK1 => ?_
  refine Sm.regA (Γ := [xflow_Skip n, xref36_Skip n, xlaw36_works n]) h00 mixed hΓ (by kernel_rfl) ?_
  simp only [rs]
  repeat (refine opsG fun K hK => ?_; simp (maxSteps := 2000000) only [ev, ew, tys, tl, ↓reduceIte, reduceCtorEq, Nat.reduceAdd, Nat.reduceMul, Nat.reduceSub, Nat.reduceEqDiff, Nat.reduceLeDiff, Nat.reduceLT, Int.reduceToNat, xflow_Skip, xref36_Skip, xlaw36_works, Option.isSome_some, Option.getD_some]; (repeat (first | refine ⟨by first | with_reducible assumption | omega | (intro hh; (repeat refine ⟨hh, ?_⟩); revert hh; with_reducible assumption), ?_⟩ | refine fun (_ : _ ≤ _) => ?_)); refine hK _ ?_; clear hK K)
  refine opsG0 ?_
  refine hK1 _ ?_
  refine Sm.seqK fun K2 hK2 => ?_
  obtain ⟨r1, hr1, H⟩ := bind_some H
  obtain ⟨r2, hr2, H⟩ := bind_some H
  obtain ⟨hg3, H⟩ := gd_some H
  refine Sm.regD (Γ := [xflow_Skip n, xref36_Skip n, xlaw36_works n]) h00 mixed hΓ (by kernel_rfl) ?_
  simp only [rs]
  repeat (refine opsH fun K hK => ?_; simp (maxSteps := 2000000) only [ev, ew, tys, tl, ↓reduceIte, reduceCtorEq, Nat.reduceAdd, Nat.reduceMul, Nat.reduceSub, Nat.reduceEqDiff, Nat.reduceLeDiff, Nat.reduceLT, Int.reduceToNat, xflow_Skip, xref36_Skip, xlaw36_works, Option.isSome_some, Option.getD_some, hr1, hr2]; (repeat (first | refine ⟨by first | with_reducible assumption | omega | (intro hh; (repeat refine ⟨hh, ?_⟩); revert hh; with_reducible assumption), ?_⟩ | refine fun (_ : _ ≤ _) => ?_)); refine hK _ ?_; clear hK K)
  refine opsH0 ?_
  refine hK2 _ ?_
  refine Sm.ret ?_
  try simp only [↓reduceIte, reduceCtorEq, Exit.exit.injEq]
  obtain rfl := Option.some.inj H
  refine Ret.ofR [] (.inr rfl) ?_
  simp (maxSteps := 2000000) only [ev, ew, tys, tl, ↓reduceIte, reduceCtorEq, Nat.reduceAdd, Nat.reduceMul, Nat.reduceSub, Nat.reduceEqDiff, Nat.reduceLeDiff, Nat.reduceLT, Int.reduceToNat, xflow_Skip, xref36_Skip, xlaw36_works, Option.isSome_some, Option.getD_some]
  done
end Go.Proofs.Ytmaemlpmbjloaaa
