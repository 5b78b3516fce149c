/-
  The functions that call one whose contract is written by hand.
-/
import Derived.Test.YtcbcdjincgclaaaF
set_option maxHeartbeats 8000000
set_option linter.unusedVariables false
set_option linter.unusedSimpArgs false
set_option maxRecDepth 100000
namespace Go.Proofs.Ytcbcdjincgclaaa
open Go.AE
def law33_FetchFits (n : Nat) (m : TLoad) (size : Int) : Option Bool :=
  (fetch_Size n m).bind fun r1 =>
  (ref33_Size n m).bind fun r2 =>
  gd (((r1 == r2) = true → (fetch_Fit n m size).isSome = true) ∧ ((r1 == r2) = true → (ref33_Fit n m size).isSome = true) ∧ ((if (r1 == r2) = true then (((fetch_Fit n m size).getD default) == ((ref33_Fit n m size).getD default)) else false) = true → (works n).isSome = true)) <|
  some (if (if (r1 == r2) = true then (((fetch_Fit n m size).getD default) == ((ref33_Fit n m size).getD default)) else false) = true then ((works n).getD default) else false)

def xlaw33_FetchFits (n : Nat) : Go.AE.Fn := mkFn (A := TLoad × Int) (R := Bool) 3 [(true, [.slice 5, .slice 58, .slice 52, .int .i64]), (false, [.int .i64])] false (fun xs => ((⟨((cg (xs.getD 0 []) 0).toSl.map d_Int), ((cg (xs.getD 0 []) 1).toSl.map d_TReloc), ((cg (xs.getD 0 []) 2).toSl.map d_TSegment), (cg (xs.getD 0 []) 3).toInt⟩ : TLoad), (cg (xs.getD 1 []) 0).toInt)) (fun a => [[.slice (List.map e_Int a.1.Text), .slice (List.map e_TReloc a.1.Relocs), .slice (List.map e_TSegment a.1.Segments), .int a.1.Entry], [.int a.2]]) (fun a => law33_FetchFits n a.1 a.2) (fun r => [.c .bool (.bool r)]) (fun r => [])

theorem claw33_FetchFits (n : Nat) : Contract Try.prog (xlaw33_FetchFits n) := by
  have hΓ := g1 (cfetch_Size n) (g1 (cref33_Size n) (g1 (cfetch_Fit n) (g1 (cref33_Fit n) (g1 (cworks n) (@g0 (Contract Try.prog))))))
  refine contract_f (Try.f3.body.getD .skip) h00 Try.func3 rfl Try.call3 (by decide) (by intro _ r; exact ⟨rfl, by simp⟩) ?_
  rintro ⟨m, size⟩ r H
  try dsimp only at H
  unfold law33_FetchFits at H
  simp only [Try.f3, Option.getD]
  refine rA ?_
  obtain ⟨r1, hr1, H⟩ := bind_some H
  obtain ⟨r2, hr2, H⟩ := bind_some H
  obtain ⟨⟨hg3, hg4, hg5⟩, H⟩ := gd_some H
  have q := And.intro @xfetch_Size.eq_1 (And.intro @xref33_Size.eq_1 (And.intro @xfetch_Fit.eq_1 (And.intro @xref33_Fit.eq_1 (And.intro @xworks.eq_1 (And.intro hr1 hr2)))))
  refine rDq ?_
  refine Sm.ret ?_
  refine lf ?_
  obtain rfl := Option.some.inj H
  exact rt []
end Go.Proofs.Ytcbcdjincgclaaa
