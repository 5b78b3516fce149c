/-
  No cell of these rows narrows 'for every input' (looked for: loops, veiled, ifaces, maps, wideKeys, modest, calm, conditions, laid).
  DERIVED. THE GIVEN ROWS OF THIS SEAT. 7 by the template 'for every input the law returns true; each argument reads behind the call as it read before'; 0 by the template 'total and deterministic' (their statements: YtojnggohjbidaaaTotals.lean).
  GIVEN WITH THE SEED: the statements are not yours to turn. If you find one false, say at which input.
  Laid BY PROGRAM, IN A SANDBOX (cutbox-rows.mjs): the forced cells as the released guide's own fill.sh prints them over the translation 0ed3667b18555cf6… (all of the seat's roots in one cut). By AI agents, Wed Nov 11 2026. No macro, syntax, notation, axiom, sorry.
-/
import Derived.Test.YtojnggohjbidaaaChecked
import GoSem.Claim
import GoSem.ClaimJoined
import GoSem.ClaimMapViews
import Derived.JoinedTies
import Derived.KernelRfl
namespace Go.Proofs.Ytojnggohjbidaaa
/- THE CELL 'sum', in the pinned program and in every row, IS THE sha256 OF THE DUMP (.gsa) THAT YtojnggohjbidaaaProg.lean LOADS. Nothing in Lean hashes anything: it is a label: what it is worth is what the hold of that sum in a sandbox is worth. -/
noncomputable def Try.pinned : Pinned := { name := "ytojnggohjbidaaa", sum := "0ed3667b18555cf6f4b560532fa629ae1210545ceea71e20eae077dce77dd19d", checked := Try.checked }
namespace Rows
def none {H : Type} : Left H := { results := [], args := [] }

/-- 'jobshoplaw20.ExtentTakes': WHATEVER THE INPUT: true; the input reads as it did. -/
def extentTakesSpec : ChangeSpec := { name := "extentTakes", fn := fun _ => fun
  | [d1, d2, d3] => { results := [.lit (.bool true)], args := [d1, d2, d3] }
  | _ => none }
def extentTakesRow : OpenClaim := { program := "ytojnggohjbidaaa", sum := "0ed3667b18555cf6f4b560532fa629ae1210545ceea71e20eae077dce77dd19d", func := "jobshop/jobshoplaw20.ExtentTakes", spec := "extentTakes", apart := false }
def ExtentTakesSaid : Prop := extentTakesRow.holds Try.pinned (OpenSpec.ofChange extentTakesSpec)

/-- ITS FALSE NEIGHBOUR: 'it returns false'. Refute it at one input. -/
def extentTakesWrong : ChangeSpec := { name := "extentTakes", fn := fun _ => fun
  | [d1, d2, d3] => { results := [.lit (.bool false)], args := [d1, d2, d3] }
  | _ => none }
def ExtentTakesWrongFalsely : Prop := extentTakesRow.holds Try.pinned (OpenSpec.ofChange extentTakesWrong)

/-- 'jobshoplaw20.ExtentChecks': WHATEVER THE INPUT: true; the input reads as it did. -/
def extentChecksSpec : ChangeSpec := { name := "extentChecks", fn := fun _ => fun
  | [d1, d2] => { results := [.lit (.bool true)], args := [d1, d2] }
  | _ => none }
def extentChecksRow : OpenClaim := { program := "ytojnggohjbidaaa", sum := "0ed3667b18555cf6f4b560532fa629ae1210545ceea71e20eae077dce77dd19d", func := "jobshop/jobshoplaw20.ExtentChecks", spec := "extentChecks", unfollowed := true, recurses := true, apart := false }
def ExtentChecksSaid : Prop := extentChecksRow.holds Try.pinned (OpenSpec.ofChange extentChecksSpec)

/-- ITS FALSE NEIGHBOUR: 'it returns false'. Refute it at one input. -/
def extentChecksWrong : ChangeSpec := { name := "extentChecks", fn := fun _ => fun
  | [d1, d2] => { results := [.lit (.bool false)], args := [d1, d2] }
  | _ => none }
def ExtentChecksWrongFalsely : Prop := extentChecksRow.holds Try.pinned (OpenSpec.ofChange extentChecksWrong)

/-- 'jobshoplaw20.ExtentFree': WHATEVER THE INPUT: true; the input reads as it did. -/
def extentFreeSpec : ChangeSpec := { name := "extentFree", fn := fun _ => fun
  | [d1, d2] => { results := [.lit (.bool true)], args := [d1, d2] }
  | _ => none }
def extentFreeRow : OpenClaim := { program := "ytojnggohjbidaaa", sum := "0ed3667b18555cf6f4b560532fa629ae1210545ceea71e20eae077dce77dd19d", func := "jobshop/jobshoplaw20.ExtentFree", spec := "extentFree", unfollowed := true, recurses := true, apart := false }
def ExtentFreeSaid : Prop := extentFreeRow.holds Try.pinned (OpenSpec.ofChange extentFreeSpec)

/-- ITS FALSE NEIGHBOUR: 'it returns false'. Refute it at one input. -/
def extentFreeWrong : ChangeSpec := { name := "extentFree", fn := fun _ => fun
  | [d1, d2] => { results := [.lit (.bool false)], args := [d1, d2] }
  | _ => none }
def ExtentFreeWrongFalsely : Prop := extentFreeRow.holds Try.pinned (OpenSpec.ofChange extentFreeWrong)

/-- 'jobshoplaw20.ExtentGives': WHATEVER THE INPUT: true; the input reads as it did. -/
def extentGivesSpec : ChangeSpec := { name := "extentGives", fn := fun _ => fun
  | [d1, d2] => { results := [.lit (.bool true)], args := [d1, d2] }
  | _ => none }
def extentGivesRow : OpenClaim := { program := "ytojnggohjbidaaa", sum := "0ed3667b18555cf6f4b560532fa629ae1210545ceea71e20eae077dce77dd19d", func := "jobshop/jobshoplaw20.ExtentGives", spec := "extentGives", unfollowed := true, recurses := true, apart := false }
def ExtentGivesSaid : Prop := extentGivesRow.holds Try.pinned (OpenSpec.ofChange extentGivesSpec)

/-- ITS FALSE NEIGHBOUR: 'it returns false'. Refute it at one input. -/
def extentGivesWrong : ChangeSpec := { name := "extentGives", fn := fun _ => fun
  | [d1, d2] => { results := [.lit (.bool false)], args := [d1, d2] }
  | _ => none }
def ExtentGivesWrongFalsely : Prop := extentGivesRow.holds Try.pinned (OpenSpec.ofChange extentGivesWrong)

/-- 'jobshoplaw20.ExtentConserves': WHATEVER THE INPUT: true; the input reads as it did. -/
def extentConservesSpec : ChangeSpec := { name := "extentConserves", fn := fun _ => fun
  | [d1, d2, d3] => { results := [.lit (.bool true)], args := [d1, d2, d3] }
  | _ => none }
def extentConservesRow : OpenClaim := { program := "ytojnggohjbidaaa", sum := "0ed3667b18555cf6f4b560532fa629ae1210545ceea71e20eae077dce77dd19d", func := "jobshop/jobshoplaw20.ExtentConserves", spec := "extentConserves", unfollowed := true, recurses := true, apart := false }
def ExtentConservesSaid : Prop := extentConservesRow.holds Try.pinned (OpenSpec.ofChange extentConservesSpec)

/-- ITS FALSE NEIGHBOUR: 'it returns false'. Refute it at one input. -/
def extentConservesWrong : ChangeSpec := { name := "extentConserves", fn := fun _ => fun
  | [d1, d2, d3] => { results := [.lit (.bool false)], args := [d1, d2, d3] }
  | _ => none }
def ExtentConservesWrongFalsely : Prop := extentConservesRow.holds Try.pinned (OpenSpec.ofChange extentConservesWrong)

/-- 'jobshoplaw20.ExtentComplements': WHATEVER THE INPUT: true; the input reads as it did. -/
def extentComplementsSpec : ChangeSpec := { name := "extentComplements", fn := fun _ => fun
  | [d1, d2, d3] => { results := [.lit (.bool true)], args := [d1, d2, d3] }
  | _ => none }
def extentComplementsRow : OpenClaim := { program := "ytojnggohjbidaaa", sum := "0ed3667b18555cf6f4b560532fa629ae1210545ceea71e20eae077dce77dd19d", func := "jobshop/jobshoplaw20.ExtentComplements", spec := "extentComplements", unfollowed := true, recurses := true, apart := false }
def ExtentComplementsSaid : Prop := extentComplementsRow.holds Try.pinned (OpenSpec.ofChange extentComplementsSpec)

/-- ITS FALSE NEIGHBOUR: 'it returns false'. Refute it at one input. -/
def extentComplementsWrong : ChangeSpec := { name := "extentComplements", fn := fun _ => fun
  | [d1, d2, d3] => { results := [.lit (.bool false)], args := [d1, d2, d3] }
  | _ => none }
def ExtentComplementsWrongFalsely : Prop := extentComplementsRow.holds Try.pinned (OpenSpec.ofChange extentComplementsWrong)

/-- 'jobshoplaw20.ExtentPlaces': WHATEVER THE INPUT: true; the input reads as it did. -/
def extentPlacesSpec : ChangeSpec := { name := "extentPlaces", fn := fun _ => fun
  | [d1, d2, d3] => { results := [.lit (.bool true)], args := [d1, d2, d3] }
  | _ => none }
def extentPlacesRow : OpenClaim := { program := "ytojnggohjbidaaa", sum := "0ed3667b18555cf6f4b560532fa629ae1210545ceea71e20eae077dce77dd19d", func := "jobshop/jobshoplaw20.ExtentPlaces", spec := "extentPlaces", unfollowed := true, recurses := true, apart := false }
def ExtentPlacesSaid : Prop := extentPlacesRow.holds Try.pinned (OpenSpec.ofChange extentPlacesSpec)

/-- ITS FALSE NEIGHBOUR: 'it returns false'. Refute it at one input. -/
def extentPlacesWrong : ChangeSpec := { name := "extentPlaces", fn := fun _ => fun
  | [d1, d2, d3] => { results := [.lit (.bool false)], args := [d1, d2, d3] }
  | _ => none }
def ExtentPlacesWrongFalsely : Prop := extentPlacesRow.holds Try.pinned (OpenSpec.ofChange extentPlacesWrong)

/- THE SECOND FORM. 'bulk': how many values and letters a reading holds, each counted each time it is reached (what is shared counts as often as it is met; a slice's spare places count too). A statement '..UptoSaid' is the law's where the arguments, and the package variables that the reading takes, are together of bulk at most 1048576: NARROWER than '..Said'. Prove '..Said' where nothing that the law and all that it calls make is longer than what came in: it says more and counts as full. Else prove '..UptoSaid'. A law counts once. -/
mutual
def uptoBulk {H : Type} : DataW H → Nat
  | .lit (.string bytes) => bytes.length + 1
  | .lit _ => 1
  | .nil => 1
  | .ptr d => uptoBulk d + 1
  | .slice elems spare => uptoBulkAll elems + uptoBulkAll spare + 1
  | .agg parts => uptoBulkAll parts + 1
  | .iface _ d => uptoBulk d + 1
  | .map entries => uptoBulkEntries entries + 1
  | .held _ => 1
def uptoBulkAll {H : Type} : List (DataW H) → Nat
  | [] => 0
  | d :: r => uptoBulk d + uptoBulkAll r
def uptoBulkEntries {H : Type} : List (Lit × DataW H) → Nat
  | [] => 0
  | x :: r => uptoBulkEntry x + uptoBulkEntries r
def uptoBulkEntry {H : Type} : Lit × DataW H → Nat
  | (.string bytes, d) => bytes.length + uptoBulk d + 1
  | (_, d) => uptoBulk d + 1
 end
def uptoSmall : (H : Type) → List (DataW H) → Bool := fun _ ds => decide (uptoBulkAll ds ≤ 1048576)
def OpenSpec.upto (s : _root_.Go.ChangeSpec) : _root_.Go.OpenSpec := { _root_.Go.OpenSpec.ofChange s with cond := some uptoSmall }

/-- 'jobshoplaw20.ExtentTakes', WHERE WHAT IT READS IS OF BULK AT MOST 1048576: true; the input reads as it did. -/
def extentTakesUptoRow : OpenClaim := { program := "ytojnggohjbidaaa", sum := "0ed3667b18555cf6f4b560532fa629ae1210545ceea71e20eae077dce77dd19d", func := "jobshop/jobshoplaw20.ExtentTakes", spec := "extentTakes", apart := false, narrowed := true }
def ExtentTakesUptoSaid : Prop := extentTakesUptoRow.holds Try.pinned (OpenSpec.upto extentTakesSpec)

/-- 'jobshoplaw20.ExtentChecks', WHERE WHAT IT READS IS OF BULK AT MOST 1048576: true; the input reads as it did. -/
def extentChecksUptoRow : OpenClaim := { program := "ytojnggohjbidaaa", sum := "0ed3667b18555cf6f4b560532fa629ae1210545ceea71e20eae077dce77dd19d", func := "jobshop/jobshoplaw20.ExtentChecks", spec := "extentChecks", unfollowed := true, recurses := true, apart := false, narrowed := true }
def ExtentChecksUptoSaid : Prop := extentChecksUptoRow.holds Try.pinned (OpenSpec.upto extentChecksSpec)

/-- 'jobshoplaw20.ExtentFree', WHERE WHAT IT READS IS OF BULK AT MOST 1048576: true; the input reads as it did. -/
def extentFreeUptoRow : OpenClaim := { program := "ytojnggohjbidaaa", sum := "0ed3667b18555cf6f4b560532fa629ae1210545ceea71e20eae077dce77dd19d", func := "jobshop/jobshoplaw20.ExtentFree", spec := "extentFree", unfollowed := true, recurses := true, apart := false, narrowed := true }
def ExtentFreeUptoSaid : Prop := extentFreeUptoRow.holds Try.pinned (OpenSpec.upto extentFreeSpec)

/-- 'jobshoplaw20.ExtentGives', WHERE WHAT IT READS IS OF BULK AT MOST 1048576: true; the input reads as it did. -/
def extentGivesUptoRow : OpenClaim := { program := "ytojnggohjbidaaa", sum := "0ed3667b18555cf6f4b560532fa629ae1210545ceea71e20eae077dce77dd19d", func := "jobshop/jobshoplaw20.ExtentGives", spec := "extentGives", unfollowed := true, recurses := true, apart := false, narrowed := true }
def ExtentGivesUptoSaid : Prop := extentGivesUptoRow.holds Try.pinned (OpenSpec.upto extentGivesSpec)

/-- 'jobshoplaw20.ExtentConserves', WHERE WHAT IT READS IS OF BULK AT MOST 1048576: true; the input reads as it did. -/
def extentConservesUptoRow : OpenClaim := { program := "ytojnggohjbidaaa", sum := "0ed3667b18555cf6f4b560532fa629ae1210545ceea71e20eae077dce77dd19d", func := "jobshop/jobshoplaw20.ExtentConserves", spec := "extentConserves", unfollowed := true, recurses := true, apart := false, narrowed := true }
def ExtentConservesUptoSaid : Prop := extentConservesUptoRow.holds Try.pinned (OpenSpec.upto extentConservesSpec)

/-- 'jobshoplaw20.ExtentComplements', WHERE WHAT IT READS IS OF BULK AT MOST 1048576: true; the input reads as it did. -/
def extentComplementsUptoRow : OpenClaim := { program := "ytojnggohjbidaaa", sum := "0ed3667b18555cf6f4b560532fa629ae1210545ceea71e20eae077dce77dd19d", func := "jobshop/jobshoplaw20.ExtentComplements", spec := "extentComplements", unfollowed := true, recurses := true, apart := false, narrowed := true }
def ExtentComplementsUptoSaid : Prop := extentComplementsUptoRow.holds Try.pinned (OpenSpec.upto extentComplementsSpec)

/-- 'jobshoplaw20.ExtentPlaces', WHERE WHAT IT READS IS OF BULK AT MOST 1048576: true; the input reads as it did. -/
def extentPlacesUptoRow : OpenClaim := { program := "ytojnggohjbidaaa", sum := "0ed3667b18555cf6f4b560532fa629ae1210545ceea71e20eae077dce77dd19d", func := "jobshop/jobshoplaw20.ExtentPlaces", spec := "extentPlaces", unfollowed := true, recurses := true, apart := false, narrowed := true }
def ExtentPlacesUptoSaid : Prop := extentPlacesUptoRow.holds Try.pinned (OpenSpec.upto extentPlacesSpec)

end Rows
end Go.Proofs.Ytojnggohjbidaaa
