/-
  No cell of these rows narrows 'for every input' (looked for: loops, veiled, ifaces, maps, wideKeys, modest, calm, conditions, laid).
  DERIVED. THE GIVEN ROWS OF THIS SEAT. 5 by the template 'for every input the law returns true; each argument reads behind the call as it read before'; 0 by the template 'total and deterministic' (their statements: YtcbcdjincgclaaaTotals.lean).
  GIVEN WITH THE SEED: the statements are not yours to turn. If you find one false, say at which input.
  Laid BY PROGRAM, IN A SANDBOX (cutbox-rows.mjs): the forced cells as the released guide's own fill.sh prints them over the translation 802a6c8f4ae72152… (all of the seat's roots in one cut). By AI agents, Wed Nov 11 2026. No macro, syntax, notation, axiom, sorry.
-/
import Derived.Test.YtcbcdjincgclaaaChecked
import GoSem.Claim
import GoSem.ClaimJoined
import GoSem.ClaimMapViews
import Derived.JoinedTies
import Derived.KernelRfl
namespace Go.Proofs.Ytcbcdjincgclaaa
/- THE CELL 'sum', in the pinned program and in every row, IS THE sha256 OF THE DUMP (.gsa) THAT YtcbcdjincgclaaaProg.lean LOADS. Nothing in Lean hashes anything: it is a label: what it is worth is what the hold of that sum in a sandbox is worth. -/
noncomputable def Try.pinned : Pinned := { name := "ytcbcdjincgclaaa", sum := "802a6c8f4ae72152850b970272000c0e20f520e70ef2f9bf17a237af2d94c6c7", checked := Try.checked }
namespace Rows
def none {H : Type} : Left H := { results := [], args := [] }

/-- 'jobshoplaw33.FetchFits': WHATEVER THE INPUT: true; the input reads as it did. -/
def fetchFitsSpec : ChangeSpec := { name := "fetchFits", fn := fun _ => fun
  | [d1, d2] => { results := [.lit (.bool true)], args := [d1, d2] }
  | _ => none }
def fetchFitsRow : OpenClaim := { program := "ytcbcdjincgclaaa", sum := "802a6c8f4ae72152850b970272000c0e20f520e70ef2f9bf17a237af2d94c6c7", func := "jobshop/jobshoplaw33.FetchFits", spec := "fetchFits", unfollowed := true, recurses := true, apart := false }
def FetchFitsSaid : Prop := fetchFitsRow.holds Try.pinned (OpenSpec.ofChange fetchFitsSpec)

/-- ITS FALSE NEIGHBOUR: 'it returns false'. Refute it at one input. -/
def fetchFitsWrong : ChangeSpec := { name := "fetchFits", fn := fun _ => fun
  | [d1, d2] => { results := [.lit (.bool false)], args := [d1, d2] }
  | _ => none }
def FetchFitsWrongFalsely : Prop := fetchFitsRow.holds Try.pinned (OpenSpec.ofChange fetchFitsWrong)

/-- 'jobshoplaw33.FetchLoads': WHATEVER THE INPUT: true; the input reads as it did. -/
def fetchLoadsSpec : ChangeSpec := { name := "fetchLoads", fn := fun _ => fun
  | [d] => { results := [.lit (.bool true)], args := [d] }
  | _ => none }
def fetchLoadsRow : OpenClaim := { program := "ytcbcdjincgclaaa", sum := "802a6c8f4ae72152850b970272000c0e20f520e70ef2f9bf17a237af2d94c6c7", func := "jobshop/jobshoplaw33.FetchLoads", spec := "fetchLoads", unfollowed := true, recurses := true, apart := false }
def FetchLoadsSaid : Prop := fetchLoadsRow.holds Try.pinned (OpenSpec.ofChange fetchLoadsSpec)

/-- ITS FALSE NEIGHBOUR: 'it returns false'. Refute it at one input. -/
def fetchLoadsWrong : ChangeSpec := { name := "fetchLoads", fn := fun _ => fun
  | [d] => { results := [.lit (.bool false)], args := [d] }
  | _ => none }
def FetchLoadsWrongFalsely : Prop := fetchLoadsRow.holds Try.pinned (OpenSpec.ofChange fetchLoadsWrong)

/-- 'jobshoplaw33.FetchHolds': WHATEVER THE INPUT: true; the input reads as it did. -/
def fetchHoldsSpec : ChangeSpec := { name := "fetchHolds", fn := fun _ => fun
  | [d] => { results := [.lit (.bool true)], args := [d] }
  | _ => none }
def fetchHoldsRow : OpenClaim := { program := "ytcbcdjincgclaaa", sum := "802a6c8f4ae72152850b970272000c0e20f520e70ef2f9bf17a237af2d94c6c7", func := "jobshop/jobshoplaw33.FetchHolds", spec := "fetchHolds", unfollowed := true, recurses := true, apart := false }
def FetchHoldsSaid : Prop := fetchHoldsRow.holds Try.pinned (OpenSpec.ofChange fetchHoldsSpec)

/-- ITS FALSE NEIGHBOUR: 'it returns false'. Refute it at one input. -/
def fetchHoldsWrong : ChangeSpec := { name := "fetchHolds", fn := fun _ => fun
  | [d] => { results := [.lit (.bool false)], args := [d] }
  | _ => none }
def FetchHoldsWrongFalsely : Prop := fetchHoldsRow.holds Try.pinned (OpenSpec.ofChange fetchHoldsWrong)

/-- 'jobshoplaw33.FetchMoves': WHATEVER THE INPUT: true; the input reads as it did. -/
def fetchMovesSpec : ChangeSpec := { name := "fetchMoves", fn := fun _ => fun
  | [d1, d2, d3] => { results := [.lit (.bool true)], args := [d1, d2, d3] }
  | _ => none }
def fetchMovesRow : OpenClaim := { program := "ytcbcdjincgclaaa", sum := "802a6c8f4ae72152850b970272000c0e20f520e70ef2f9bf17a237af2d94c6c7", func := "jobshop/jobshoplaw33.FetchMoves", spec := "fetchMoves", unfollowed := true, recurses := true, apart := false }
def FetchMovesSaid : Prop := fetchMovesRow.holds Try.pinned (OpenSpec.ofChange fetchMovesSpec)

/-- ITS FALSE NEIGHBOUR: 'it returns false'. Refute it at one input. -/
def fetchMovesWrong : ChangeSpec := { name := "fetchMoves", fn := fun _ => fun
  | [d1, d2, d3] => { results := [.lit (.bool false)], args := [d1, d2, d3] }
  | _ => none }
def FetchMovesWrongFalsely : Prop := fetchMovesRow.holds Try.pinned (OpenSpec.ofChange fetchMovesWrong)

/-- 'jobshoplaw33.FetchNil': WHATEVER THE INPUT: true; the input reads as it did. -/
def fetchNilSpec : ChangeSpec := { name := "fetchNil", fn := fun _ => fun
  | [d] => { results := [.lit (.bool true)], args := [d] }
  | _ => none }
def fetchNilRow : OpenClaim := { program := "ytcbcdjincgclaaa", sum := "802a6c8f4ae72152850b970272000c0e20f520e70ef2f9bf17a237af2d94c6c7", func := "jobshop/jobshoplaw33.FetchNil", spec := "fetchNil", unfollowed := true, recurses := true, apart := false }
def FetchNilSaid : Prop := fetchNilRow.holds Try.pinned (OpenSpec.ofChange fetchNilSpec)

/-- ITS FALSE NEIGHBOUR: 'it returns false'. Refute it at one input. -/
def fetchNilWrong : ChangeSpec := { name := "fetchNil", fn := fun _ => fun
  | [d] => { results := [.lit (.bool false)], args := [d] }
  | _ => none }
def FetchNilWrongFalsely : Prop := fetchNilRow.holds Try.pinned (OpenSpec.ofChange fetchNilWrong)

/- THE SECOND FORM. 'bulk': how many values and letters a reading holds, each counted each time it is reached (what is shared counts as often as it is met; a slice's spare places count too). A statement '..UptoSaid' is the law's where the arguments, and the package variables that the reading takes, are together of bulk at most 1048576: NARROWER than '..Said'. Prove '..Said' where nothing that the law and all that it calls make is longer than what came in: it says more and counts as full. Else prove '..UptoSaid'. A law counts once. -/
mutual
def uptoBulk {H : Type} : DataW H → Nat
  | .lit (.string bytes) => bytes.length + 1
  | .lit _ => 1
  | .nil => 1
  | .ptr d => uptoBulk d + 1
  | .slice elems spare => uptoBulkAll elems + uptoBulkAll spare + 1
  | .agg parts => uptoBulkAll parts + 1
  | .iface _ d => uptoBulk d + 1
  | .map entries => uptoBulkEntries entries + 1
  | .held _ => 1
def uptoBulkAll {H : Type} : List (DataW H) → Nat
  | [] => 0
  | d :: r => uptoBulk d + uptoBulkAll r
def uptoBulkEntries {H : Type} : List (Lit × DataW H) → Nat
  | [] => 0
  | x :: r => uptoBulkEntry x + uptoBulkEntries r
def uptoBulkEntry {H : Type} : Lit × DataW H → Nat
  | (.string bytes, d) => bytes.length + uptoBulk d + 1
  | (_, d) => uptoBulk d + 1
 end
def uptoSmall : (H : Type) → List (DataW H) → Bool := fun _ ds => decide (uptoBulkAll ds ≤ 1048576)
def OpenSpec.upto (s : _root_.Go.ChangeSpec) : _root_.Go.OpenSpec := { _root_.Go.OpenSpec.ofChange s with cond := some uptoSmall }

/-- 'jobshoplaw33.FetchFits', WHERE WHAT IT READS IS OF BULK AT MOST 1048576: true; the input reads as it did. -/
def fetchFitsUptoRow : OpenClaim := { program := "ytcbcdjincgclaaa", sum := "802a6c8f4ae72152850b970272000c0e20f520e70ef2f9bf17a237af2d94c6c7", func := "jobshop/jobshoplaw33.FetchFits", spec := "fetchFits", unfollowed := true, recurses := true, apart := false, narrowed := true }
def FetchFitsUptoSaid : Prop := fetchFitsUptoRow.holds Try.pinned (OpenSpec.upto fetchFitsSpec)

/-- 'jobshoplaw33.FetchLoads', WHERE WHAT IT READS IS OF BULK AT MOST 1048576: true; the input reads as it did. -/
def fetchLoadsUptoRow : OpenClaim := { program := "ytcbcdjincgclaaa", sum := "802a6c8f4ae72152850b970272000c0e20f520e70ef2f9bf17a237af2d94c6c7", func := "jobshop/jobshoplaw33.FetchLoads", spec := "fetchLoads", unfollowed := true, recurses := true, apart := false, narrowed := true }
def FetchLoadsUptoSaid : Prop := fetchLoadsUptoRow.holds Try.pinned (OpenSpec.upto fetchLoadsSpec)

/-- 'jobshoplaw33.FetchHolds', WHERE WHAT IT READS IS OF BULK AT MOST 1048576: true; the input reads as it did. -/
def fetchHoldsUptoRow : OpenClaim := { program := "ytcbcdjincgclaaa", sum := "802a6c8f4ae72152850b970272000c0e20f520e70ef2f9bf17a237af2d94c6c7", func := "jobshop/jobshoplaw33.FetchHolds", spec := "fetchHolds", unfollowed := true, recurses := true, apart := false, narrowed := true }
def FetchHoldsUptoSaid : Prop := fetchHoldsUptoRow.holds Try.pinned (OpenSpec.upto fetchHoldsSpec)

/-- 'jobshoplaw33.FetchMoves', WHERE WHAT IT READS IS OF BULK AT MOST 1048576: true; the input reads as it did. -/
def fetchMovesUptoRow : OpenClaim := { program := "ytcbcdjincgclaaa", sum := "802a6c8f4ae72152850b970272000c0e20f520e70ef2f9bf17a237af2d94c6c7", func := "jobshop/jobshoplaw33.FetchMoves", spec := "fetchMoves", unfollowed := true, recurses := true, apart := false, narrowed := true }
def FetchMovesUptoSaid : Prop := fetchMovesUptoRow.holds Try.pinned (OpenSpec.upto fetchMovesSpec)

/-- 'jobshoplaw33.FetchNil', WHERE WHAT IT READS IS OF BULK AT MOST 1048576: true; the input reads as it did. -/
def fetchNilUptoRow : OpenClaim := { program := "ytcbcdjincgclaaa", sum := "802a6c8f4ae72152850b970272000c0e20f520e70ef2f9bf17a237af2d94c6c7", func := "jobshop/jobshoplaw33.FetchNil", spec := "fetchNil", unfollowed := true, recurses := true, apart := false, narrowed := true }
def FetchNilUptoSaid : Prop := fetchNilUptoRow.holds Try.pinned (OpenSpec.upto fetchNilSpec)

end Rows
end Go.Proofs.Ytcbcdjincgclaaa
