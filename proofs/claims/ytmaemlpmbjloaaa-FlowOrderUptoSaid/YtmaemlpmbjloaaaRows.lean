/-
  No cell of these rows narrows 'for every input' (looked for: loops, veiled, ifaces, maps, wideKeys, modest, calm, conditions, laid).
  DERIVED. THE GIVEN ROWS OF THIS SEAT. 6 by the template 'for every input the law returns true; each argument reads behind the call as it read before'; 0 by the template 'total and deterministic' (their statements: YtmaemlpmbjloaaaTotals.lean).
  GIVEN WITH THE SEED: the statements are not yours to turn. If you find one false, say at which input.
  Laid BY PROGRAM, IN A SANDBOX (cutbox-rows.mjs): the forced cells as the released guide's own fill.sh prints them over the translation 5e7338232fee3bc0… (all of the seat's roots in one cut). By AI agents, Wed Nov 11 2026. No macro, syntax, notation, axiom, sorry.
-/
import Derived.Test.YtmaemlpmbjloaaaChecked
import GoSem.Claim
import GoSem.ClaimJoined
import GoSem.ClaimMapViews
import Derived.JoinedTies
import Derived.KernelRfl
namespace Go.Proofs.Ytmaemlpmbjloaaa
/- THE CELL 'sum', in the pinned program and in every row, IS THE sha256 OF THE DUMP (.gsa) THAT YtmaemlpmbjloaaaProg.lean LOADS. Nothing in Lean hashes anything: it is a label: what it is worth is what the hold of that sum in a sandbox is worth. -/
noncomputable def Try.pinned : Pinned := { name := "ytmaemlpmbjloaaa", sum := "5e7338232fee3bc01caf51ae786c97a5fc4deb556886cc83fb72d1169977902c", checked := Try.checked }
namespace Rows
def none {H : Type} : Left H := { results := [], args := [] }

/-- 'jobshoplaw36.FlowTests': WHATEVER THE INPUT: true; the input reads as it did. -/
def flowTestsSpec : ChangeSpec := { name := "flowTests", fn := fun _ => fun
  | [d1, d2] => { results := [.lit (.bool true)], args := [d1, d2] }
  | _ => none }
def flowTestsRow : OpenClaim := { program := "ytmaemlpmbjloaaa", sum := "5e7338232fee3bc01caf51ae786c97a5fc4deb556886cc83fb72d1169977902c", func := "jobshop/jobshoplaw36.FlowTests", spec := "flowTests", apart := false }
def FlowTestsSaid : Prop := flowTestsRow.holds Try.pinned (OpenSpec.ofChange flowTestsSpec)

/-- ITS FALSE NEIGHBOUR: 'it returns false'. Refute it at one input. -/
def flowTestsWrong : ChangeSpec := { name := "flowTests", fn := fun _ => fun
  | [d1, d2] => { results := [.lit (.bool false)], args := [d1, d2] }
  | _ => none }
def FlowTestsWrongFalsely : Prop := flowTestsRow.holds Try.pinned (OpenSpec.ofChange flowTestsWrong)

/-- 'jobshoplaw36.FlowSkips': WHATEVER THE INPUT: true; the input reads as it did. -/
def flowSkipsSpec : ChangeSpec := { name := "flowSkips", fn := fun _ => fun
  | [d1, d2, d3] => { results := [.lit (.bool true)], args := [d1, d2, d3] }
  | _ => none }
def flowSkipsRow : OpenClaim := { program := "ytmaemlpmbjloaaa", sum := "5e7338232fee3bc01caf51ae786c97a5fc4deb556886cc83fb72d1169977902c", func := "jobshop/jobshoplaw36.FlowSkips", spec := "flowSkips", apart := false }
def FlowSkipsSaid : Prop := flowSkipsRow.holds Try.pinned (OpenSpec.ofChange flowSkipsSpec)

/-- ITS FALSE NEIGHBOUR: 'it returns false'. Refute it at one input. -/
def flowSkipsWrong : ChangeSpec := { name := "flowSkips", fn := fun _ => fun
  | [d1, d2, d3] => { results := [.lit (.bool false)], args := [d1, d2, d3] }
  | _ => none }
def FlowSkipsWrongFalsely : Prop := flowSkipsRow.holds Try.pinned (OpenSpec.ofChange flowSkipsWrong)

/-- 'jobshoplaw36.FlowAfter': WHATEVER THE INPUT: true; the input reads as it did. -/
def flowAfterSpec : ChangeSpec := { name := "flowAfter", fn := fun _ => fun
  | [d1, d2, d3] => { results := [.lit (.bool true)], args := [d1, d2, d3] }
  | _ => none }
def flowAfterRow : OpenClaim := { program := "ytmaemlpmbjloaaa", sum := "5e7338232fee3bc01caf51ae786c97a5fc4deb556886cc83fb72d1169977902c", func := "jobshop/jobshoplaw36.FlowAfter", spec := "flowAfter", apart := false }
def FlowAfterSaid : Prop := flowAfterRow.holds Try.pinned (OpenSpec.ofChange flowAfterSpec)

/-- ITS FALSE NEIGHBOUR: 'it returns false'. Refute it at one input. -/
def flowAfterWrong : ChangeSpec := { name := "flowAfter", fn := fun _ => fun
  | [d1, d2, d3] => { results := [.lit (.bool false)], args := [d1, d2, d3] }
  | _ => none }
def FlowAfterWrongFalsely : Prop := flowAfterRow.holds Try.pinned (OpenSpec.ofChange flowAfterWrong)

/-- 'jobshoplaw36.FlowOrder': WHATEVER THE INPUT: true; the input reads as it did. -/
def flowOrderSpec : ChangeSpec := { name := "flowOrder", fn := fun _ => fun
  | [d1, d2, d3] => { results := [.lit (.bool true)], args := [d1, d2, d3] }
  | _ => none }
def flowOrderRow : OpenClaim := { program := "ytmaemlpmbjloaaa", sum := "5e7338232fee3bc01caf51ae786c97a5fc4deb556886cc83fb72d1169977902c", func := "jobshop/jobshoplaw36.FlowOrder", spec := "flowOrder", apart := false }
def FlowOrderSaid : Prop := flowOrderRow.holds Try.pinned (OpenSpec.ofChange flowOrderSpec)

/-- ITS FALSE NEIGHBOUR: 'it returns false'. Refute it at one input. -/
def flowOrderWrong : ChangeSpec := { name := "flowOrder", fn := fun _ => fun
  | [d1, d2, d3] => { results := [.lit (.bool false)], args := [d1, d2, d3] }
  | _ => none }
def FlowOrderWrongFalsely : Prop := flowOrderRow.holds Try.pinned (OpenSpec.ofChange flowOrderWrong)

/-- 'jobshoplaw36.FlowTwice': WHATEVER THE INPUT: true; the input reads as it did. -/
def flowTwiceSpec : ChangeSpec := { name := "flowTwice", fn := fun _ => fun
  | [d] => { results := [.lit (.bool true)], args := [d] }
  | _ => none }
def flowTwiceRow : OpenClaim := { program := "ytmaemlpmbjloaaa", sum := "5e7338232fee3bc01caf51ae786c97a5fc4deb556886cc83fb72d1169977902c", func := "jobshop/jobshoplaw36.FlowTwice", spec := "flowTwice", apart := false }
def FlowTwiceSaid : Prop := flowTwiceRow.holds Try.pinned (OpenSpec.ofChange flowTwiceSpec)

/-- ITS FALSE NEIGHBOUR: 'it returns false'. Refute it at one input. -/
def flowTwiceWrong : ChangeSpec := { name := "flowTwice", fn := fun _ => fun
  | [d] => { results := [.lit (.bool false)], args := [d] }
  | _ => none }
def FlowTwiceWrongFalsely : Prop := flowTwiceRow.holds Try.pinned (OpenSpec.ofChange flowTwiceWrong)

/-- 'jobshoplaw36.FlowDefaults': WHATEVER THE INPUT: true; the input reads as it did. -/
def flowDefaultsSpec : ChangeSpec := { name := "flowDefaults", fn := fun _ => fun
  | [d] => { results := [.lit (.bool true)], args := [d] }
  | _ => none }
def flowDefaultsRow : OpenClaim := { program := "ytmaemlpmbjloaaa", sum := "5e7338232fee3bc01caf51ae786c97a5fc4deb556886cc83fb72d1169977902c", func := "jobshop/jobshoplaw36.FlowDefaults", spec := "flowDefaults", apart := false }
def FlowDefaultsSaid : Prop := flowDefaultsRow.holds Try.pinned (OpenSpec.ofChange flowDefaultsSpec)

/-- ITS FALSE NEIGHBOUR: 'it returns false'. Refute it at one input. -/
def flowDefaultsWrong : ChangeSpec := { name := "flowDefaults", fn := fun _ => fun
  | [d] => { results := [.lit (.bool false)], args := [d] }
  | _ => none }
def FlowDefaultsWrongFalsely : Prop := flowDefaultsRow.holds Try.pinned (OpenSpec.ofChange flowDefaultsWrong)

/- THE SECOND FORM. 'bulk': how many values and letters a reading holds, each counted each time it is reached (what is shared counts as often as it is met; a slice's spare places count too). A statement '..UptoSaid' is the law's where the arguments, and the package variables that the reading takes, are together of bulk at most 1048576: NARROWER than '..Said'. Prove '..Said' where nothing that the law and all that it calls make is longer than what came in: it says more and counts as full. Else prove '..UptoSaid'. A law counts once. -/
mutual
def uptoBulk {H : Type} : DataW H → Nat
  | .lit (.string bytes) => bytes.length + 1
  | .lit _ => 1
  | .nil => 1
  | .ptr d => uptoBulk d + 1
  | .slice elems spare => uptoBulkAll elems + uptoBulkAll spare + 1
  | .agg parts => uptoBulkAll parts + 1
  | .iface _ d => uptoBulk d + 1
  | .map entries => uptoBulkEntries entries + 1
  | .held _ => 1
def uptoBulkAll {H : Type} : List (DataW H) → Nat
  | [] => 0
  | d :: r => uptoBulk d + uptoBulkAll r
def uptoBulkEntries {H : Type} : List (Lit × DataW H) → Nat
  | [] => 0
  | x :: r => uptoBulkEntry x + uptoBulkEntries r
def uptoBulkEntry {H : Type} : Lit × DataW H → Nat
  | (.string bytes, d) => bytes.length + uptoBulk d + 1
  | (_, d) => uptoBulk d + 1
 end
def uptoSmall : (H : Type) → List (DataW H) → Bool := fun _ ds => decide (uptoBulkAll ds ≤ 1048576)
def OpenSpec.upto (s : _root_.Go.ChangeSpec) : _root_.Go.OpenSpec := { _root_.Go.OpenSpec.ofChange s with cond := some uptoSmall }

/-- 'jobshoplaw36.FlowTests', WHERE WHAT IT READS IS OF BULK AT MOST 1048576: true; the input reads as it did. -/
def flowTestsUptoRow : OpenClaim := { program := "ytmaemlpmbjloaaa", sum := "5e7338232fee3bc01caf51ae786c97a5fc4deb556886cc83fb72d1169977902c", func := "jobshop/jobshoplaw36.FlowTests", spec := "flowTests", apart := false, narrowed := true }
def FlowTestsUptoSaid : Prop := flowTestsUptoRow.holds Try.pinned (OpenSpec.upto flowTestsSpec)

/-- 'jobshoplaw36.FlowSkips', WHERE WHAT IT READS IS OF BULK AT MOST 1048576: true; the input reads as it did. -/
def flowSkipsUptoRow : OpenClaim := { program := "ytmaemlpmbjloaaa", sum := "5e7338232fee3bc01caf51ae786c97a5fc4deb556886cc83fb72d1169977902c", func := "jobshop/jobshoplaw36.FlowSkips", spec := "flowSkips", apart := false, narrowed := true }
def FlowSkipsUptoSaid : Prop := flowSkipsUptoRow.holds Try.pinned (OpenSpec.upto flowSkipsSpec)

/-- 'jobshoplaw36.FlowAfter', WHERE WHAT IT READS IS OF BULK AT MOST 1048576: true; the input reads as it did. -/
def flowAfterUptoRow : OpenClaim := { program := "ytmaemlpmbjloaaa", sum := "5e7338232fee3bc01caf51ae786c97a5fc4deb556886cc83fb72d1169977902c", func := "jobshop/jobshoplaw36.FlowAfter", spec := "flowAfter", apart := false, narrowed := true }
def FlowAfterUptoSaid : Prop := flowAfterUptoRow.holds Try.pinned (OpenSpec.upto flowAfterSpec)

/-- 'jobshoplaw36.FlowOrder', WHERE WHAT IT READS IS OF BULK AT MOST 1048576: true; the input reads as it did. -/
def flowOrderUptoRow : OpenClaim := { program := "ytmaemlpmbjloaaa", sum := "5e7338232fee3bc01caf51ae786c97a5fc4deb556886cc83fb72d1169977902c", func := "jobshop/jobshoplaw36.FlowOrder", spec := "flowOrder", apart := false, narrowed := true }
def FlowOrderUptoSaid : Prop := flowOrderUptoRow.holds Try.pinned (OpenSpec.upto flowOrderSpec)

/-- 'jobshoplaw36.FlowTwice', WHERE WHAT IT READS IS OF BULK AT MOST 1048576: true; the input reads as it did. -/
def flowTwiceUptoRow : OpenClaim := { program := "ytmaemlpmbjloaaa", sum := "5e7338232fee3bc01caf51ae786c97a5fc4deb556886cc83fb72d1169977902c", func := "jobshop/jobshoplaw36.FlowTwice", spec := "flowTwice", apart := false, narrowed := true }
def FlowTwiceUptoSaid : Prop := flowTwiceUptoRow.holds Try.pinned (OpenSpec.upto flowTwiceSpec)

/-- 'jobshoplaw36.FlowDefaults', WHERE WHAT IT READS IS OF BULK AT MOST 1048576: true; the input reads as it did. -/
def flowDefaultsUptoRow : OpenClaim := { program := "ytmaemlpmbjloaaa", sum := "5e7338232fee3bc01caf51ae786c97a5fc4deb556886cc83fb72d1169977902c", func := "jobshop/jobshoplaw36.FlowDefaults", spec := "flowDefaults", apart := false, narrowed := true }
def FlowDefaultsUptoSaid : Prop := flowDefaultsUptoRow.holds Try.pinned (OpenSpec.upto flowDefaultsSpec)

end Rows
end Go.Proofs.Ytmaemlpmbjloaaa
