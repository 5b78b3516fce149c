/-
  No cell of these rows narrows 'for every input' (looked for: loops, veiled, ifaces, maps, wideKeys, modest, calm, conditions, laid).
  DERIVED. THE GIVEN ROWS OF THIS SEAT. 8 by the template 'for every input the law returns true; each argument reads behind the call as it read before'; 0 by the template 'total and deterministic' (their statements: YtcdofkflbnpjjaaTotals.lean).
  GIVEN WITH THE SEED: the statements are not yours to turn. If you find one false, say at which input.
  Laid BY PROGRAM, IN A SANDBOX (cutbox-rows.mjs): the forced cells as the released guide's own fill.sh prints them over the translation 512bd51e30113002… (all of the seat's roots in one cut). By AI agents, Wed Nov 11 2026. No macro, syntax, notation, axiom, sorry.
-/
import Derived.Test.YtcdofkflbnpjjaaChecked
import GoSem.Claim
import GoSem.ClaimJoined
import GoSem.ClaimMapViews
import Derived.JoinedTies
import Derived.KernelRfl
namespace Go.Proofs.Ytcdofkflbnpjjaa
/- THE CELL 'sum', in the pinned program and in every row, IS THE sha256 OF THE DUMP (.gsa) THAT YtcdofkflbnpjjaaProg.lean LOADS. Nothing in Lean hashes anything: it is a label: what it is worth is what the hold of that sum in a sandbox is worth. -/
noncomputable def Try.pinned : Pinned := { name := "ytcdofkflbnpjjaa", sum := "512bd51e3011300230f0520251c49df82625e063c059a6d8adefa42d25c6dae9", checked := Try.checked }
namespace Rows
def none {H : Type} : Left H := { results := [], args := [] }

/-- 'jobshoplaw37.EnqueueReleases': WHATEVER THE INPUT: true; the input reads as it did. -/
def enqueueReleasesSpec : ChangeSpec := { name := "enqueueReleases", fn := fun _ => fun
  | [d1, d2] => { results := [.lit (.bool true)], args := [d1, d2] }
  | _ => none }
def enqueueReleasesRow : OpenClaim := { program := "ytcdofkflbnpjjaa", sum := "512bd51e3011300230f0520251c49df82625e063c059a6d8adefa42d25c6dae9", func := "jobshop/jobshoplaw37.EnqueueReleases", spec := "enqueueReleases", inPlace := ["internal/bytealg.abigen_runtime_cmpstring"], unfollowed := true, recurses := true, apart := false }
def EnqueueReleasesSaid : Prop := enqueueReleasesRow.holds Try.pinned (OpenSpec.ofChange enqueueReleasesSpec)

/-- ITS FALSE NEIGHBOUR: 'it returns false'. Refute it at one input. -/
def enqueueReleasesWrong : ChangeSpec := { name := "enqueueReleases", fn := fun _ => fun
  | [d1, d2] => { results := [.lit (.bool false)], args := [d1, d2] }
  | _ => none }
def EnqueueReleasesWrongFalsely : Prop := enqueueReleasesRow.holds Try.pinned (OpenSpec.ofChange enqueueReleasesWrong)

/-- 'jobshoplaw37.EnqueueRuns': WHATEVER THE INPUT: true; the input reads as it did. -/
def enqueueRunsSpec : ChangeSpec := { name := "enqueueRuns", fn := fun _ => fun
  | [d] => { results := [.lit (.bool true)], args := [d] }
  | _ => none }
def enqueueRunsRow : OpenClaim := { program := "ytcdofkflbnpjjaa", sum := "512bd51e3011300230f0520251c49df82625e063c059a6d8adefa42d25c6dae9", func := "jobshop/jobshoplaw37.EnqueueRuns", spec := "enqueueRuns", inPlace := ["internal/bytealg.abigen_runtime_cmpstring"], unfollowed := true, recurses := true, apart := false }
def EnqueueRunsSaid : Prop := enqueueRunsRow.holds Try.pinned (OpenSpec.ofChange enqueueRunsSpec)

/-- ITS FALSE NEIGHBOUR: 'it returns false'. Refute it at one input. -/
def enqueueRunsWrong : ChangeSpec := { name := "enqueueRuns", fn := fun _ => fun
  | [d] => { results := [.lit (.bool false)], args := [d] }
  | _ => none }
def EnqueueRunsWrongFalsely : Prop := enqueueRunsRow.holds Try.pinned (OpenSpec.ofChange enqueueRunsWrong)

/-- 'jobshoplaw37.EnqueueAsks': WHATEVER THE INPUT: true; the input reads as it did. -/
def enqueueAsksSpec : ChangeSpec := { name := "enqueueAsks", fn := fun _ => fun
  | [d1, d2, d3] => { results := [.lit (.bool true)], args := [d1, d2, d3] }
  | _ => none }
def enqueueAsksRow : OpenClaim := { program := "ytcdofkflbnpjjaa", sum := "512bd51e3011300230f0520251c49df82625e063c059a6d8adefa42d25c6dae9", func := "jobshop/jobshoplaw37.EnqueueAsks", spec := "enqueueAsks", inPlace := ["internal/bytealg.abigen_runtime_cmpstring"], unfollowed := true, recurses := true, apart := false }
def EnqueueAsksSaid : Prop := enqueueAsksRow.holds Try.pinned (OpenSpec.ofChange enqueueAsksSpec)

/-- ITS FALSE NEIGHBOUR: 'it returns false'. Refute it at one input. -/
def enqueueAsksWrong : ChangeSpec := { name := "enqueueAsks", fn := fun _ => fun
  | [d1, d2, d3] => { results := [.lit (.bool false)], args := [d1, d2, d3] }
  | _ => none }
def EnqueueAsksWrongFalsely : Prop := enqueueAsksRow.holds Try.pinned (OpenSpec.ofChange enqueueAsksWrong)

/-- 'jobshoplaw37.EnqueueSafe': WHATEVER THE INPUT: true; the input reads as it did. -/
def enqueueSafeSpec : ChangeSpec := { name := "enqueueSafe", fn := fun _ => fun
  | [d] => { results := [.lit (.bool true)], args := [d] }
  | _ => none }
def enqueueSafeRow : OpenClaim := { program := "ytcdofkflbnpjjaa", sum := "512bd51e3011300230f0520251c49df82625e063c059a6d8adefa42d25c6dae9", func := "jobshop/jobshoplaw37.EnqueueSafe", spec := "enqueueSafe", inPlace := ["internal/bytealg.abigen_runtime_cmpstring"], unfollowed := true, recurses := true, apart := false }
def EnqueueSafeSaid : Prop := enqueueSafeRow.holds Try.pinned (OpenSpec.ofChange enqueueSafeSpec)

/-- ITS FALSE NEIGHBOUR: 'it returns false'. Refute it at one input. -/
def enqueueSafeWrong : ChangeSpec := { name := "enqueueSafe", fn := fun _ => fun
  | [d] => { results := [.lit (.bool false)], args := [d] }
  | _ => none }
def EnqueueSafeWrongFalsely : Prop := enqueueSafeRow.holds Try.pinned (OpenSpec.ofChange enqueueSafeWrong)

/-- 'jobshoplaw37.EnqueueFair': WHATEVER THE INPUT: true; the input reads as it did. -/
def enqueueFairSpec : ChangeSpec := { name := "enqueueFair", fn := fun _ => fun
  | [d1, d2] => { results := [.lit (.bool true)], args := [d1, d2] }
  | _ => none }
def enqueueFairRow : OpenClaim := { program := "ytcdofkflbnpjjaa", sum := "512bd51e3011300230f0520251c49df82625e063c059a6d8adefa42d25c6dae9", func := "jobshop/jobshoplaw37.EnqueueFair", spec := "enqueueFair", inPlace := ["internal/bytealg.abigen_runtime_cmpstring"], unfollowed := true, recurses := true, apart := false }
def EnqueueFairSaid : Prop := enqueueFairRow.holds Try.pinned (OpenSpec.ofChange enqueueFairSpec)

/-- ITS FALSE NEIGHBOUR: 'it returns false'. Refute it at one input. -/
def enqueueFairWrong : ChangeSpec := { name := "enqueueFair", fn := fun _ => fun
  | [d1, d2] => { results := [.lit (.bool false)], args := [d1, d2] }
  | _ => none }
def EnqueueFairWrongFalsely : Prop := enqueueFairRow.holds Try.pinned (OpenSpec.ofChange enqueueFairWrong)

/-- 'jobshoplaw37.EnqueueUndone': WHATEVER THE INPUT: true; the input reads as it did. -/
def enqueueUndoneSpec : ChangeSpec := { name := "enqueueUndone", fn := fun _ => fun
  | [d1, d2] => { results := [.lit (.bool true)], args := [d1, d2] }
  | _ => none }
def enqueueUndoneRow : OpenClaim := { program := "ytcdofkflbnpjjaa", sum := "512bd51e3011300230f0520251c49df82625e063c059a6d8adefa42d25c6dae9", func := "jobshop/jobshoplaw37.EnqueueUndone", spec := "enqueueUndone", inPlace := ["internal/bytealg.abigen_runtime_cmpstring"], unfollowed := true, recurses := true, apart := false }
def EnqueueUndoneSaid : Prop := enqueueUndoneRow.holds Try.pinned (OpenSpec.ofChange enqueueUndoneSpec)

/-- ITS FALSE NEIGHBOUR: 'it returns false'. Refute it at one input. -/
def enqueueUndoneWrong : ChangeSpec := { name := "enqueueUndone", fn := fun _ => fun
  | [d1, d2] => { results := [.lit (.bool false)], args := [d1, d2] }
  | _ => none }
def EnqueueUndoneWrongFalsely : Prop := enqueueUndoneRow.holds Try.pinned (OpenSpec.ofChange enqueueUndoneWrong)

/-- 'jobshoplaw37.EnqueueAssigns': WHATEVER THE INPUT: true; the input reads as it did. -/
def enqueueAssignsSpec : ChangeSpec := { name := "enqueueAssigns", fn := fun _ => fun
  | [d1, d2, d3] => { results := [.lit (.bool true)], args := [d1, d2, d3] }
  | _ => none }
def enqueueAssignsRow : OpenClaim := { program := "ytcdofkflbnpjjaa", sum := "512bd51e3011300230f0520251c49df82625e063c059a6d8adefa42d25c6dae9", func := "jobshop/jobshoplaw37.EnqueueAssigns", spec := "enqueueAssigns", inPlace := ["internal/bytealg.abigen_runtime_cmpstring"], unfollowed := true, recurses := true, apart := false }
def EnqueueAssignsSaid : Prop := enqueueAssignsRow.holds Try.pinned (OpenSpec.ofChange enqueueAssignsSpec)

/-- ITS FALSE NEIGHBOUR: 'it returns false'. Refute it at one input. -/
def enqueueAssignsWrong : ChangeSpec := { name := "enqueueAssigns", fn := fun _ => fun
  | [d1, d2, d3] => { results := [.lit (.bool false)], args := [d1, d2, d3] }
  | _ => none }
def EnqueueAssignsWrongFalsely : Prop := enqueueAssignsRow.holds Try.pinned (OpenSpec.ofChange enqueueAssignsWrong)

/-- 'jobshoplaw37.EnqueueUnits': WHATEVER THE INPUT: true; the input reads as it did. -/
def enqueueUnitsSpec : ChangeSpec := { name := "enqueueUnits", fn := fun _ => fun
  | [d1, d2, d3] => { results := [.lit (.bool true)], args := [d1, d2, d3] }
  | _ => none }
def enqueueUnitsRow : OpenClaim := { program := "ytcdofkflbnpjjaa", sum := "512bd51e3011300230f0520251c49df82625e063c059a6d8adefa42d25c6dae9", func := "jobshop/jobshoplaw37.EnqueueUnits", spec := "enqueueUnits", inPlace := ["internal/bytealg.abigen_runtime_cmpstring"], unfollowed := true, recurses := true, apart := false }
def EnqueueUnitsSaid : Prop := enqueueUnitsRow.holds Try.pinned (OpenSpec.ofChange enqueueUnitsSpec)

/-- ITS FALSE NEIGHBOUR: 'it returns false'. Refute it at one input. -/
def enqueueUnitsWrong : ChangeSpec := { name := "enqueueUnits", fn := fun _ => fun
  | [d1, d2, d3] => { results := [.lit (.bool false)], args := [d1, d2, d3] }
  | _ => none }
def EnqueueUnitsWrongFalsely : Prop := enqueueUnitsRow.holds Try.pinned (OpenSpec.ofChange enqueueUnitsWrong)

/- THE SECOND FORM. 'bulk': how many values and letters a reading holds, each counted each time it is reached (what is shared counts as often as it is met; a slice's spare places count too). A statement '..UptoSaid' is the law's where the arguments, and the package variables that the reading takes, are together of bulk at most 1048576: NARROWER than '..Said'. Prove '..Said' where nothing that the law and all that it calls make is longer than what came in: it says more and counts as full. Else prove '..UptoSaid'. A law counts once. -/
mutual
def uptoBulk {H : Type} : DataW H → Nat
  | .lit (.string bytes) => bytes.length + 1
  | .lit _ => 1
  | .nil => 1
  | .ptr d => uptoBulk d + 1
  | .slice elems spare => uptoBulkAll elems + uptoBulkAll spare + 1
  | .agg parts => uptoBulkAll parts + 1
  | .iface _ d => uptoBulk d + 1
  | .map entries => uptoBulkEntries entries + 1
  | .held _ => 1
def uptoBulkAll {H : Type} : List (DataW H) → Nat
  | [] => 0
  | d :: r => uptoBulk d + uptoBulkAll r
def uptoBulkEntries {H : Type} : List (Lit × DataW H) → Nat
  | [] => 0
  | x :: r => uptoBulkEntry x + uptoBulkEntries r
def uptoBulkEntry {H : Type} : Lit × DataW H → Nat
  | (.string bytes, d) => bytes.length + uptoBulk d + 1
  | (_, d) => uptoBulk d + 1
 end
def uptoSmall : (H : Type) → List (DataW H) → Bool := fun _ ds => decide (uptoBulkAll ds ≤ 1048576)
def OpenSpec.upto (s : _root_.Go.ChangeSpec) : _root_.Go.OpenSpec := { _root_.Go.OpenSpec.ofChange s with cond := some uptoSmall }

/-- 'jobshoplaw37.EnqueueReleases', WHERE WHAT IT READS IS OF BULK AT MOST 1048576: true; the input reads as it did. -/
def enqueueReleasesUptoRow : OpenClaim := { program := "ytcdofkflbnpjjaa", sum := "512bd51e3011300230f0520251c49df82625e063c059a6d8adefa42d25c6dae9", func := "jobshop/jobshoplaw37.EnqueueReleases", spec := "enqueueReleases", inPlace := ["internal/bytealg.abigen_runtime_cmpstring"], unfollowed := true, recurses := true, apart := false, narrowed := true }
def EnqueueReleasesUptoSaid : Prop := enqueueReleasesUptoRow.holds Try.pinned (OpenSpec.upto enqueueReleasesSpec)

/-- 'jobshoplaw37.EnqueueRuns', WHERE WHAT IT READS IS OF BULK AT MOST 1048576: true; the input reads as it did. -/
def enqueueRunsUptoRow : OpenClaim := { program := "ytcdofkflbnpjjaa", sum := "512bd51e3011300230f0520251c49df82625e063c059a6d8adefa42d25c6dae9", func := "jobshop/jobshoplaw37.EnqueueRuns", spec := "enqueueRuns", inPlace := ["internal/bytealg.abigen_runtime_cmpstring"], unfollowed := true, recurses := true, apart := false, narrowed := true }
def EnqueueRunsUptoSaid : Prop := enqueueRunsUptoRow.holds Try.pinned (OpenSpec.upto enqueueRunsSpec)

/-- 'jobshoplaw37.EnqueueAsks', WHERE WHAT IT READS IS OF BULK AT MOST 1048576: true; the input reads as it did. -/
def enqueueAsksUptoRow : OpenClaim := { program := "ytcdofkflbnpjjaa", sum := "512bd51e3011300230f0520251c49df82625e063c059a6d8adefa42d25c6dae9", func := "jobshop/jobshoplaw37.EnqueueAsks", spec := "enqueueAsks", inPlace := ["internal/bytealg.abigen_runtime_cmpstring"], unfollowed := true, recurses := true, apart := false, narrowed := true }
def EnqueueAsksUptoSaid : Prop := enqueueAsksUptoRow.holds Try.pinned (OpenSpec.upto enqueueAsksSpec)

/-- 'jobshoplaw37.EnqueueSafe', WHERE WHAT IT READS IS OF BULK AT MOST 1048576: true; the input reads as it did. -/
def enqueueSafeUptoRow : OpenClaim := { program := "ytcdofkflbnpjjaa", sum := "512bd51e3011300230f0520251c49df82625e063c059a6d8adefa42d25c6dae9", func := "jobshop/jobshoplaw37.EnqueueSafe", spec := "enqueueSafe", inPlace := ["internal/bytealg.abigen_runtime_cmpstring"], unfollowed := true, recurses := true, apart := false, narrowed := true }
def EnqueueSafeUptoSaid : Prop := enqueueSafeUptoRow.holds Try.pinned (OpenSpec.upto enqueueSafeSpec)

/-- 'jobshoplaw37.EnqueueFair', WHERE WHAT IT READS IS OF BULK AT MOST 1048576: true; the input reads as it did. -/
def enqueueFairUptoRow : OpenClaim := { program := "ytcdofkflbnpjjaa", sum := "512bd51e3011300230f0520251c49df82625e063c059a6d8adefa42d25c6dae9", func := "jobshop/jobshoplaw37.EnqueueFair", spec := "enqueueFair", inPlace := ["internal/bytealg.abigen_runtime_cmpstring"], unfollowed := true, recurses := true, apart := false, narrowed := true }
def EnqueueFairUptoSaid : Prop := enqueueFairUptoRow.holds Try.pinned (OpenSpec.upto enqueueFairSpec)

/-- 'jobshoplaw37.EnqueueUndone', WHERE WHAT IT READS IS OF BULK AT MOST 1048576: true; the input reads as it did. -/
def enqueueUndoneUptoRow : OpenClaim := { program := "ytcdofkflbnpjjaa", sum := "512bd51e3011300230f0520251c49df82625e063c059a6d8adefa42d25c6dae9", func := "jobshop/jobshoplaw37.EnqueueUndone", spec := "enqueueUndone", inPlace := ["internal/bytealg.abigen_runtime_cmpstring"], unfollowed := true, recurses := true, apart := false, narrowed := true }
def EnqueueUndoneUptoSaid : Prop := enqueueUndoneUptoRow.holds Try.pinned (OpenSpec.upto enqueueUndoneSpec)

/-- 'jobshoplaw37.EnqueueAssigns', WHERE WHAT IT READS IS OF BULK AT MOST 1048576: true; the input reads as it did. -/
def enqueueAssignsUptoRow : OpenClaim := { program := "ytcdofkflbnpjjaa", sum := "512bd51e3011300230f0520251c49df82625e063c059a6d8adefa42d25c6dae9", func := "jobshop/jobshoplaw37.EnqueueAssigns", spec := "enqueueAssigns", inPlace := ["internal/bytealg.abigen_runtime_cmpstring"], unfollowed := true, recurses := true, apart := false, narrowed := true }
def EnqueueAssignsUptoSaid : Prop := enqueueAssignsUptoRow.holds Try.pinned (OpenSpec.upto enqueueAssignsSpec)

/-- 'jobshoplaw37.EnqueueUnits', WHERE WHAT IT READS IS OF BULK AT MOST 1048576: true; the input reads as it did. -/
def enqueueUnitsUptoRow : OpenClaim := { program := "ytcdofkflbnpjjaa", sum := "512bd51e3011300230f0520251c49df82625e063c059a6d8adefa42d25c6dae9", func := "jobshop/jobshoplaw37.EnqueueUnits", spec := "enqueueUnits", inPlace := ["internal/bytealg.abigen_runtime_cmpstring"], unfollowed := true, recurses := true, apart := false, narrowed := true }
def EnqueueUnitsUptoSaid : Prop := enqueueUnitsUptoRow.holds Try.pinned (OpenSpec.upto enqueueUnitsSpec)

end Rows
end Go.Proofs.Ytcdofkflbnpjjaa
