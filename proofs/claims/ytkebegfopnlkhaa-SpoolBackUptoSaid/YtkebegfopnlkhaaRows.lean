/-
  No cell of these rows narrows 'for every input' (looked for: loops, veiled, ifaces, maps, wideKeys, modest, calm, conditions, laid).
  DERIVED. THE GIVEN ROWS OF THIS SEAT. 6 by the template 'for every input the law returns true; each argument reads behind the call as it read before'; 0 by the template 'total and deterministic' (their statements: YtkebegfopnlkhaaTotals.lean).
  GIVEN WITH THE SEED: the statements are not yours to turn. If you find one false, say at which input.
  Laid BY PROGRAM, IN A SANDBOX (cutbox-rows.mjs): the forced cells as the released guide's own fill.sh prints them over the translation e657491d2b062a9b… (all of the seat's roots in one cut). By AI agents, Wed Nov 11 2026. No macro, syntax, notation, axiom, sorry.
-/
import Derived.Test.YtkebegfopnlkhaaChecked
import GoSem.Claim
import GoSem.ClaimJoined
import GoSem.ClaimMapViews
import Derived.JoinedTies
import Derived.KernelRfl
namespace Go.Proofs.Ytkebegfopnlkhaa
/- THE CELL 'sum', in the pinned program and in every row, IS THE sha256 OF THE DUMP (.gsa) THAT YtkebegfopnlkhaaProg.lean LOADS. Nothing in Lean hashes anything: it is a label: what it is worth is what the hold of that sum in a sandbox is worth. -/
noncomputable def Try.pinned : Pinned := { name := "ytkebegfopnlkhaa", sum := "e657491d2b062a9bd1e35398fa755bf9d15084265e6391ff5d4452b4cac72a2f", checked := Try.checked }
namespace Rows
def none {H : Type} : Left H := { results := [], args := [] }

/-- 'jobshoplaw39.SpoolLays': WHATEVER THE INPUT: true; the input reads as it did. -/
def spoolLaysSpec : ChangeSpec := { name := "spoolLays", fn := fun _ => fun
  | [d] => { results := [.lit (.bool true)], args := [d] }
  | _ => none }
def spoolLaysRow : OpenClaim := { program := "ytkebegfopnlkhaa", sum := "e657491d2b062a9bd1e35398fa755bf9d15084265e6391ff5d4452b4cac72a2f", func := "jobshop/jobshoplaw39.SpoolLays", spec := "spoolLays", unfollowed := true, recurses := true, apart := false }
def SpoolLaysSaid : Prop := spoolLaysRow.holds Try.pinned (OpenSpec.ofChange spoolLaysSpec)

/-- ITS FALSE NEIGHBOUR: 'it returns false'. Refute it at one input. -/
def spoolLaysWrong : ChangeSpec := { name := "spoolLays", fn := fun _ => fun
  | [d] => { results := [.lit (.bool false)], args := [d] }
  | _ => none }
def SpoolLaysWrongFalsely : Prop := spoolLaysRow.holds Try.pinned (OpenSpec.ofChange spoolLaysWrong)

/-- 'jobshoplaw39.SpoolReads': WHATEVER THE INPUT: true; the input reads as it did. -/
def spoolReadsSpec : ChangeSpec := { name := "spoolReads", fn := fun _ => fun
  | [d1, d2, d3, d4, d5, d6] => { results := [.lit (.bool true)], args := [d1, d2, d3, d4, d5, d6] }
  | _ => none }
def spoolReadsRow : OpenClaim := { program := "ytkebegfopnlkhaa", sum := "e657491d2b062a9bd1e35398fa755bf9d15084265e6391ff5d4452b4cac72a2f", func := "jobshop/jobshoplaw39.SpoolReads", spec := "spoolReads", unfollowed := true, recurses := true, apart := false }
def SpoolReadsSaid : Prop := spoolReadsRow.holds Try.pinned (OpenSpec.ofChange spoolReadsSpec)

/-- ITS FALSE NEIGHBOUR: 'it returns false'. Refute it at one input. -/
def spoolReadsWrong : ChangeSpec := { name := "spoolReads", fn := fun _ => fun
  | [d1, d2, d3, d4, d5, d6] => { results := [.lit (.bool false)], args := [d1, d2, d3, d4, d5, d6] }
  | _ => none }
def SpoolReadsWrongFalsely : Prop := spoolReadsRow.holds Try.pinned (OpenSpec.ofChange spoolReadsWrong)

/-- 'jobshoplaw39.SpoolKeeps': WHATEVER THE INPUT: true; the input reads as it did. -/
def spoolKeepsSpec : ChangeSpec := { name := "spoolKeeps", fn := fun _ => fun
  | [d1, d2] => { results := [.lit (.bool true)], args := [d1, d2] }
  | _ => none }
def spoolKeepsRow : OpenClaim := { program := "ytkebegfopnlkhaa", sum := "e657491d2b062a9bd1e35398fa755bf9d15084265e6391ff5d4452b4cac72a2f", func := "jobshop/jobshoplaw39.SpoolKeeps", spec := "spoolKeeps", unfollowed := true, recurses := true, apart := false }
def SpoolKeepsSaid : Prop := spoolKeepsRow.holds Try.pinned (OpenSpec.ofChange spoolKeepsSpec)

/-- ITS FALSE NEIGHBOUR: 'it returns false'. Refute it at one input. -/
def spoolKeepsWrong : ChangeSpec := { name := "spoolKeeps", fn := fun _ => fun
  | [d1, d2] => { results := [.lit (.bool false)], args := [d1, d2] }
  | _ => none }
def SpoolKeepsWrongFalsely : Prop := spoolKeepsRow.holds Try.pinned (OpenSpec.ofChange spoolKeepsWrong)

/-- 'jobshoplaw39.SpoolOwn': WHATEVER THE INPUT: true; the input reads as it did. -/
def spoolOwnSpec : ChangeSpec := { name := "spoolOwn", fn := fun _ => fun
  | [d1, d2] => { results := [.lit (.bool true)], args := [d1, d2] }
  | _ => none }
def spoolOwnRow : OpenClaim := { program := "ytkebegfopnlkhaa", sum := "e657491d2b062a9bd1e35398fa755bf9d15084265e6391ff5d4452b4cac72a2f", func := "jobshop/jobshoplaw39.SpoolOwn", spec := "spoolOwn", unfollowed := true, recurses := true, apart := false }
def SpoolOwnSaid : Prop := spoolOwnRow.holds Try.pinned (OpenSpec.ofChange spoolOwnSpec)

/-- ITS FALSE NEIGHBOUR: 'it returns false'. Refute it at one input. -/
def spoolOwnWrong : ChangeSpec := { name := "spoolOwn", fn := fun _ => fun
  | [d1, d2] => { results := [.lit (.bool false)], args := [d1, d2] }
  | _ => none }
def SpoolOwnWrongFalsely : Prop := spoolOwnRow.holds Try.pinned (OpenSpec.ofChange spoolOwnWrong)

/-- 'jobshoplaw39.SpoolKnown': WHATEVER THE INPUT: true; the input reads as it did. -/
def spoolKnownSpec : ChangeSpec := { name := "spoolKnown", fn := fun _ => fun
  | [] => { results := [.lit (.bool true)], args := [] }
  | _ => none }
def spoolKnownRow : OpenClaim := { program := "ytkebegfopnlkhaa", sum := "e657491d2b062a9bd1e35398fa755bf9d15084265e6391ff5d4452b4cac72a2f", func := "jobshop/jobshoplaw39.SpoolKnown", spec := "spoolKnown", unfollowed := true, recurses := true, apart := false }
def SpoolKnownSaid : Prop := spoolKnownRow.holds Try.pinned (OpenSpec.ofChange spoolKnownSpec)

/-- ITS FALSE NEIGHBOUR: 'it returns false'. Refute it at one input. -/
def spoolKnownWrong : ChangeSpec := { name := "spoolKnown", fn := fun _ => fun
  | [] => { results := [.lit (.bool false)], args := [] }
  | _ => none }
def SpoolKnownWrongFalsely : Prop := spoolKnownRow.holds Try.pinned (OpenSpec.ofChange spoolKnownWrong)

/-- 'jobshoplaw39.SpoolBack': WHATEVER THE INPUT: true; the input reads as it did. -/
def spoolBackSpec : ChangeSpec := { name := "spoolBack", fn := fun _ => fun
  | [d1, d2, d3] => { results := [.lit (.bool true)], args := [d1, d2, d3] }
  | _ => none }
def spoolBackRow : OpenClaim := { program := "ytkebegfopnlkhaa", sum := "e657491d2b062a9bd1e35398fa755bf9d15084265e6391ff5d4452b4cac72a2f", func := "jobshop/jobshoplaw39.SpoolBack", spec := "spoolBack", unfollowed := true, recurses := true, apart := false }
def SpoolBackSaid : Prop := spoolBackRow.holds Try.pinned (OpenSpec.ofChange spoolBackSpec)

/-- ITS FALSE NEIGHBOUR: 'it returns false'. Refute it at one input. -/
def spoolBackWrong : ChangeSpec := { name := "spoolBack", fn := fun _ => fun
  | [d1, d2, d3] => { results := [.lit (.bool false)], args := [d1, d2, d3] }
  | _ => none }
def SpoolBackWrongFalsely : Prop := spoolBackRow.holds Try.pinned (OpenSpec.ofChange spoolBackWrong)

/- THE SECOND FORM. 'bulk': how many values and letters a reading holds, each counted each time it is reached (what is shared counts as often as it is met; a slice's spare places count too). A statement '..UptoSaid' is the law's where the arguments, and the package variables that the reading takes, are together of bulk at most 1048576: NARROWER than '..Said'. Prove '..Said' where nothing that the law and all that it calls make is longer than what came in: it says more and counts as full. Else prove '..UptoSaid'. A law counts once. -/
mutual
def uptoBulk {H : Type} : DataW H → Nat
  | .lit (.string bytes) => bytes.length + 1
  | .lit _ => 1
  | .nil => 1
  | .ptr d => uptoBulk d + 1
  | .slice elems spare => uptoBulkAll elems + uptoBulkAll spare + 1
  | .agg parts => uptoBulkAll parts + 1
  | .iface _ d => uptoBulk d + 1
  | .map entries => uptoBulkEntries entries + 1
  | .held _ => 1
def uptoBulkAll {H : Type} : List (DataW H) → Nat
  | [] => 0
  | d :: r => uptoBulk d + uptoBulkAll r
def uptoBulkEntries {H : Type} : List (Lit × DataW H) → Nat
  | [] => 0
  | x :: r => uptoBulkEntry x + uptoBulkEntries r
def uptoBulkEntry {H : Type} : Lit × DataW H → Nat
  | (.string bytes, d) => bytes.length + uptoBulk d + 1
  | (_, d) => uptoBulk d + 1
 end
def uptoSmall : (H : Type) → List (DataW H) → Bool := fun _ ds => decide (uptoBulkAll ds ≤ 1048576)
def OpenSpec.upto (s : _root_.Go.ChangeSpec) : _root_.Go.OpenSpec := { _root_.Go.OpenSpec.ofChange s with cond := some uptoSmall }

/-- 'jobshoplaw39.SpoolLays', WHERE WHAT IT READS IS OF BULK AT MOST 1048576: true; the input reads as it did. -/
def spoolLaysUptoRow : OpenClaim := { program := "ytkebegfopnlkhaa", sum := "e657491d2b062a9bd1e35398fa755bf9d15084265e6391ff5d4452b4cac72a2f", func := "jobshop/jobshoplaw39.SpoolLays", spec := "spoolLays", unfollowed := true, recurses := true, apart := false, narrowed := true }
def SpoolLaysUptoSaid : Prop := spoolLaysUptoRow.holds Try.pinned (OpenSpec.upto spoolLaysSpec)

/-- 'jobshoplaw39.SpoolReads', WHERE WHAT IT READS IS OF BULK AT MOST 1048576: true; the input reads as it did. -/
def spoolReadsUptoRow : OpenClaim := { program := "ytkebegfopnlkhaa", sum := "e657491d2b062a9bd1e35398fa755bf9d15084265e6391ff5d4452b4cac72a2f", func := "jobshop/jobshoplaw39.SpoolReads", spec := "spoolReads", unfollowed := true, recurses := true, apart := false, narrowed := true }
def SpoolReadsUptoSaid : Prop := spoolReadsUptoRow.holds Try.pinned (OpenSpec.upto spoolReadsSpec)

/-- 'jobshoplaw39.SpoolKeeps', WHERE WHAT IT READS IS OF BULK AT MOST 1048576: true; the input reads as it did. -/
def spoolKeepsUptoRow : OpenClaim := { program := "ytkebegfopnlkhaa", sum := "e657491d2b062a9bd1e35398fa755bf9d15084265e6391ff5d4452b4cac72a2f", func := "jobshop/jobshoplaw39.SpoolKeeps", spec := "spoolKeeps", unfollowed := true, recurses := true, apart := false, narrowed := true }
def SpoolKeepsUptoSaid : Prop := spoolKeepsUptoRow.holds Try.pinned (OpenSpec.upto spoolKeepsSpec)

/-- 'jobshoplaw39.SpoolOwn', WHERE WHAT IT READS IS OF BULK AT MOST 1048576: true; the input reads as it did. -/
def spoolOwnUptoRow : OpenClaim := { program := "ytkebegfopnlkhaa", sum := "e657491d2b062a9bd1e35398fa755bf9d15084265e6391ff5d4452b4cac72a2f", func := "jobshop/jobshoplaw39.SpoolOwn", spec := "spoolOwn", unfollowed := true, recurses := true, apart := false, narrowed := true }
def SpoolOwnUptoSaid : Prop := spoolOwnUptoRow.holds Try.pinned (OpenSpec.upto spoolOwnSpec)

/-- 'jobshoplaw39.SpoolKnown', WHERE WHAT IT READS IS OF BULK AT MOST 1048576: true; the input reads as it did. -/
def spoolKnownUptoRow : OpenClaim := { program := "ytkebegfopnlkhaa", sum := "e657491d2b062a9bd1e35398fa755bf9d15084265e6391ff5d4452b4cac72a2f", func := "jobshop/jobshoplaw39.SpoolKnown", spec := "spoolKnown", unfollowed := true, recurses := true, apart := false, narrowed := true }
def SpoolKnownUptoSaid : Prop := spoolKnownUptoRow.holds Try.pinned (OpenSpec.upto spoolKnownSpec)

/-- 'jobshoplaw39.SpoolBack', WHERE WHAT IT READS IS OF BULK AT MOST 1048576: true; the input reads as it did. -/
def spoolBackUptoRow : OpenClaim := { program := "ytkebegfopnlkhaa", sum := "e657491d2b062a9bd1e35398fa755bf9d15084265e6391ff5d4452b4cac72a2f", func := "jobshop/jobshoplaw39.SpoolBack", spec := "spoolBack", unfollowed := true, recurses := true, apart := false, narrowed := true }
def SpoolBackUptoSaid : Prop := spoolBackUptoRow.holds Try.pinned (OpenSpec.upto spoolBackSpec)

end Rows
end Go.Proofs.Ytkebegfopnlkhaa
