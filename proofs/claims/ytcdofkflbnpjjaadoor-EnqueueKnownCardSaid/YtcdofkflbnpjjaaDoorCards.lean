/-
  DERIVED. GIVEN WITH THE SEED: THE CARDS: each row of YtcdofkflbnpjjaaDoorRows.lean that lists a variable, with what it lists TIED to the program's text (the seventh form; the later family's looks); each row that meets fmt, with fmt's text TOLD by the authors' own Lean function (tested against real Go, not proved from fmt's source: count such statements apart). THE CARD IS WHAT COUNTS. Prove the row's statement (the work); the ties are given (YtcdofkflbnpjjaaDoorTie.lean); close each card by the builder's one call (the guide's Derived/Test/ToyasCard.lean, 'card_holds'). Laid BY PROGRAM, IN A SANDBOX (cutbox-door.mjs). By AI agents, Wed Nov 11 2026. No macro, syntax, notation, axiom, sorry.
-/
import Derived.Test.YtcdofkflbnpjjaaDoorRows
import GoSem.ClaimSeven
namespace Go.Proofs.YtcdofkflbnpjjaaDoor
namespace Rows

/-- THE TIED CARD OF 'jobshoplaw37.EnqueueWants'. -/
def enqueueWantsCard : Claim7 := { stood := { row := enqueueWantsRow, standIns := [], harness := (true, "372278000b59e5a242aba98faf35a9b0137b4b72d98488781aef28978be86414"), looks := false }, kinds := [], alts := [], laidByText := true, laidKinds := [.data, .pinned], laidTests := true, laidLooks := .later }
def EnqueueWantsCardSaid : Prop := Claim7.holds Tryd.pinned (.plain (OpenSpec.ofChange enqueueWantsSpec)) enqueueWantsCard

/-- THE TIED CARD OF 'jobshoplaw37.EnqueueKnown'. -/
def enqueueKnownCard : Claim7 := { stood := { row := enqueueKnownRow, standIns := [], harness := (true, "372278000b59e5a242aba98faf35a9b0137b4b72d98488781aef28978be86414"), looks := false }, kinds := [], alts := [], laidByText := true, laidKinds := [.data, .pinned], laidTests := true, laidLooks := .later }
def EnqueueKnownCardSaid : Prop := Claim7.holds Tryd.pinned (.plain (OpenSpec.ofChange enqueueKnownSpec)) enqueueKnownCard

/-- THE SECOND FORM's CARD OF 'jobshoplaw37.EnqueueWants'. -/
def enqueueWantsUptoCard : Claim7 := { stood := { row := enqueueWantsUptoRow, standIns := [], harness := (true, "372278000b59e5a242aba98faf35a9b0137b4b72d98488781aef28978be86414"), looks := false }, kinds := [], alts := [], laidByText := true, laidKinds := [.data, .pinned], laidTests := true, laidLooks := .later }
def EnqueueWantsUptoCardSaid : Prop := Claim7.holds Tryd.pinned (.plain (OpenSpec.upto enqueueWantsSpec)) enqueueWantsUptoCard

/-- THE SECOND FORM's CARD OF 'jobshoplaw37.EnqueueKnown'. -/
def enqueueKnownUptoCard : Claim7 := { stood := { row := enqueueKnownUptoRow, standIns := [], harness := (true, "372278000b59e5a242aba98faf35a9b0137b4b72d98488781aef28978be86414"), looks := false }, kinds := [], alts := [], laidByText := true, laidKinds := [.data, .pinned], laidTests := true, laidLooks := .later }
def EnqueueKnownUptoCardSaid : Prop := Claim7.holds Tryd.pinned (.plain (OpenSpec.upto enqueueKnownSpec)) enqueueKnownUptoCard
end Rows
end Go.Proofs.YtcdofkflbnpjjaaDoor
