/-
  DERIVED. GIVEN WITH THE SEED: THE CARDS: each row of YtijnkhcfondehaaGreatDoorRows.lean that lists a variable, with what it lists TIED to the program's text (the seventh form; the later family's looks); each row that meets fmt, with fmt's text TOLD by the authors' own Lean function (tested against real Go, not proved from fmt's source: count such statements apart). THE CARD IS WHAT COUNTS. Prove the row's statement (the work); the ties are given (YtijnkhcfondehaaGreatDoorTie.lean); close each card by the builder's one call (the guide's Derived/Test/ToyasCard.lean, 'card_holds'). Laid BY PROGRAM, IN A SANDBOX (cutbox-door.mjs). By AI agents, Wed Nov 11 2026. No macro, syntax, notation, axiom, sorry.
-/
import Derived.Test.YtijnkhcfondehaaGreatDoorRows
import GoSem.ClaimSeven
namespace Go.Proofs.YtijnkhcfondehaaGreatDoor
namespace Rows

/-- THE TIED CARD OF 'jobshoplaw21.VtocNames'. -/
def vtocNamesCard : Claim7 := { stood := { row := vtocNamesRow, standIns := [], harness := (true, "1b44fd41d808107467f6e7021a777b4f186dfb691ed6a57f8ac24e15eb52fe58"), looks := false }, kinds := [], alts := [], laidByText := true, laidKinds := [.data, .pinned], laidTests := true, laidLooks := .later }
def VtocNamesCardSaid : Prop := Claim7.holds Tryz.pinned (.plain (OpenSpec.ofChange vtocNamesSpec)) vtocNamesCard

/-- THE TIED CARD OF 'jobshoplaw21.VtocFinds'. -/
def vtocFindsCard : Claim7 := { stood := { row := vtocFindsRow, standIns := [], harness := (true, "1b44fd41d808107467f6e7021a777b4f186dfb691ed6a57f8ac24e15eb52fe58"), looks := false }, kinds := [], alts := [], laidByText := true, laidKinds := [.data, .pinned], laidTests := true, laidLooks := .later }
def VtocFindsCardSaid : Prop := Claim7.holds Tryz.pinned (.plain (OpenSpec.ofChange vtocFindsSpec)) vtocFindsCard

/-- THE TIED CARD OF 'jobshoplaw21.VtocChecks'. -/
def vtocChecksCard : Claim7 := { stood := { row := vtocChecksRow, standIns := [], harness := (true, "1b44fd41d808107467f6e7021a777b4f186dfb691ed6a57f8ac24e15eb52fe58"), looks := false }, kinds := [], alts := [], laidByText := true, laidKinds := [.data, .pinned], laidTests := true, laidLooks := .later }
def VtocChecksCardSaid : Prop := Claim7.holds Tryz.pinned (.plain (OpenSpec.ofChange vtocChecksSpec)) vtocChecksCard

/-- THE TIED CARD OF 'jobshoplaw21.VtocActs'. -/
def vtocActsCard : Claim7 := { stood := { row := vtocActsRow, standIns := [], harness := (true, "1b44fd41d808107467f6e7021a777b4f186dfb691ed6a57f8ac24e15eb52fe58"), looks := false }, kinds := [], alts := [], laidByText := true, laidKinds := [.data, .pinned], laidTests := true, laidLooks := .later }
def VtocActsCardSaid : Prop := Claim7.holds Tryz.pinned (.plain (OpenSpec.ofChange vtocActsSpec)) vtocActsCard

/-- THE TIED CARD OF 'jobshoplaw21.VtocRuns'. -/
def vtocRunsCard : Claim7 := { stood := { row := vtocRunsRow, standIns := [], harness := (true, "1b44fd41d808107467f6e7021a777b4f186dfb691ed6a57f8ac24e15eb52fe58"), looks := false }, kinds := [], alts := [], laidByText := true, laidKinds := [.data, .pinned], laidTests := true, laidLooks := .later }
def VtocRunsCardSaid : Prop := Claim7.holds Tryz.pinned (.plain (OpenSpec.ofChange vtocRunsSpec)) vtocRunsCard

/-- THE TIED CARD OF 'jobshoplaw21.VtocOthers'. -/
def vtocOthersCard : Claim7 := { stood := { row := vtocOthersRow, standIns := [], harness := (true, "1b44fd41d808107467f6e7021a777b4f186dfb691ed6a57f8ac24e15eb52fe58"), looks := false }, kinds := [], alts := [], laidByText := true, laidKinds := [.data, .pinned], laidTests := true, laidLooks := .later }
def VtocOthersCardSaid : Prop := Claim7.holds Tryz.pinned (.plain (OpenSpec.ofChange vtocOthersSpec)) vtocOthersCard

/-- THE TIED CARD OF 'jobshoplaw21.VtocUndo'. -/
def vtocUndoCard : Claim7 := { stood := { row := vtocUndoRow, standIns := [], harness := (true, "1b44fd41d808107467f6e7021a777b4f186dfb691ed6a57f8ac24e15eb52fe58"), looks := false }, kinds := [], alts := [], laidByText := true, laidKinds := [.data, .pinned], laidTests := true, laidLooks := .later }
def VtocUndoCardSaid : Prop := Claim7.holds Tryz.pinned (.plain (OpenSpec.ofChange vtocUndoSpec)) vtocUndoCard

/-- THE TIED CARD OF 'jobshoplaw21.VtocApart'. -/
def vtocApartCard : Claim7 := { stood := { row := vtocApartRow, standIns := [], harness := (true, "1b44fd41d808107467f6e7021a777b4f186dfb691ed6a57f8ac24e15eb52fe58"), looks := false }, kinds := [], alts := [], laidByText := true, laidKinds := [.data, .pinned], laidTests := true, laidLooks := .later }
def VtocApartCardSaid : Prop := Claim7.holds Tryz.pinned (.plain (OpenSpec.ofChange vtocApartSpec)) vtocApartCard

/-- THE TIED CARD OF 'jobshoplaw21.VtocKnown'. -/
def vtocKnownCard : Claim7 := { stood := { row := vtocKnownRow, standIns := [], harness := (true, "1b44fd41d808107467f6e7021a777b4f186dfb691ed6a57f8ac24e15eb52fe58"), looks := false }, kinds := [], alts := [], laidByText := true, laidKinds := [.data, .pinned], laidTests := true, laidLooks := .later }
def VtocKnownCardSaid : Prop := Claim7.holds Tryz.pinned (.plain (OpenSpec.ofChange vtocKnownSpec)) vtocKnownCard

/-- THE TIED CARD OF 'jobshoplaw21.VtocDecodes'. -/
def vtocDecodesCard : Claim7 := { stood := { row := vtocDecodesRow, standIns := [], harness := (true, "1b44fd41d808107467f6e7021a777b4f186dfb691ed6a57f8ac24e15eb52fe58"), looks := false }, kinds := [], alts := [], laidByText := true, laidKinds := [.data, .pinned], laidTests := true, laidLooks := .later }
def VtocDecodesCardSaid : Prop := Claim7.holds Tryz.pinned (.plain (OpenSpec.ofChange vtocDecodesSpec)) vtocDecodesCard

/-- THE TIED CARD OF 'jobshoplaw21.VtocBack'. -/
def vtocBackCard : Claim7 := { stood := { row := vtocBackRow, standIns := [], harness := (true, "1b44fd41d808107467f6e7021a777b4f186dfb691ed6a57f8ac24e15eb52fe58"), looks := false }, kinds := [], alts := [], laidByText := true, laidKinds := [.data, .pinned], laidTests := true, laidLooks := .later }
def VtocBackCardSaid : Prop := Claim7.holds Tryz.pinned (.plain (OpenSpec.ofChange vtocBackSpec)) vtocBackCard

/-- THE SECOND FORM's CARD OF 'jobshoplaw21.VtocNames'. -/
def vtocNamesUptoCard : Claim7 := { stood := { row := vtocNamesUptoRow, standIns := [], harness := (true, "1b44fd41d808107467f6e7021a777b4f186dfb691ed6a57f8ac24e15eb52fe58"), looks := false }, kinds := [], alts := [], laidByText := true, laidKinds := [.data, .pinned], laidTests := true, laidLooks := .later }
def VtocNamesUptoCardSaid : Prop := Claim7.holds Tryz.pinned (.plain (OpenSpec.upto vtocNamesSpec)) vtocNamesUptoCard

/-- THE SECOND FORM's CARD OF 'jobshoplaw21.VtocFinds'. -/
def vtocFindsUptoCard : Claim7 := { stood := { row := vtocFindsUptoRow, standIns := [], harness := (true, "1b44fd41d808107467f6e7021a777b4f186dfb691ed6a57f8ac24e15eb52fe58"), looks := false }, kinds := [], alts := [], laidByText := true, laidKinds := [.data, .pinned], laidTests := true, laidLooks := .later }
def VtocFindsUptoCardSaid : Prop := Claim7.holds Tryz.pinned (.plain (OpenSpec.upto vtocFindsSpec)) vtocFindsUptoCard

/-- THE SECOND FORM's CARD OF 'jobshoplaw21.VtocChecks'. -/
def vtocChecksUptoCard : Claim7 := { stood := { row := vtocChecksUptoRow, standIns := [], harness := (true, "1b44fd41d808107467f6e7021a777b4f186dfb691ed6a57f8ac24e15eb52fe58"), looks := false }, kinds := [], alts := [], laidByText := true, laidKinds := [.data, .pinned], laidTests := true, laidLooks := .later }
def VtocChecksUptoCardSaid : Prop := Claim7.holds Tryz.pinned (.plain (OpenSpec.upto vtocChecksSpec)) vtocChecksUptoCard

/-- THE SECOND FORM's CARD OF 'jobshoplaw21.VtocActs'. -/
def vtocActsUptoCard : Claim7 := { stood := { row := vtocActsUptoRow, standIns := [], harness := (true, "1b44fd41d808107467f6e7021a777b4f186dfb691ed6a57f8ac24e15eb52fe58"), looks := false }, kinds := [], alts := [], laidByText := true, laidKinds := [.data, .pinned], laidTests := true, laidLooks := .later }
def VtocActsUptoCardSaid : Prop := Claim7.holds Tryz.pinned (.plain (OpenSpec.upto vtocActsSpec)) vtocActsUptoCard

/-- THE SECOND FORM's CARD OF 'jobshoplaw21.VtocRuns'. -/
def vtocRunsUptoCard : Claim7 := { stood := { row := vtocRunsUptoRow, standIns := [], harness := (true, "1b44fd41d808107467f6e7021a777b4f186dfb691ed6a57f8ac24e15eb52fe58"), looks := false }, kinds := [], alts := [], laidByText := true, laidKinds := [.data, .pinned], laidTests := true, laidLooks := .later }
def VtocRunsUptoCardSaid : Prop := Claim7.holds Tryz.pinned (.plain (OpenSpec.upto vtocRunsSpec)) vtocRunsUptoCard

/-- THE SECOND FORM's CARD OF 'jobshoplaw21.VtocOthers'. -/
def vtocOthersUptoCard : Claim7 := { stood := { row := vtocOthersUptoRow, standIns := [], harness := (true, "1b44fd41d808107467f6e7021a777b4f186dfb691ed6a57f8ac24e15eb52fe58"), looks := false }, kinds := [], alts := [], laidByText := true, laidKinds := [.data, .pinned], laidTests := true, laidLooks := .later }
def VtocOthersUptoCardSaid : Prop := Claim7.holds Tryz.pinned (.plain (OpenSpec.upto vtocOthersSpec)) vtocOthersUptoCard

/-- THE SECOND FORM's CARD OF 'jobshoplaw21.VtocUndo'. -/
def vtocUndoUptoCard : Claim7 := { stood := { row := vtocUndoUptoRow, standIns := [], harness := (true, "1b44fd41d808107467f6e7021a777b4f186dfb691ed6a57f8ac24e15eb52fe58"), looks := false }, kinds := [], alts := [], laidByText := true, laidKinds := [.data, .pinned], laidTests := true, laidLooks := .later }
def VtocUndoUptoCardSaid : Prop := Claim7.holds Tryz.pinned (.plain (OpenSpec.upto vtocUndoSpec)) vtocUndoUptoCard

/-- THE SECOND FORM's CARD OF 'jobshoplaw21.VtocApart'. -/
def vtocApartUptoCard : Claim7 := { stood := { row := vtocApartUptoRow, standIns := [], harness := (true, "1b44fd41d808107467f6e7021a777b4f186dfb691ed6a57f8ac24e15eb52fe58"), looks := false }, kinds := [], alts := [], laidByText := true, laidKinds := [.data, .pinned], laidTests := true, laidLooks := .later }
def VtocApartUptoCardSaid : Prop := Claim7.holds Tryz.pinned (.plain (OpenSpec.upto vtocApartSpec)) vtocApartUptoCard

/-- THE SECOND FORM's CARD OF 'jobshoplaw21.VtocKnown'. -/
def vtocKnownUptoCard : Claim7 := { stood := { row := vtocKnownUptoRow, standIns := [], harness := (true, "1b44fd41d808107467f6e7021a777b4f186dfb691ed6a57f8ac24e15eb52fe58"), looks := false }, kinds := [], alts := [], laidByText := true, laidKinds := [.data, .pinned], laidTests := true, laidLooks := .later }
def VtocKnownUptoCardSaid : Prop := Claim7.holds Tryz.pinned (.plain (OpenSpec.upto vtocKnownSpec)) vtocKnownUptoCard

/-- THE SECOND FORM's CARD OF 'jobshoplaw21.VtocDecodes'. -/
def vtocDecodesUptoCard : Claim7 := { stood := { row := vtocDecodesUptoRow, standIns := [], harness := (true, "1b44fd41d808107467f6e7021a777b4f186dfb691ed6a57f8ac24e15eb52fe58"), looks := false }, kinds := [], alts := [], laidByText := true, laidKinds := [.data, .pinned], laidTests := true, laidLooks := .later }
def VtocDecodesUptoCardSaid : Prop := Claim7.holds Tryz.pinned (.plain (OpenSpec.upto vtocDecodesSpec)) vtocDecodesUptoCard

/-- THE SECOND FORM's CARD OF 'jobshoplaw21.VtocBack'. -/
def vtocBackUptoCard : Claim7 := { stood := { row := vtocBackUptoRow, standIns := [], harness := (true, "1b44fd41d808107467f6e7021a777b4f186dfb691ed6a57f8ac24e15eb52fe58"), looks := false }, kinds := [], alts := [], laidByText := true, laidKinds := [.data, .pinned], laidTests := true, laidLooks := .later }
def VtocBackUptoCardSaid : Prop := Claim7.holds Tryz.pinned (.plain (OpenSpec.upto vtocBackSpec)) vtocBackUptoCard
end Rows
end Go.Proofs.YtijnkhcfondehaaGreatDoor
