/-
  DERIVED. GIVEN WITH THE SEED: THE CARDS: each row of YtfhnelkbiihpiaaGreatDoorRows.lean that lists a variable, with what it lists TIED to the program's text (the seventh form; the later family's looks); each row that meets fmt, with fmt's text TOLD by the authors' own Lean function (tested against real Go, not proved from fmt's source: count such statements apart). THE CARD IS WHAT COUNTS. Prove the row's statement (the work); the ties are given (YtfhnelkbiihpiaaGreatDoorTie.lean); close each card by the builder's one call (the guide's Derived/Test/ToyasCard.lean, 'card_holds'). Laid BY PROGRAM, IN A SANDBOX (cutbox-door.mjs). By AI agents, Wed Nov 11 2026. No macro, syntax, notation, axiom, sorry.
-/
import Derived.Test.YtfhnelkbiihpiaaGreatDoorRows
import GoSem.ClaimSeven
namespace Go.Proofs.YtfhnelkbiihpiaaGreatDoor
namespace Rows

/-- THE TIED CARD OF 'jobshoplaw32.LinkLinks'. -/
def linkLinksCard : Claim7 := { stood := { row := linkLinksRow, standIns := [], harness := (true, "5c023aab72aab581879daa8653cca74cde9fd0e96c39a7e15b219aa1ed13f715"), looks := false }, kinds := [], alts := [], laidByText := true, laidKinds := [.data, .pinned], laidTests := true, laidLooks := .later }
def LinkLinksCardSaid : Prop := Claim7.holds Tryz.pinned (.plain (OpenSpec.ofChange linkLinksSpec)) linkLinksCard

/-- THE TIED CARD OF 'jobshoplaw32.LinkValid'. -/
def linkValidCard : Claim7 := { stood := { row := linkValidRow, standIns := [], harness := (true, "5c023aab72aab581879daa8653cca74cde9fd0e96c39a7e15b219aa1ed13f715"), looks := false }, kinds := [], alts := [], laidByText := true, laidKinds := [.data, .pinned], laidTests := true, laidLooks := .later }
def LinkValidCardSaid : Prop := Claim7.holds Tryz.pinned (.plain (OpenSpec.ofChange linkValidSpec)) linkValidCard

/-- THE TIED CARD OF 'jobshoplaw32.LinkRepeats'. -/
def linkRepeatsCard : Claim7 := { stood := { row := linkRepeatsRow, standIns := [], harness := (true, "5c023aab72aab581879daa8653cca74cde9fd0e96c39a7e15b219aa1ed13f715"), looks := false }, kinds := [], alts := [], laidByText := true, laidKinds := [.data, .pinned], laidTests := true, laidLooks := .later }
def LinkRepeatsCardSaid : Prop := Claim7.holds Tryz.pinned (.plain (OpenSpec.ofChange linkRepeatsSpec)) linkRepeatsCard

/-- THE TIED CARD OF 'jobshoplaw32.LinkBytes'. -/
def linkBytesCard : Claim7 := { stood := { row := linkBytesRow, standIns := [], harness := (true, "5c023aab72aab581879daa8653cca74cde9fd0e96c39a7e15b219aa1ed13f715"), looks := false }, kinds := [], alts := [], laidByText := true, laidKinds := [.data, .pinned], laidTests := true, laidLooks := .later }
def LinkBytesCardSaid : Prop := Claim7.holds Tryz.pinned (.plain (OpenSpec.ofChange linkBytesSpec)) linkBytesCard

/-- THE TIED CARD OF 'jobshoplaw32.LinkLacks'. -/
def linkLacksCard : Claim7 := { stood := { row := linkLacksRow, standIns := [], harness := (true, "5c023aab72aab581879daa8653cca74cde9fd0e96c39a7e15b219aa1ed13f715"), looks := false }, kinds := [], alts := [], laidByText := true, laidKinds := [.data, .pinned], laidTests := true, laidLooks := .later }
def LinkLacksCardSaid : Prop := Claim7.holds Tryz.pinned (.plain (OpenSpec.ofChange linkLacksSpec)) linkLacksCard

/-- THE TIED CARD OF 'jobshoplaw32.LinkKnown'. -/
def linkKnownCard : Claim7 := { stood := { row := linkKnownRow, standIns := [], harness := (true, "5c023aab72aab581879daa8653cca74cde9fd0e96c39a7e15b219aa1ed13f715"), looks := false }, kinds := [], alts := [], laidByText := true, laidKinds := [.data, .pinned], laidTests := true, laidLooks := .later }
def LinkKnownCardSaid : Prop := Claim7.holds Tryz.pinned (.plain (OpenSpec.ofChange linkKnownSpec)) linkKnownCard

/-- THE TIED CARD OF 'jobshoplaw32.LinkTwice'. -/
def linkTwiceCard : Claim7 := { stood := { row := linkTwiceRow, standIns := [], harness := (true, "5c023aab72aab581879daa8653cca74cde9fd0e96c39a7e15b219aa1ed13f715"), looks := false }, kinds := [], alts := [], laidByText := true, laidKinds := [.data, .pinned], laidTests := true, laidLooks := .later }
def LinkTwiceCardSaid : Prop := Claim7.holds Tryz.pinned (.plain (OpenSpec.ofChange linkTwiceSpec)) linkTwiceCard

/-- THE TIED CARD OF 'jobshoplaw32.LinkMoves'. -/
def linkMovesCard : Claim7 := { stood := { row := linkMovesRow, standIns := [], harness := (true, "5c023aab72aab581879daa8653cca74cde9fd0e96c39a7e15b219aa1ed13f715"), looks := false }, kinds := [], alts := [], laidByText := true, laidKinds := [.data, .pinned], laidTests := true, laidLooks := .later }
def LinkMovesCardSaid : Prop := Claim7.holds Tryz.pinned (.plain (OpenSpec.ofChange linkMovesSpec)) linkMovesCard

/-- THE SECOND FORM's CARD OF 'jobshoplaw32.LinkLinks'. -/
def linkLinksUptoCard : Claim7 := { stood := { row := linkLinksUptoRow, standIns := [], harness := (true, "5c023aab72aab581879daa8653cca74cde9fd0e96c39a7e15b219aa1ed13f715"), looks := false }, kinds := [], alts := [], laidByText := true, laidKinds := [.data, .pinned], laidTests := true, laidLooks := .later }
def LinkLinksUptoCardSaid : Prop := Claim7.holds Tryz.pinned (.plain (OpenSpec.upto linkLinksSpec)) linkLinksUptoCard

/-- THE SECOND FORM's CARD OF 'jobshoplaw32.LinkValid'. -/
def linkValidUptoCard : Claim7 := { stood := { row := linkValidUptoRow, standIns := [], harness := (true, "5c023aab72aab581879daa8653cca74cde9fd0e96c39a7e15b219aa1ed13f715"), looks := false }, kinds := [], alts := [], laidByText := true, laidKinds := [.data, .pinned], laidTests := true, laidLooks := .later }
def LinkValidUptoCardSaid : Prop := Claim7.holds Tryz.pinned (.plain (OpenSpec.upto linkValidSpec)) linkValidUptoCard

/-- THE SECOND FORM's CARD OF 'jobshoplaw32.LinkRepeats'. -/
def linkRepeatsUptoCard : Claim7 := { stood := { row := linkRepeatsUptoRow, standIns := [], harness := (true, "5c023aab72aab581879daa8653cca74cde9fd0e96c39a7e15b219aa1ed13f715"), looks := false }, kinds := [], alts := [], laidByText := true, laidKinds := [.data, .pinned], laidTests := true, laidLooks := .later }
def LinkRepeatsUptoCardSaid : Prop := Claim7.holds Tryz.pinned (.plain (OpenSpec.upto linkRepeatsSpec)) linkRepeatsUptoCard

/-- THE SECOND FORM's CARD OF 'jobshoplaw32.LinkBytes'. -/
def linkBytesUptoCard : Claim7 := { stood := { row := linkBytesUptoRow, standIns := [], harness := (true, "5c023aab72aab581879daa8653cca74cde9fd0e96c39a7e15b219aa1ed13f715"), looks := false }, kinds := [], alts := [], laidByText := true, laidKinds := [.data, .pinned], laidTests := true, laidLooks := .later }
def LinkBytesUptoCardSaid : Prop := Claim7.holds Tryz.pinned (.plain (OpenSpec.upto linkBytesSpec)) linkBytesUptoCard

/-- THE SECOND FORM's CARD OF 'jobshoplaw32.LinkLacks'. -/
def linkLacksUptoCard : Claim7 := { stood := { row := linkLacksUptoRow, standIns := [], harness := (true, "5c023aab72aab581879daa8653cca74cde9fd0e96c39a7e15b219aa1ed13f715"), looks := false }, kinds := [], alts := [], laidByText := true, laidKinds := [.data, .pinned], laidTests := true, laidLooks := .later }
def LinkLacksUptoCardSaid : Prop := Claim7.holds Tryz.pinned (.plain (OpenSpec.upto linkLacksSpec)) linkLacksUptoCard

/-- THE SECOND FORM's CARD OF 'jobshoplaw32.LinkKnown'. -/
def linkKnownUptoCard : Claim7 := { stood := { row := linkKnownUptoRow, standIns := [], harness := (true, "5c023aab72aab581879daa8653cca74cde9fd0e96c39a7e15b219aa1ed13f715"), looks := false }, kinds := [], alts := [], laidByText := true, laidKinds := [.data, .pinned], laidTests := true, laidLooks := .later }
def LinkKnownUptoCardSaid : Prop := Claim7.holds Tryz.pinned (.plain (OpenSpec.upto linkKnownSpec)) linkKnownUptoCard

/-- THE SECOND FORM's CARD OF 'jobshoplaw32.LinkTwice'. -/
def linkTwiceUptoCard : Claim7 := { stood := { row := linkTwiceUptoRow, standIns := [], harness := (true, "5c023aab72aab581879daa8653cca74cde9fd0e96c39a7e15b219aa1ed13f715"), looks := false }, kinds := [], alts := [], laidByText := true, laidKinds := [.data, .pinned], laidTests := true, laidLooks := .later }
def LinkTwiceUptoCardSaid : Prop := Claim7.holds Tryz.pinned (.plain (OpenSpec.upto linkTwiceSpec)) linkTwiceUptoCard

/-- THE SECOND FORM's CARD OF 'jobshoplaw32.LinkMoves'. -/
def linkMovesUptoCard : Claim7 := { stood := { row := linkMovesUptoRow, standIns := [], harness := (true, "5c023aab72aab581879daa8653cca74cde9fd0e96c39a7e15b219aa1ed13f715"), looks := false }, kinds := [], alts := [], laidByText := true, laidKinds := [.data, .pinned], laidTests := true, laidLooks := .later }
def LinkMovesUptoCardSaid : Prop := Claim7.holds Tryz.pinned (.plain (OpenSpec.upto linkMovesSpec)) linkMovesUptoCard
end Rows
end Go.Proofs.YtfhnelkbiihpiaaGreatDoor
