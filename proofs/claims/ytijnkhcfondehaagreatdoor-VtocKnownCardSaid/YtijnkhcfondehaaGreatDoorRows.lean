/-
  NARROWER THAN 'FOR EVERY INPUT', by the rows' own cells (each row's printed sentence says how): VtocNames: laid · VtocFinds: laid · VtocChecks: laid · VtocActs: laid · VtocRuns: laid · VtocOthers: laid · VtocUndo: laid · VtocApart: laid · VtocKnown: laid · VtocDecodes: laid · VtocBack: laid.
  DERIVED. THE GIVEN ROWS OF THIS SEAT. 11 by the template 'for every input the law returns true; each argument reads behind the call as it read before'; 0 by the template 'total and deterministic' (their statements: YtijnkhcfondehaaGreatDoorTotals.lean).
  GIVEN WITH THE SEED: the statements are not yours to turn. If you find one false, say at which input.
  Laid BY PROGRAM, IN A SANDBOX (cutbox-rows.mjs): the forced cells as the released guide's own fill.sh prints them over the translation bdc9faf72931719f… (all of the seat's roots in one cut). By AI agents, Wed Nov 11 2026. No macro, syntax, notation, axiom, sorry.
-/
import Derived.Test.YtijnkhcfondehaaGreatDoorChecked
import GoSem.PinnedTables
import GoSem.Claim
import GoSem.ClaimJoined
import GoSem.ClaimMapViews
import Derived.JoinedTies
import Derived.KernelRfl
namespace Go.Proofs.YtijnkhcfondehaaGreatDoor
/- THE CELL 'sum', in the pinned program and in every row, IS THE sha256 OF THE DUMP (.gsa) THAT YtijnkhcfondehaaGreatDoorProg.lean LOADS. Nothing in Lean hashes anything: it is a label: what it is worth is what the hold of that sum in a sandbox is worth. -/
noncomputable def Tryz.pinned : Pinned := { name := "ytijnkhcfondehaagreatdoor", sum := "bdc9faf72931719f99a77221a364b988c561a2519587500e0113324bf78bd610", checked := Tryz.checked }
namespace Rows
def none {H : Type} : Left H := { results := [], args := [] }

/- WHAT THE LISTED PACKAGE-LEVEL VARIABLES READ AS WHEN THE CALL BEGINS. Each datum BY PROGRAM (the guide's laid-datum.mjs) off the statement by which the dump's own 'gosem.cut.vars' lays the variable. In a bare row this is a premise. The card (YtijnkhcfondehaaGreatDoorCards.lean) ties it to the program's text. -/
def laid_unicode_utf8_acceptRanges {H : Type} : DataW H := .agg [.agg [.lit (.int .u8 128), .lit (.int .u8 191)], .agg [.lit (.int .u8 160), .lit (.int .u8 191)], .agg [.lit (.int .u8 128), .lit (.int .u8 159)], .agg [.lit (.int .u8 144), .lit (.int .u8 191)], .agg [.lit (.int .u8 128), .lit (.int .u8 143)], .agg [.lit (.int .u8 0), .lit (.int .u8 0)], .agg [.lit (.int .u8 0), .lit (.int .u8 0)], .agg [.lit (.int .u8 0), .lit (.int .u8 0)], .agg [.lit (.int .u8 0), .lit (.int .u8 0)], .agg [.lit (.int .u8 0), .lit (.int .u8 0)], .agg [.lit (.int .u8 0), .lit (.int .u8 0)], .agg [.lit (.int .u8 0), .lit (.int .u8 0)], .agg [.lit (.int .u8 0), .lit (.int .u8 0)], .agg [.lit (.int .u8 0), .lit (.int .u8 0)], .agg [.lit (.int .u8 0), .lit (.int .u8 0)], .agg [.lit (.int .u8 0), .lit (.int .u8 0)]]
/-- One of Go's own tables, pinned by name: the form's constant. -/
def laid_unicode_utf8_first : DataW Unit := Go.Pinned.utf8First

/-- 'jobshoplaw21.VtocNames': WHATEVER THE INPUT: true; the input reads as it did. -/
def vtocNamesSpec : ChangeSpec := { name := "vtocNames", fn := fun _ => fun
  | [d1, d2, d3] => { results := [.lit (.bool true)], args := [d1, d2, d3] }
  | _ => none }
def vtocNamesRow : OpenClaim := { program := "ytijnkhcfondehaagreatdoor", sum := "bdc9faf72931719f99a77221a364b988c561a2519587500e0113324bf78bd610", func := "jobshop/jobshoplaw21.VtocNames", spec := "vtocNames", inPlace := ["internal/bytealg.IndexByteString", "internal/bytealg.IndexString", "internal/bytealg.CountString", "internal/bytealg.abigen_runtime_cmpstring", "slices.overlaps[jobshop/api.Dscb]"], unfollowed := true, recurses := true, named := ["unicode/utf8.first", "unicode/utf8.acceptRanges", "internal/bytealg.MaxLen"], apart := false, laid := [("unicode/utf8.acceptRanges", laid_unicode_utf8_acceptRanges), ("unicode/utf8.first", laid_unicode_utf8_first)] }
def VtocNamesSaid : Prop := vtocNamesRow.holds Tryz.pinned (OpenSpec.ofChange vtocNamesSpec)

/-- ITS FALSE NEIGHBOUR: 'it returns false'. Refute it at one input. -/
def vtocNamesWrong : ChangeSpec := { name := "vtocNames", fn := fun _ => fun
  | [d1, d2, d3] => { results := [.lit (.bool false)], args := [d1, d2, d3] }
  | _ => none }
def VtocNamesWrongFalsely : Prop := vtocNamesRow.holds Tryz.pinned (OpenSpec.ofChange vtocNamesWrong)

/-- 'jobshoplaw21.VtocFinds': WHATEVER THE INPUT: true; the input reads as it did. -/
def vtocFindsSpec : ChangeSpec := { name := "vtocFinds", fn := fun _ => fun
  | [d1, d2, d3] => { results := [.lit (.bool true)], args := [d1, d2, d3] }
  | _ => none }
def vtocFindsRow : OpenClaim := { program := "ytijnkhcfondehaagreatdoor", sum := "bdc9faf72931719f99a77221a364b988c561a2519587500e0113324bf78bd610", func := "jobshop/jobshoplaw21.VtocFinds", spec := "vtocFinds", inPlace := ["internal/bytealg.IndexByteString", "internal/bytealg.IndexString", "internal/bytealg.CountString", "internal/bytealg.abigen_runtime_cmpstring", "slices.overlaps[jobshop/api.Dscb]"], unfollowed := true, recurses := true, named := ["unicode/utf8.first", "unicode/utf8.acceptRanges", "internal/bytealg.MaxLen"], apart := false, laid := [("unicode/utf8.acceptRanges", laid_unicode_utf8_acceptRanges), ("unicode/utf8.first", laid_unicode_utf8_first)] }
def VtocFindsSaid : Prop := vtocFindsRow.holds Tryz.pinned (OpenSpec.ofChange vtocFindsSpec)

/-- ITS FALSE NEIGHBOUR: 'it returns false'. Refute it at one input. -/
def vtocFindsWrong : ChangeSpec := { name := "vtocFinds", fn := fun _ => fun
  | [d1, d2, d3] => { results := [.lit (.bool false)], args := [d1, d2, d3] }
  | _ => none }
def VtocFindsWrongFalsely : Prop := vtocFindsRow.holds Tryz.pinned (OpenSpec.ofChange vtocFindsWrong)

/-- 'jobshoplaw21.VtocChecks': WHATEVER THE INPUT: true; the input reads as it did. -/
def vtocChecksSpec : ChangeSpec := { name := "vtocChecks", fn := fun _ => fun
  | [d] => { results := [.lit (.bool true)], args := [d] }
  | _ => none }
def vtocChecksRow : OpenClaim := { program := "ytijnkhcfondehaagreatdoor", sum := "bdc9faf72931719f99a77221a364b988c561a2519587500e0113324bf78bd610", func := "jobshop/jobshoplaw21.VtocChecks", spec := "vtocChecks", inPlace := ["internal/bytealg.IndexByteString", "internal/bytealg.IndexString", "internal/bytealg.CountString", "internal/bytealg.abigen_runtime_cmpstring", "slices.overlaps[jobshop/api.Dscb]"], unfollowed := true, recurses := true, named := ["unicode/utf8.first", "unicode/utf8.acceptRanges", "internal/bytealg.MaxLen"], apart := false, laid := [("unicode/utf8.acceptRanges", laid_unicode_utf8_acceptRanges), ("unicode/utf8.first", laid_unicode_utf8_first)] }
def VtocChecksSaid : Prop := vtocChecksRow.holds Tryz.pinned (OpenSpec.ofChange vtocChecksSpec)

/-- ITS FALSE NEIGHBOUR: 'it returns false'. Refute it at one input. -/
def vtocChecksWrong : ChangeSpec := { name := "vtocChecks", fn := fun _ => fun
  | [d] => { results := [.lit (.bool false)], args := [d] }
  | _ => none }
def VtocChecksWrongFalsely : Prop := vtocChecksRow.holds Tryz.pinned (OpenSpec.ofChange vtocChecksWrong)

/-- 'jobshoplaw21.VtocActs': WHATEVER THE INPUT: true; the input reads as it did. -/
def vtocActsSpec : ChangeSpec := { name := "vtocActs", fn := fun _ => fun
  | [d1, d2] => { results := [.lit (.bool true)], args := [d1, d2] }
  | _ => none }
def vtocActsRow : OpenClaim := { program := "ytijnkhcfondehaagreatdoor", sum := "bdc9faf72931719f99a77221a364b988c561a2519587500e0113324bf78bd610", func := "jobshop/jobshoplaw21.VtocActs", spec := "vtocActs", inPlace := ["internal/bytealg.IndexByteString", "internal/bytealg.IndexString", "internal/bytealg.CountString", "internal/bytealg.abigen_runtime_cmpstring", "slices.overlaps[jobshop/api.Dscb]"], unfollowed := true, recurses := true, named := ["unicode/utf8.first", "unicode/utf8.acceptRanges", "internal/bytealg.MaxLen"], apart := false, laid := [("unicode/utf8.acceptRanges", laid_unicode_utf8_acceptRanges), ("unicode/utf8.first", laid_unicode_utf8_first)] }
def VtocActsSaid : Prop := vtocActsRow.holds Tryz.pinned (OpenSpec.ofChange vtocActsSpec)

/-- ITS FALSE NEIGHBOUR: 'it returns false'. Refute it at one input. -/
def vtocActsWrong : ChangeSpec := { name := "vtocActs", fn := fun _ => fun
  | [d1, d2] => { results := [.lit (.bool false)], args := [d1, d2] }
  | _ => none }
def VtocActsWrongFalsely : Prop := vtocActsRow.holds Tryz.pinned (OpenSpec.ofChange vtocActsWrong)

/-- 'jobshoplaw21.VtocRuns': WHATEVER THE INPUT: true; the input reads as it did. -/
def vtocRunsSpec : ChangeSpec := { name := "vtocRuns", fn := fun _ => fun
  | [d1, d2] => { results := [.lit (.bool true)], args := [d1, d2] }
  | _ => none }
def vtocRunsRow : OpenClaim := { program := "ytijnkhcfondehaagreatdoor", sum := "bdc9faf72931719f99a77221a364b988c561a2519587500e0113324bf78bd610", func := "jobshop/jobshoplaw21.VtocRuns", spec := "vtocRuns", inPlace := ["internal/bytealg.IndexByteString", "internal/bytealg.IndexString", "internal/bytealg.CountString", "internal/bytealg.abigen_runtime_cmpstring", "slices.overlaps[jobshop/api.Dscb]"], unfollowed := true, recurses := true, named := ["unicode/utf8.first", "unicode/utf8.acceptRanges", "internal/bytealg.MaxLen"], apart := false, laid := [("unicode/utf8.acceptRanges", laid_unicode_utf8_acceptRanges), ("unicode/utf8.first", laid_unicode_utf8_first)] }
def VtocRunsSaid : Prop := vtocRunsRow.holds Tryz.pinned (OpenSpec.ofChange vtocRunsSpec)

/-- ITS FALSE NEIGHBOUR: 'it returns false'. Refute it at one input. -/
def vtocRunsWrong : ChangeSpec := { name := "vtocRuns", fn := fun _ => fun
  | [d1, d2] => { results := [.lit (.bool false)], args := [d1, d2] }
  | _ => none }
def VtocRunsWrongFalsely : Prop := vtocRunsRow.holds Tryz.pinned (OpenSpec.ofChange vtocRunsWrong)

/-- 'jobshoplaw21.VtocOthers': WHATEVER THE INPUT: true; the input reads as it did. -/
def vtocOthersSpec : ChangeSpec := { name := "vtocOthers", fn := fun _ => fun
  | [d1, d2, d3] => { results := [.lit (.bool true)], args := [d1, d2, d3] }
  | _ => none }
def vtocOthersRow : OpenClaim := { program := "ytijnkhcfondehaagreatdoor", sum := "bdc9faf72931719f99a77221a364b988c561a2519587500e0113324bf78bd610", func := "jobshop/jobshoplaw21.VtocOthers", spec := "vtocOthers", inPlace := ["internal/bytealg.IndexByteString", "internal/bytealg.IndexString", "internal/bytealg.CountString", "internal/bytealg.abigen_runtime_cmpstring", "slices.overlaps[jobshop/api.Dscb]"], unfollowed := true, recurses := true, named := ["unicode/utf8.first", "unicode/utf8.acceptRanges", "internal/bytealg.MaxLen"], apart := false, laid := [("unicode/utf8.acceptRanges", laid_unicode_utf8_acceptRanges), ("unicode/utf8.first", laid_unicode_utf8_first)] }
def VtocOthersSaid : Prop := vtocOthersRow.holds Tryz.pinned (OpenSpec.ofChange vtocOthersSpec)

/-- ITS FALSE NEIGHBOUR: 'it returns false'. Refute it at one input. -/
def vtocOthersWrong : ChangeSpec := { name := "vtocOthers", fn := fun _ => fun
  | [d1, d2, d3] => { results := [.lit (.bool false)], args := [d1, d2, d3] }
  | _ => none }
def VtocOthersWrongFalsely : Prop := vtocOthersRow.holds Tryz.pinned (OpenSpec.ofChange vtocOthersWrong)

/-- 'jobshoplaw21.VtocUndo': WHATEVER THE INPUT: true; the input reads as it did. -/
def vtocUndoSpec : ChangeSpec := { name := "vtocUndo", fn := fun _ => fun
  | [d1, d2, d3] => { results := [.lit (.bool true)], args := [d1, d2, d3] }
  | _ => none }
def vtocUndoRow : OpenClaim := { program := "ytijnkhcfondehaagreatdoor", sum := "bdc9faf72931719f99a77221a364b988c561a2519587500e0113324bf78bd610", func := "jobshop/jobshoplaw21.VtocUndo", spec := "vtocUndo", inPlace := ["internal/bytealg.IndexByteString", "internal/bytealg.IndexString", "internal/bytealg.CountString", "internal/bytealg.abigen_runtime_cmpstring", "slices.overlaps[jobshop/api.Dscb]"], unfollowed := true, recurses := true, named := ["unicode/utf8.first", "unicode/utf8.acceptRanges", "internal/bytealg.MaxLen"], apart := false, laid := [("unicode/utf8.acceptRanges", laid_unicode_utf8_acceptRanges), ("unicode/utf8.first", laid_unicode_utf8_first)] }
def VtocUndoSaid : Prop := vtocUndoRow.holds Tryz.pinned (OpenSpec.ofChange vtocUndoSpec)

/-- ITS FALSE NEIGHBOUR: 'it returns false'. Refute it at one input. -/
def vtocUndoWrong : ChangeSpec := { name := "vtocUndo", fn := fun _ => fun
  | [d1, d2, d3] => { results := [.lit (.bool false)], args := [d1, d2, d3] }
  | _ => none }
def VtocUndoWrongFalsely : Prop := vtocUndoRow.holds Tryz.pinned (OpenSpec.ofChange vtocUndoWrong)

/-- 'jobshoplaw21.VtocApart': WHATEVER THE INPUT: true; the input reads as it did. -/
def vtocApartSpec : ChangeSpec := { name := "vtocApart", fn := fun _ => fun
  | [d1, d2] => { results := [.lit (.bool true)], args := [d1, d2] }
  | _ => none }
def vtocApartRow : OpenClaim := { program := "ytijnkhcfondehaagreatdoor", sum := "bdc9faf72931719f99a77221a364b988c561a2519587500e0113324bf78bd610", func := "jobshop/jobshoplaw21.VtocApart", spec := "vtocApart", inPlace := ["internal/bytealg.IndexByteString", "internal/bytealg.IndexString", "internal/bytealg.CountString", "internal/bytealg.abigen_runtime_cmpstring", "slices.overlaps[jobshop/api.Dscb]"], unfollowed := true, recurses := true, named := ["unicode/utf8.first", "unicode/utf8.acceptRanges", "internal/bytealg.MaxLen"], apart := false, laid := [("unicode/utf8.acceptRanges", laid_unicode_utf8_acceptRanges), ("unicode/utf8.first", laid_unicode_utf8_first)] }
def VtocApartSaid : Prop := vtocApartRow.holds Tryz.pinned (OpenSpec.ofChange vtocApartSpec)

/-- ITS FALSE NEIGHBOUR: 'it returns false'. Refute it at one input. -/
def vtocApartWrong : ChangeSpec := { name := "vtocApart", fn := fun _ => fun
  | [d1, d2] => { results := [.lit (.bool false)], args := [d1, d2] }
  | _ => none }
def VtocApartWrongFalsely : Prop := vtocApartRow.holds Tryz.pinned (OpenSpec.ofChange vtocApartWrong)

/-- 'jobshoplaw21.VtocKnown': WHATEVER THE INPUT: true; the input reads as it did. -/
def vtocKnownSpec : ChangeSpec := { name := "vtocKnown", fn := fun _ => fun
  | [] => { results := [.lit (.bool true)], args := [] }
  | _ => none }
def vtocKnownRow : OpenClaim := { program := "ytijnkhcfondehaagreatdoor", sum := "bdc9faf72931719f99a77221a364b988c561a2519587500e0113324bf78bd610", func := "jobshop/jobshoplaw21.VtocKnown", spec := "vtocKnown", inPlace := ["internal/bytealg.IndexByteString", "internal/bytealg.IndexString", "internal/bytealg.CountString", "internal/bytealg.abigen_runtime_cmpstring", "slices.overlaps[jobshop/api.Dscb]"], unfollowed := true, recurses := true, named := ["unicode/utf8.first", "unicode/utf8.acceptRanges", "internal/bytealg.MaxLen"], apart := false, laid := [("unicode/utf8.acceptRanges", laid_unicode_utf8_acceptRanges), ("unicode/utf8.first", laid_unicode_utf8_first)] }
def VtocKnownSaid : Prop := vtocKnownRow.holds Tryz.pinned (OpenSpec.ofChange vtocKnownSpec)

/-- ITS FALSE NEIGHBOUR: 'it returns false'. Refute it at one input. -/
def vtocKnownWrong : ChangeSpec := { name := "vtocKnown", fn := fun _ => fun
  | [] => { results := [.lit (.bool false)], args := [] }
  | _ => none }
def VtocKnownWrongFalsely : Prop := vtocKnownRow.holds Tryz.pinned (OpenSpec.ofChange vtocKnownWrong)

/-- 'jobshoplaw21.VtocDecodes': WHATEVER THE INPUT: true; the input reads as it did. -/
def vtocDecodesSpec : ChangeSpec := { name := "vtocDecodes", fn := fun _ => fun
  | [d] => { results := [.lit (.bool true)], args := [d] }
  | _ => none }
def vtocDecodesRow : OpenClaim := { program := "ytijnkhcfondehaagreatdoor", sum := "bdc9faf72931719f99a77221a364b988c561a2519587500e0113324bf78bd610", func := "jobshop/jobshoplaw21.VtocDecodes", spec := "vtocDecodes", inPlace := ["internal/bytealg.IndexByteString", "internal/bytealg.IndexString", "internal/bytealg.CountString", "internal/bytealg.abigen_runtime_cmpstring", "slices.overlaps[jobshop/api.Dscb]", "internal/abi.NoEscape"], unfollowed := true, recurses := true, named := ["unicode/utf8.first", "unicode/utf8.acceptRanges", "internal/bytealg.MaxLen"], apart := false, laid := [("unicode/utf8.acceptRanges", laid_unicode_utf8_acceptRanges), ("unicode/utf8.first", laid_unicode_utf8_first)] }
def VtocDecodesSaid : Prop := vtocDecodesRow.holds Tryz.pinned (OpenSpec.ofChange vtocDecodesSpec)

/-- ITS FALSE NEIGHBOUR: 'it returns false'. Refute it at one input. -/
def vtocDecodesWrong : ChangeSpec := { name := "vtocDecodes", fn := fun _ => fun
  | [d] => { results := [.lit (.bool false)], args := [d] }
  | _ => none }
def VtocDecodesWrongFalsely : Prop := vtocDecodesRow.holds Tryz.pinned (OpenSpec.ofChange vtocDecodesWrong)

/-- 'jobshoplaw21.VtocBack': WHATEVER THE INPUT: true; the input reads as it did. -/
def vtocBackSpec : ChangeSpec := { name := "vtocBack", fn := fun _ => fun
  | [d1, d2] => { results := [.lit (.bool true)], args := [d1, d2] }
  | _ => none }
def vtocBackRow : OpenClaim := { program := "ytijnkhcfondehaagreatdoor", sum := "bdc9faf72931719f99a77221a364b988c561a2519587500e0113324bf78bd610", func := "jobshop/jobshoplaw21.VtocBack", spec := "vtocBack", inPlace := ["internal/bytealg.IndexByteString", "internal/bytealg.IndexString", "internal/bytealg.CountString", "internal/bytealg.abigen_runtime_cmpstring", "slices.overlaps[jobshop/api.Dscb]", "internal/abi.NoEscape"], unfollowed := true, recurses := true, named := ["unicode/utf8.first", "unicode/utf8.acceptRanges", "internal/bytealg.MaxLen"], apart := false, laid := [("unicode/utf8.acceptRanges", laid_unicode_utf8_acceptRanges), ("unicode/utf8.first", laid_unicode_utf8_first)] }
def VtocBackSaid : Prop := vtocBackRow.holds Tryz.pinned (OpenSpec.ofChange vtocBackSpec)

/-- ITS FALSE NEIGHBOUR: 'it returns false'. Refute it at one input. -/
def vtocBackWrong : ChangeSpec := { name := "vtocBack", fn := fun _ => fun
  | [d1, d2] => { results := [.lit (.bool false)], args := [d1, d2] }
  | _ => none }
def VtocBackWrongFalsely : Prop := vtocBackRow.holds Tryz.pinned (OpenSpec.ofChange vtocBackWrong)

/- THE SECOND FORM. 'bulk': how many values and letters a reading holds, each counted each time it is reached (what is shared counts as often as it is met; a slice's spare places count too). A statement '..UptoSaid' is the law's where the arguments, and the package variables that the reading takes, are together of bulk at most 1048576: NARROWER than '..Said'. Prove '..Said' where nothing that the law and all that it calls make is longer than what came in: it says more and counts as full. Else prove '..UptoSaid'. A law counts once. -/
mutual
def uptoBulk {H : Type} : DataW H → Nat
  | .lit (.string bytes) => bytes.length + 1
  | .lit _ => 1
  | .nil => 1
  | .ptr d => uptoBulk d + 1
  | .slice elems spare => uptoBulkAll elems + uptoBulkAll spare + 1
  | .agg parts => uptoBulkAll parts + 1
  | .iface _ d => uptoBulk d + 1
  | .map entries => uptoBulkEntries entries + 1
  | .held _ => 1
def uptoBulkAll {H : Type} : List (DataW H) → Nat
  | [] => 0
  | d :: r => uptoBulk d + uptoBulkAll r
def uptoBulkEntries {H : Type} : List (Lit × DataW H) → Nat
  | [] => 0
  | x :: r => uptoBulkEntry x + uptoBulkEntries r
def uptoBulkEntry {H : Type} : Lit × DataW H → Nat
  | (.string bytes, d) => bytes.length + uptoBulk d + 1
  | (_, d) => uptoBulk d + 1
 end
def uptoSmall : (H : Type) → List (DataW H) → Bool := fun _ ds => decide (uptoBulkAll ds ≤ 1048576)
def OpenSpec.upto (s : _root_.Go.ChangeSpec) : _root_.Go.OpenSpec := { _root_.Go.OpenSpec.ofChange s with cond := some uptoSmall }

/-- 'jobshoplaw21.VtocNames', WHERE WHAT IT READS IS OF BULK AT MOST 1048576: true; the input reads as it did. -/
def vtocNamesUptoRow : OpenClaim := { program := "ytijnkhcfondehaagreatdoor", sum := "bdc9faf72931719f99a77221a364b988c561a2519587500e0113324bf78bd610", func := "jobshop/jobshoplaw21.VtocNames", spec := "vtocNames", inPlace := ["internal/bytealg.IndexByteString", "internal/bytealg.IndexString", "internal/bytealg.CountString", "internal/bytealg.abigen_runtime_cmpstring", "slices.overlaps[jobshop/api.Dscb]"], unfollowed := true, recurses := true, named := ["unicode/utf8.first", "unicode/utf8.acceptRanges", "internal/bytealg.MaxLen"], apart := false, laid := [("unicode/utf8.acceptRanges", laid_unicode_utf8_acceptRanges), ("unicode/utf8.first", laid_unicode_utf8_first)], narrowed := true }
def VtocNamesUptoSaid : Prop := vtocNamesUptoRow.holds Tryz.pinned (OpenSpec.upto vtocNamesSpec)

/-- 'jobshoplaw21.VtocFinds', WHERE WHAT IT READS IS OF BULK AT MOST 1048576: true; the input reads as it did. -/
def vtocFindsUptoRow : OpenClaim := { program := "ytijnkhcfondehaagreatdoor", sum := "bdc9faf72931719f99a77221a364b988c561a2519587500e0113324bf78bd610", func := "jobshop/jobshoplaw21.VtocFinds", spec := "vtocFinds", inPlace := ["internal/bytealg.IndexByteString", "internal/bytealg.IndexString", "internal/bytealg.CountString", "internal/bytealg.abigen_runtime_cmpstring", "slices.overlaps[jobshop/api.Dscb]"], unfollowed := true, recurses := true, named := ["unicode/utf8.first", "unicode/utf8.acceptRanges", "internal/bytealg.MaxLen"], apart := false, laid := [("unicode/utf8.acceptRanges", laid_unicode_utf8_acceptRanges), ("unicode/utf8.first", laid_unicode_utf8_first)], narrowed := true }
def VtocFindsUptoSaid : Prop := vtocFindsUptoRow.holds Tryz.pinned (OpenSpec.upto vtocFindsSpec)

/-- 'jobshoplaw21.VtocChecks', WHERE WHAT IT READS IS OF BULK AT MOST 1048576: true; the input reads as it did. -/
def vtocChecksUptoRow : OpenClaim := { program := "ytijnkhcfondehaagreatdoor", sum := "bdc9faf72931719f99a77221a364b988c561a2519587500e0113324bf78bd610", func := "jobshop/jobshoplaw21.VtocChecks", spec := "vtocChecks", inPlace := ["internal/bytealg.IndexByteString", "internal/bytealg.IndexString", "internal/bytealg.CountString", "internal/bytealg.abigen_runtime_cmpstring", "slices.overlaps[jobshop/api.Dscb]"], unfollowed := true, recurses := true, named := ["unicode/utf8.first", "unicode/utf8.acceptRanges", "internal/bytealg.MaxLen"], apart := false, laid := [("unicode/utf8.acceptRanges", laid_unicode_utf8_acceptRanges), ("unicode/utf8.first", laid_unicode_utf8_first)], narrowed := true }
def VtocChecksUptoSaid : Prop := vtocChecksUptoRow.holds Tryz.pinned (OpenSpec.upto vtocChecksSpec)

/-- 'jobshoplaw21.VtocActs', WHERE WHAT IT READS IS OF BULK AT MOST 1048576: true; the input reads as it did. -/
def vtocActsUptoRow : OpenClaim := { program := "ytijnkhcfondehaagreatdoor", sum := "bdc9faf72931719f99a77221a364b988c561a2519587500e0113324bf78bd610", func := "jobshop/jobshoplaw21.VtocActs", spec := "vtocActs", inPlace := ["internal/bytealg.IndexByteString", "internal/bytealg.IndexString", "internal/bytealg.CountString", "internal/bytealg.abigen_runtime_cmpstring", "slices.overlaps[jobshop/api.Dscb]"], unfollowed := true, recurses := true, named := ["unicode/utf8.first", "unicode/utf8.acceptRanges", "internal/bytealg.MaxLen"], apart := false, laid := [("unicode/utf8.acceptRanges", laid_unicode_utf8_acceptRanges), ("unicode/utf8.first", laid_unicode_utf8_first)], narrowed := true }
def VtocActsUptoSaid : Prop := vtocActsUptoRow.holds Tryz.pinned (OpenSpec.upto vtocActsSpec)

/-- 'jobshoplaw21.VtocRuns', WHERE WHAT IT READS IS OF BULK AT MOST 1048576: true; the input reads as it did. -/
def vtocRunsUptoRow : OpenClaim := { program := "ytijnkhcfondehaagreatdoor", sum := "bdc9faf72931719f99a77221a364b988c561a2519587500e0113324bf78bd610", func := "jobshop/jobshoplaw21.VtocRuns", spec := "vtocRuns", inPlace := ["internal/bytealg.IndexByteString", "internal/bytealg.IndexString", "internal/bytealg.CountString", "internal/bytealg.abigen_runtime_cmpstring", "slices.overlaps[jobshop/api.Dscb]"], unfollowed := true, recurses := true, named := ["unicode/utf8.first", "unicode/utf8.acceptRanges", "internal/bytealg.MaxLen"], apart := false, laid := [("unicode/utf8.acceptRanges", laid_unicode_utf8_acceptRanges), ("unicode/utf8.first", laid_unicode_utf8_first)], narrowed := true }
def VtocRunsUptoSaid : Prop := vtocRunsUptoRow.holds Tryz.pinned (OpenSpec.upto vtocRunsSpec)

/-- 'jobshoplaw21.VtocOthers', WHERE WHAT IT READS IS OF BULK AT MOST 1048576: true; the input reads as it did. -/
def vtocOthersUptoRow : OpenClaim := { program := "ytijnkhcfondehaagreatdoor", sum := "bdc9faf72931719f99a77221a364b988c561a2519587500e0113324bf78bd610", func := "jobshop/jobshoplaw21.VtocOthers", spec := "vtocOthers", inPlace := ["internal/bytealg.IndexByteString", "internal/bytealg.IndexString", "internal/bytealg.CountString", "internal/bytealg.abigen_runtime_cmpstring", "slices.overlaps[jobshop/api.Dscb]"], unfollowed := true, recurses := true, named := ["unicode/utf8.first", "unicode/utf8.acceptRanges", "internal/bytealg.MaxLen"], apart := false, laid := [("unicode/utf8.acceptRanges", laid_unicode_utf8_acceptRanges), ("unicode/utf8.first", laid_unicode_utf8_first)], narrowed := true }
def VtocOthersUptoSaid : Prop := vtocOthersUptoRow.holds Tryz.pinned (OpenSpec.upto vtocOthersSpec)

/-- 'jobshoplaw21.VtocUndo', WHERE WHAT IT READS IS OF BULK AT MOST 1048576: true; the input reads as it did. -/
def vtocUndoUptoRow : OpenClaim := { program := "ytijnkhcfondehaagreatdoor", sum := "bdc9faf72931719f99a77221a364b988c561a2519587500e0113324bf78bd610", func := "jobshop/jobshoplaw21.VtocUndo", spec := "vtocUndo", inPlace := ["internal/bytealg.IndexByteString", "internal/bytealg.IndexString", "internal/bytealg.CountString", "internal/bytealg.abigen_runtime_cmpstring", "slices.overlaps[jobshop/api.Dscb]"], unfollowed := true, recurses := true, named := ["unicode/utf8.first", "unicode/utf8.acceptRanges", "internal/bytealg.MaxLen"], apart := false, laid := [("unicode/utf8.acceptRanges", laid_unicode_utf8_acceptRanges), ("unicode/utf8.first", laid_unicode_utf8_first)], narrowed := true }
def VtocUndoUptoSaid : Prop := vtocUndoUptoRow.holds Tryz.pinned (OpenSpec.upto vtocUndoSpec)

/-- 'jobshoplaw21.VtocApart', WHERE WHAT IT READS IS OF BULK AT MOST 1048576: true; the input reads as it did. -/
def vtocApartUptoRow : OpenClaim := { program := "ytijnkhcfondehaagreatdoor", sum := "bdc9faf72931719f99a77221a364b988c561a2519587500e0113324bf78bd610", func := "jobshop/jobshoplaw21.VtocApart", spec := "vtocApart", inPlace := ["internal/bytealg.IndexByteString", "internal/bytealg.IndexString", "internal/bytealg.CountString", "internal/bytealg.abigen_runtime_cmpstring", "slices.overlaps[jobshop/api.Dscb]"], unfollowed := true, recurses := true, named := ["unicode/utf8.first", "unicode/utf8.acceptRanges", "internal/bytealg.MaxLen"], apart := false, laid := [("unicode/utf8.acceptRanges", laid_unicode_utf8_acceptRanges), ("unicode/utf8.first", laid_unicode_utf8_first)], narrowed := true }
def VtocApartUptoSaid : Prop := vtocApartUptoRow.holds Tryz.pinned (OpenSpec.upto vtocApartSpec)

/-- 'jobshoplaw21.VtocKnown', WHERE WHAT IT READS IS OF BULK AT MOST 1048576: true; the input reads as it did. -/
def vtocKnownUptoRow : OpenClaim := { program := "ytijnkhcfondehaagreatdoor", sum := "bdc9faf72931719f99a77221a364b988c561a2519587500e0113324bf78bd610", func := "jobshop/jobshoplaw21.VtocKnown", spec := "vtocKnown", inPlace := ["internal/bytealg.IndexByteString", "internal/bytealg.IndexString", "internal/bytealg.CountString", "internal/bytealg.abigen_runtime_cmpstring", "slices.overlaps[jobshop/api.Dscb]"], unfollowed := true, recurses := true, named := ["unicode/utf8.first", "unicode/utf8.acceptRanges", "internal/bytealg.MaxLen"], apart := false, laid := [("unicode/utf8.acceptRanges", laid_unicode_utf8_acceptRanges), ("unicode/utf8.first", laid_unicode_utf8_first)], narrowed := true }
def VtocKnownUptoSaid : Prop := vtocKnownUptoRow.holds Tryz.pinned (OpenSpec.upto vtocKnownSpec)

/-- 'jobshoplaw21.VtocDecodes', WHERE WHAT IT READS IS OF BULK AT MOST 1048576: true; the input reads as it did. -/
def vtocDecodesUptoRow : OpenClaim := { program := "ytijnkhcfondehaagreatdoor", sum := "bdc9faf72931719f99a77221a364b988c561a2519587500e0113324bf78bd610", func := "jobshop/jobshoplaw21.VtocDecodes", spec := "vtocDecodes", inPlace := ["internal/bytealg.IndexByteString", "internal/bytealg.IndexString", "internal/bytealg.CountString", "internal/bytealg.abigen_runtime_cmpstring", "slices.overlaps[jobshop/api.Dscb]", "internal/abi.NoEscape"], unfollowed := true, recurses := true, named := ["unicode/utf8.first", "unicode/utf8.acceptRanges", "internal/bytealg.MaxLen"], apart := false, laid := [("unicode/utf8.acceptRanges", laid_unicode_utf8_acceptRanges), ("unicode/utf8.first", laid_unicode_utf8_first)], narrowed := true }
def VtocDecodesUptoSaid : Prop := vtocDecodesUptoRow.holds Tryz.pinned (OpenSpec.upto vtocDecodesSpec)

/-- 'jobshoplaw21.VtocBack', WHERE WHAT IT READS IS OF BULK AT MOST 1048576: true; the input reads as it did. -/
def vtocBackUptoRow : OpenClaim := { program := "ytijnkhcfondehaagreatdoor", sum := "bdc9faf72931719f99a77221a364b988c561a2519587500e0113324bf78bd610", func := "jobshop/jobshoplaw21.VtocBack", spec := "vtocBack", inPlace := ["internal/bytealg.IndexByteString", "internal/bytealg.IndexString", "internal/bytealg.CountString", "internal/bytealg.abigen_runtime_cmpstring", "slices.overlaps[jobshop/api.Dscb]", "internal/abi.NoEscape"], unfollowed := true, recurses := true, named := ["unicode/utf8.first", "unicode/utf8.acceptRanges", "internal/bytealg.MaxLen"], apart := false, laid := [("unicode/utf8.acceptRanges", laid_unicode_utf8_acceptRanges), ("unicode/utf8.first", laid_unicode_utf8_first)], narrowed := true }
def VtocBackUptoSaid : Prop := vtocBackUptoRow.holds Tryz.pinned (OpenSpec.upto vtocBackSpec)

end Rows
end Go.Proofs.YtijnkhcfondehaaGreatDoor
