/-
  NARROWER THAN 'FOR EVERY INPUT', by the rows' own cells (each row's printed sentence says how): LinkLinks: laid · LinkValid: laid · LinkRepeats: laid · LinkBytes: laid · LinkLacks: laid · LinkKnown: laid · LinkTwice: laid · LinkMoves: laid.
  DERIVED. THE GIVEN ROWS OF THIS SEAT. 8 by the template 'for every input the law returns true; each argument reads behind the call as it read before'; 0 by the template 'total and deterministic' (their statements: YtfhnelkbiihpiaaGreatDoorTotals.lean).
  GIVEN WITH THE SEED: the statements are not yours to turn. If you find one false, say at which input.
  Laid BY PROGRAM, IN A SANDBOX (cutbox-rows.mjs): the forced cells as the released guide's own fill.sh prints them over the translation d8832d513f19f386… (all of the seat's roots in one cut). By AI agents, Wed Nov 11 2026. No macro, syntax, notation, axiom, sorry.
-/
import Derived.Test.YtfhnelkbiihpiaaGreatDoorChecked
import GoSem.PinnedTables
import GoSem.Claim
import GoSem.ClaimJoined
import GoSem.ClaimMapViews
import Derived.JoinedTies
import Derived.KernelRfl
namespace Go.Proofs.YtfhnelkbiihpiaaGreatDoor
/- THE CELL 'sum', in the pinned program and in every row, IS THE sha256 OF THE DUMP (.gsa) THAT YtfhnelkbiihpiaaGreatDoorProg.lean LOADS. Nothing in Lean hashes anything: it is a label: what it is worth is what the hold of that sum in a sandbox is worth. -/
noncomputable def Tryz.pinned : Pinned := { name := "ytfhnelkbiihpiaagreatdoor", sum := "d8832d513f19f3862d27a1fa9c76fbc5df13fd747ad69e9db89f57d2e3480df7", checked := Tryz.checked }
namespace Rows
def none {H : Type} : Left H := { results := [], args := [] }

/- WHAT THE LISTED PACKAGE-LEVEL VARIABLES READ AS WHEN THE CALL BEGINS. Each datum BY PROGRAM (the guide's laid-datum.mjs) off the statement by which the dump's own 'gosem.cut.vars' lays the variable. In a bare row this is a premise. The card (YtfhnelkbiihpiaaGreatDoorCards.lean) ties it to the program's text. -/
def laid_unicode_utf8_acceptRanges {H : Type} : DataW H := .agg [.agg [.lit (.int .u8 128), .lit (.int .u8 191)], .agg [.lit (.int .u8 160), .lit (.int .u8 191)], .agg [.lit (.int .u8 128), .lit (.int .u8 159)], .agg [.lit (.int .u8 144), .lit (.int .u8 191)], .agg [.lit (.int .u8 128), .lit (.int .u8 143)], .agg [.lit (.int .u8 0), .lit (.int .u8 0)], .agg [.lit (.int .u8 0), .lit (.int .u8 0)], .agg [.lit (.int .u8 0), .lit (.int .u8 0)], .agg [.lit (.int .u8 0), .lit (.int .u8 0)], .agg [.lit (.int .u8 0), .lit (.int .u8 0)], .agg [.lit (.int .u8 0), .lit (.int .u8 0)], .agg [.lit (.int .u8 0), .lit (.int .u8 0)], .agg [.lit (.int .u8 0), .lit (.int .u8 0)], .agg [.lit (.int .u8 0), .lit (.int .u8 0)], .agg [.lit (.int .u8 0), .lit (.int .u8 0)], .agg [.lit (.int .u8 0), .lit (.int .u8 0)]]
/-- One of Go's own tables, pinned by name: the form's constant. -/
def laid_unicode_utf8_first : DataW Unit := Go.Pinned.utf8First

/-- 'jobshoplaw32.LinkLinks': WHATEVER THE INPUT: true; the input reads as it did. -/
def linkLinksSpec : ChangeSpec := { name := "linkLinks", fn := fun _ => fun
  | [d1, d2] => { results := [.lit (.bool true)], args := [d1, d2] }
  | _ => none }
def linkLinksRow : OpenClaim := { program := "ytfhnelkbiihpiaagreatdoor", sum := "d8832d513f19f3862d27a1fa9c76fbc5df13fd747ad69e9db89f57d2e3480df7", func := "jobshop/jobshoplaw32.LinkLinks", spec := "linkLinks", inPlace := ["internal/bytealg.IndexByteString", "internal/bytealg.IndexString", "internal/bytealg.CountString", "internal/bytealg.abigen_runtime_cmpstring"], unfollowed := true, recurses := true, named := ["unicode/utf8.first", "unicode/utf8.acceptRanges", "internal/bytealg.MaxLen"], plainKeys := false, apart := false, laid := [("unicode/utf8.acceptRanges", laid_unicode_utf8_acceptRanges), ("unicode/utf8.first", laid_unicode_utf8_first)] }
def LinkLinksSaid : Prop := linkLinksRow.holds Tryz.pinned (OpenSpec.ofChange linkLinksSpec)

/-- ITS FALSE NEIGHBOUR: 'it returns false'. Refute it at one input. -/
def linkLinksWrong : ChangeSpec := { name := "linkLinks", fn := fun _ => fun
  | [d1, d2] => { results := [.lit (.bool false)], args := [d1, d2] }
  | _ => none }
def LinkLinksWrongFalsely : Prop := linkLinksRow.holds Tryz.pinned (OpenSpec.ofChange linkLinksWrong)

/-- 'jobshoplaw32.LinkValid': WHATEVER THE INPUT: true; the input reads as it did. -/
def linkValidSpec : ChangeSpec := { name := "linkValid", fn := fun _ => fun
  | [d1, d2] => { results := [.lit (.bool true)], args := [d1, d2] }
  | _ => none }
def linkValidRow : OpenClaim := { program := "ytfhnelkbiihpiaagreatdoor", sum := "d8832d513f19f3862d27a1fa9c76fbc5df13fd747ad69e9db89f57d2e3480df7", func := "jobshop/jobshoplaw32.LinkValid", spec := "linkValid", inPlace := ["internal/bytealg.IndexByteString", "internal/bytealg.IndexString", "internal/bytealg.CountString", "internal/bytealg.abigen_runtime_cmpstring"], unfollowed := true, recurses := true, named := ["unicode/utf8.first", "unicode/utf8.acceptRanges", "internal/bytealg.MaxLen"], plainKeys := false, apart := false, laid := [("unicode/utf8.acceptRanges", laid_unicode_utf8_acceptRanges), ("unicode/utf8.first", laid_unicode_utf8_first)] }
def LinkValidSaid : Prop := linkValidRow.holds Tryz.pinned (OpenSpec.ofChange linkValidSpec)

/-- ITS FALSE NEIGHBOUR: 'it returns false'. Refute it at one input. -/
def linkValidWrong : ChangeSpec := { name := "linkValid", fn := fun _ => fun
  | [d1, d2] => { results := [.lit (.bool false)], args := [d1, d2] }
  | _ => none }
def LinkValidWrongFalsely : Prop := linkValidRow.holds Tryz.pinned (OpenSpec.ofChange linkValidWrong)

/-- 'jobshoplaw32.LinkRepeats': WHATEVER THE INPUT: true; the input reads as it did. -/
def linkRepeatsSpec : ChangeSpec := { name := "linkRepeats", fn := fun _ => fun
  | [d1, d2] => { results := [.lit (.bool true)], args := [d1, d2] }
  | _ => none }
def linkRepeatsRow : OpenClaim := { program := "ytfhnelkbiihpiaagreatdoor", sum := "d8832d513f19f3862d27a1fa9c76fbc5df13fd747ad69e9db89f57d2e3480df7", func := "jobshop/jobshoplaw32.LinkRepeats", spec := "linkRepeats", inPlace := ["internal/bytealg.IndexByteString", "internal/bytealg.IndexString", "internal/bytealg.CountString", "internal/bytealg.abigen_runtime_cmpstring"], unfollowed := true, recurses := true, named := ["unicode/utf8.first", "unicode/utf8.acceptRanges", "internal/bytealg.MaxLen"], plainKeys := false, apart := false, laid := [("unicode/utf8.acceptRanges", laid_unicode_utf8_acceptRanges), ("unicode/utf8.first", laid_unicode_utf8_first)] }
def LinkRepeatsSaid : Prop := linkRepeatsRow.holds Tryz.pinned (OpenSpec.ofChange linkRepeatsSpec)

/-- ITS FALSE NEIGHBOUR: 'it returns false'. Refute it at one input. -/
def linkRepeatsWrong : ChangeSpec := { name := "linkRepeats", fn := fun _ => fun
  | [d1, d2] => { results := [.lit (.bool false)], args := [d1, d2] }
  | _ => none }
def LinkRepeatsWrongFalsely : Prop := linkRepeatsRow.holds Tryz.pinned (OpenSpec.ofChange linkRepeatsWrong)

/-- 'jobshoplaw32.LinkBytes': WHATEVER THE INPUT: true; the input reads as it did. -/
def linkBytesSpec : ChangeSpec := { name := "linkBytes", fn := fun _ => fun
  | [d] => { results := [.lit (.bool true)], args := [d] }
  | _ => none }
def linkBytesRow : OpenClaim := { program := "ytfhnelkbiihpiaagreatdoor", sum := "d8832d513f19f3862d27a1fa9c76fbc5df13fd747ad69e9db89f57d2e3480df7", func := "jobshop/jobshoplaw32.LinkBytes", spec := "linkBytes", inPlace := ["internal/bytealg.IndexByteString", "internal/bytealg.IndexString", "internal/bytealg.CountString", "internal/bytealg.abigen_runtime_cmpstring"], unfollowed := true, recurses := true, named := ["unicode/utf8.first", "unicode/utf8.acceptRanges", "internal/bytealg.MaxLen"], plainKeys := false, apart := false, laid := [("unicode/utf8.acceptRanges", laid_unicode_utf8_acceptRanges), ("unicode/utf8.first", laid_unicode_utf8_first)] }
def LinkBytesSaid : Prop := linkBytesRow.holds Tryz.pinned (OpenSpec.ofChange linkBytesSpec)

/-- ITS FALSE NEIGHBOUR: 'it returns false'. Refute it at one input. -/
def linkBytesWrong : ChangeSpec := { name := "linkBytes", fn := fun _ => fun
  | [d] => { results := [.lit (.bool false)], args := [d] }
  | _ => none }
def LinkBytesWrongFalsely : Prop := linkBytesRow.holds Tryz.pinned (OpenSpec.ofChange linkBytesWrong)

/-- 'jobshoplaw32.LinkLacks': WHATEVER THE INPUT: true; the input reads as it did. -/
def linkLacksSpec : ChangeSpec := { name := "linkLacks", fn := fun _ => fun
  | [d] => { results := [.lit (.bool true)], args := [d] }
  | _ => none }
def linkLacksRow : OpenClaim := { program := "ytfhnelkbiihpiaagreatdoor", sum := "d8832d513f19f3862d27a1fa9c76fbc5df13fd747ad69e9db89f57d2e3480df7", func := "jobshop/jobshoplaw32.LinkLacks", spec := "linkLacks", inPlace := ["internal/bytealg.IndexByteString", "internal/bytealg.IndexString", "internal/bytealg.CountString", "internal/bytealg.abigen_runtime_cmpstring"], unfollowed := true, recurses := true, named := ["unicode/utf8.first", "unicode/utf8.acceptRanges", "internal/bytealg.MaxLen"], plainKeys := false, apart := false, laid := [("unicode/utf8.acceptRanges", laid_unicode_utf8_acceptRanges), ("unicode/utf8.first", laid_unicode_utf8_first)] }
def LinkLacksSaid : Prop := linkLacksRow.holds Tryz.pinned (OpenSpec.ofChange linkLacksSpec)

/-- ITS FALSE NEIGHBOUR: 'it returns false'. Refute it at one input. -/
def linkLacksWrong : ChangeSpec := { name := "linkLacks", fn := fun _ => fun
  | [d] => { results := [.lit (.bool false)], args := [d] }
  | _ => none }
def LinkLacksWrongFalsely : Prop := linkLacksRow.holds Tryz.pinned (OpenSpec.ofChange linkLacksWrong)

/-- 'jobshoplaw32.LinkKnown': WHATEVER THE INPUT: true; the input reads as it did. -/
def linkKnownSpec : ChangeSpec := { name := "linkKnown", fn := fun _ => fun
  | [] => { results := [.lit (.bool true)], args := [] }
  | _ => none }
def linkKnownRow : OpenClaim := { program := "ytfhnelkbiihpiaagreatdoor", sum := "d8832d513f19f3862d27a1fa9c76fbc5df13fd747ad69e9db89f57d2e3480df7", func := "jobshop/jobshoplaw32.LinkKnown", spec := "linkKnown", inPlace := ["internal/bytealg.IndexByteString", "internal/bytealg.IndexString", "internal/bytealg.CountString", "internal/bytealg.abigen_runtime_cmpstring"], unfollowed := true, recurses := true, named := ["unicode/utf8.first", "unicode/utf8.acceptRanges", "internal/bytealg.MaxLen"], plainKeys := false, apart := false, laid := [("unicode/utf8.acceptRanges", laid_unicode_utf8_acceptRanges), ("unicode/utf8.first", laid_unicode_utf8_first)] }
def LinkKnownSaid : Prop := linkKnownRow.holds Tryz.pinned (OpenSpec.ofChange linkKnownSpec)

/-- ITS FALSE NEIGHBOUR: 'it returns false'. Refute it at one input. -/
def linkKnownWrong : ChangeSpec := { name := "linkKnown", fn := fun _ => fun
  | [] => { results := [.lit (.bool false)], args := [] }
  | _ => none }
def LinkKnownWrongFalsely : Prop := linkKnownRow.holds Tryz.pinned (OpenSpec.ofChange linkKnownWrong)

/-- 'jobshoplaw32.LinkTwice': WHATEVER THE INPUT: true; the input reads as it did. -/
def linkTwiceSpec : ChangeSpec := { name := "linkTwice", fn := fun _ => fun
  | [d1, d2, d3] => { results := [.lit (.bool true)], args := [d1, d2, d3] }
  | _ => none }
def linkTwiceRow : OpenClaim := { program := "ytfhnelkbiihpiaagreatdoor", sum := "d8832d513f19f3862d27a1fa9c76fbc5df13fd747ad69e9db89f57d2e3480df7", func := "jobshop/jobshoplaw32.LinkTwice", spec := "linkTwice", inPlace := ["internal/bytealg.IndexByteString", "internal/bytealg.IndexString", "internal/bytealg.CountString", "internal/bytealg.abigen_runtime_cmpstring"], unfollowed := true, recurses := true, named := ["unicode/utf8.first", "unicode/utf8.acceptRanges", "internal/bytealg.MaxLen"], plainKeys := false, apart := false, laid := [("unicode/utf8.acceptRanges", laid_unicode_utf8_acceptRanges), ("unicode/utf8.first", laid_unicode_utf8_first)] }
def LinkTwiceSaid : Prop := linkTwiceRow.holds Tryz.pinned (OpenSpec.ofChange linkTwiceSpec)

/-- ITS FALSE NEIGHBOUR: 'it returns false'. Refute it at one input. -/
def linkTwiceWrong : ChangeSpec := { name := "linkTwice", fn := fun _ => fun
  | [d1, d2, d3] => { results := [.lit (.bool false)], args := [d1, d2, d3] }
  | _ => none }
def LinkTwiceWrongFalsely : Prop := linkTwiceRow.holds Tryz.pinned (OpenSpec.ofChange linkTwiceWrong)

/-- 'jobshoplaw32.LinkMoves': WHATEVER THE INPUT: true; the input reads as it did. -/
def linkMovesSpec : ChangeSpec := { name := "linkMoves", fn := fun _ => fun
  | [d1, d2, d3] => { results := [.lit (.bool true)], args := [d1, d2, d3] }
  | _ => none }
def linkMovesRow : OpenClaim := { program := "ytfhnelkbiihpiaagreatdoor", sum := "d8832d513f19f3862d27a1fa9c76fbc5df13fd747ad69e9db89f57d2e3480df7", func := "jobshop/jobshoplaw32.LinkMoves", spec := "linkMoves", inPlace := ["internal/bytealg.IndexByteString", "internal/bytealg.IndexString", "internal/bytealg.CountString", "internal/bytealg.abigen_runtime_cmpstring"], unfollowed := true, recurses := true, named := ["unicode/utf8.first", "unicode/utf8.acceptRanges", "internal/bytealg.MaxLen"], plainKeys := false, apart := false, laid := [("unicode/utf8.acceptRanges", laid_unicode_utf8_acceptRanges), ("unicode/utf8.first", laid_unicode_utf8_first)] }
def LinkMovesSaid : Prop := linkMovesRow.holds Tryz.pinned (OpenSpec.ofChange linkMovesSpec)

/-- ITS FALSE NEIGHBOUR: 'it returns false'. Refute it at one input. -/
def linkMovesWrong : ChangeSpec := { name := "linkMoves", fn := fun _ => fun
  | [d1, d2, d3] => { results := [.lit (.bool false)], args := [d1, d2, d3] }
  | _ => none }
def LinkMovesWrongFalsely : Prop := linkMovesRow.holds Tryz.pinned (OpenSpec.ofChange linkMovesWrong)

/- THE SECOND FORM. 'bulk': how many values and letters a reading holds, each counted each time it is reached (what is shared counts as often as it is met; a slice's spare places count too). A statement '..UptoSaid' is the law's where the arguments, and the package variables that the reading takes, are together of bulk at most 1048576: NARROWER than '..Said'. Prove '..Said' where nothing that the law and all that it calls make is longer than what came in: it says more and counts as full. Else prove '..UptoSaid'. A law counts once. -/
mutual
def uptoBulk {H : Type} : DataW H → Nat
  | .lit (.string bytes) => bytes.length + 1
  | .lit _ => 1
  | .nil => 1
  | .ptr d => uptoBulk d + 1
  | .slice elems spare => uptoBulkAll elems + uptoBulkAll spare + 1
  | .agg parts => uptoBulkAll parts + 1
  | .iface _ d => uptoBulk d + 1
  | .map entries => uptoBulkEntries entries + 1
  | .held _ => 1
def uptoBulkAll {H : Type} : List (DataW H) → Nat
  | [] => 0
  | d :: r => uptoBulk d + uptoBulkAll r
def uptoBulkEntries {H : Type} : List (Lit × DataW H) → Nat
  | [] => 0
  | x :: r => uptoBulkEntry x + uptoBulkEntries r
def uptoBulkEntry {H : Type} : Lit × DataW H → Nat
  | (.string bytes, d) => bytes.length + uptoBulk d + 1
  | (_, d) => uptoBulk d + 1
 end
def uptoSmall : (H : Type) → List (DataW H) → Bool := fun _ ds => decide (uptoBulkAll ds ≤ 1048576)
def OpenSpec.upto (s : _root_.Go.ChangeSpec) : _root_.Go.OpenSpec := { _root_.Go.OpenSpec.ofChange s with cond := some uptoSmall }

/-- 'jobshoplaw32.LinkLinks', WHERE WHAT IT READS IS OF BULK AT MOST 1048576: true; the input reads as it did. -/
def linkLinksUptoRow : OpenClaim := { program := "ytfhnelkbiihpiaagreatdoor", sum := "d8832d513f19f3862d27a1fa9c76fbc5df13fd747ad69e9db89f57d2e3480df7", func := "jobshop/jobshoplaw32.LinkLinks", spec := "linkLinks", inPlace := ["internal/bytealg.IndexByteString", "internal/bytealg.IndexString", "internal/bytealg.CountString", "internal/bytealg.abigen_runtime_cmpstring"], unfollowed := true, recurses := true, named := ["unicode/utf8.first", "unicode/utf8.acceptRanges", "internal/bytealg.MaxLen"], plainKeys := false, apart := false, laid := [("unicode/utf8.acceptRanges", laid_unicode_utf8_acceptRanges), ("unicode/utf8.first", laid_unicode_utf8_first)], narrowed := true }
def LinkLinksUptoSaid : Prop := linkLinksUptoRow.holds Tryz.pinned (OpenSpec.upto linkLinksSpec)

/-- 'jobshoplaw32.LinkValid', WHERE WHAT IT READS IS OF BULK AT MOST 1048576: true; the input reads as it did. -/
def linkValidUptoRow : OpenClaim := { program := "ytfhnelkbiihpiaagreatdoor", sum := "d8832d513f19f3862d27a1fa9c76fbc5df13fd747ad69e9db89f57d2e3480df7", func := "jobshop/jobshoplaw32.LinkValid", spec := "linkValid", inPlace := ["internal/bytealg.IndexByteString", "internal/bytealg.IndexString", "internal/bytealg.CountString", "internal/bytealg.abigen_runtime_cmpstring"], unfollowed := true, recurses := true, named := ["unicode/utf8.first", "unicode/utf8.acceptRanges", "internal/bytealg.MaxLen"], plainKeys := false, apart := false, laid := [("unicode/utf8.acceptRanges", laid_unicode_utf8_acceptRanges), ("unicode/utf8.first", laid_unicode_utf8_first)], narrowed := true }
def LinkValidUptoSaid : Prop := linkValidUptoRow.holds Tryz.pinned (OpenSpec.upto linkValidSpec)

/-- 'jobshoplaw32.LinkRepeats', WHERE WHAT IT READS IS OF BULK AT MOST 1048576: true; the input reads as it did. -/
def linkRepeatsUptoRow : OpenClaim := { program := "ytfhnelkbiihpiaagreatdoor", sum := "d8832d513f19f3862d27a1fa9c76fbc5df13fd747ad69e9db89f57d2e3480df7", func := "jobshop/jobshoplaw32.LinkRepeats", spec := "linkRepeats", inPlace := ["internal/bytealg.IndexByteString", "internal/bytealg.IndexString", "internal/bytealg.CountString", "internal/bytealg.abigen_runtime_cmpstring"], unfollowed := true, recurses := true, named := ["unicode/utf8.first", "unicode/utf8.acceptRanges", "internal/bytealg.MaxLen"], plainKeys := false, apart := false, laid := [("unicode/utf8.acceptRanges", laid_unicode_utf8_acceptRanges), ("unicode/utf8.first", laid_unicode_utf8_first)], narrowed := true }
def LinkRepeatsUptoSaid : Prop := linkRepeatsUptoRow.holds Tryz.pinned (OpenSpec.upto linkRepeatsSpec)

/-- 'jobshoplaw32.LinkBytes', WHERE WHAT IT READS IS OF BULK AT MOST 1048576: true; the input reads as it did. -/
def linkBytesUptoRow : OpenClaim := { program := "ytfhnelkbiihpiaagreatdoor", sum := "d8832d513f19f3862d27a1fa9c76fbc5df13fd747ad69e9db89f57d2e3480df7", func := "jobshop/jobshoplaw32.LinkBytes", spec := "linkBytes", inPlace := ["internal/bytealg.IndexByteString", "internal/bytealg.IndexString", "internal/bytealg.CountString", "internal/bytealg.abigen_runtime_cmpstring"], unfollowed := true, recurses := true, named := ["unicode/utf8.first", "unicode/utf8.acceptRanges", "internal/bytealg.MaxLen"], plainKeys := false, apart := false, laid := [("unicode/utf8.acceptRanges", laid_unicode_utf8_acceptRanges), ("unicode/utf8.first", laid_unicode_utf8_first)], narrowed := true }
def LinkBytesUptoSaid : Prop := linkBytesUptoRow.holds Tryz.pinned (OpenSpec.upto linkBytesSpec)

/-- 'jobshoplaw32.LinkLacks', WHERE WHAT IT READS IS OF BULK AT MOST 1048576: true; the input reads as it did. -/
def linkLacksUptoRow : OpenClaim := { program := "ytfhnelkbiihpiaagreatdoor", sum := "d8832d513f19f3862d27a1fa9c76fbc5df13fd747ad69e9db89f57d2e3480df7", func := "jobshop/jobshoplaw32.LinkLacks", spec := "linkLacks", inPlace := ["internal/bytealg.IndexByteString", "internal/bytealg.IndexString", "internal/bytealg.CountString", "internal/bytealg.abigen_runtime_cmpstring"], unfollowed := true, recurses := true, named := ["unicode/utf8.first", "unicode/utf8.acceptRanges", "internal/bytealg.MaxLen"], plainKeys := false, apart := false, laid := [("unicode/utf8.acceptRanges", laid_unicode_utf8_acceptRanges), ("unicode/utf8.first", laid_unicode_utf8_first)], narrowed := true }
def LinkLacksUptoSaid : Prop := linkLacksUptoRow.holds Tryz.pinned (OpenSpec.upto linkLacksSpec)

/-- 'jobshoplaw32.LinkKnown', WHERE WHAT IT READS IS OF BULK AT MOST 1048576: true; the input reads as it did. -/
def linkKnownUptoRow : OpenClaim := { program := "ytfhnelkbiihpiaagreatdoor", sum := "d8832d513f19f3862d27a1fa9c76fbc5df13fd747ad69e9db89f57d2e3480df7", func := "jobshop/jobshoplaw32.LinkKnown", spec := "linkKnown", inPlace := ["internal/bytealg.IndexByteString", "internal/bytealg.IndexString", "internal/bytealg.CountString", "internal/bytealg.abigen_runtime_cmpstring"], unfollowed := true, recurses := true, named := ["unicode/utf8.first", "unicode/utf8.acceptRanges", "internal/bytealg.MaxLen"], plainKeys := false, apart := false, laid := [("unicode/utf8.acceptRanges", laid_unicode_utf8_acceptRanges), ("unicode/utf8.first", laid_unicode_utf8_first)], narrowed := true }
def LinkKnownUptoSaid : Prop := linkKnownUptoRow.holds Tryz.pinned (OpenSpec.upto linkKnownSpec)

/-- 'jobshoplaw32.LinkTwice', WHERE WHAT IT READS IS OF BULK AT MOST 1048576: true; the input reads as it did. -/
def linkTwiceUptoRow : OpenClaim := { program := "ytfhnelkbiihpiaagreatdoor", sum := "d8832d513f19f3862d27a1fa9c76fbc5df13fd747ad69e9db89f57d2e3480df7", func := "jobshop/jobshoplaw32.LinkTwice", spec := "linkTwice", inPlace := ["internal/bytealg.IndexByteString", "internal/bytealg.IndexString", "internal/bytealg.CountString", "internal/bytealg.abigen_runtime_cmpstring"], unfollowed := true, recurses := true, named := ["unicode/utf8.first", "unicode/utf8.acceptRanges", "internal/bytealg.MaxLen"], plainKeys := false, apart := false, laid := [("unicode/utf8.acceptRanges", laid_unicode_utf8_acceptRanges), ("unicode/utf8.first", laid_unicode_utf8_first)], narrowed := true }
def LinkTwiceUptoSaid : Prop := linkTwiceUptoRow.holds Tryz.pinned (OpenSpec.upto linkTwiceSpec)

/-- 'jobshoplaw32.LinkMoves', WHERE WHAT IT READS IS OF BULK AT MOST 1048576: true; the input reads as it did. -/
def linkMovesUptoRow : OpenClaim := { program := "ytfhnelkbiihpiaagreatdoor", sum := "d8832d513f19f3862d27a1fa9c76fbc5df13fd747ad69e9db89f57d2e3480df7", func := "jobshop/jobshoplaw32.LinkMoves", spec := "linkMoves", inPlace := ["internal/bytealg.IndexByteString", "internal/bytealg.IndexString", "internal/bytealg.CountString", "internal/bytealg.abigen_runtime_cmpstring"], unfollowed := true, recurses := true, named := ["unicode/utf8.first", "unicode/utf8.acceptRanges", "internal/bytealg.MaxLen"], plainKeys := false, apart := false, laid := [("unicode/utf8.acceptRanges", laid_unicode_utf8_acceptRanges), ("unicode/utf8.first", laid_unicode_utf8_first)], narrowed := true }
def LinkMovesUptoSaid : Prop := linkMovesUptoRow.holds Tryz.pinned (OpenSpec.upto linkMovesSpec)

end Rows
end Go.Proofs.YtfhnelkbiihpiaaGreatDoor
