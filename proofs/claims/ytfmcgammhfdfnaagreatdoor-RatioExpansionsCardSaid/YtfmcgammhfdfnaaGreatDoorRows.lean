/-
  NARROWER THAN 'FOR EVERY INPUT', by the rows' own cells (each row's printed sentence says how): RatioTextMatches: laid · RatioField: laid · RatioSimplestMatches: laid · RatioOrder: laid · RatioExpansions: laid · RatioSimplest: laid · RatioListsMatch: laid · RatioMatches: laid · RatioText: laid · RatioExamples: laid.
  DERIVED. THE GIVEN ROWS OF THIS SEAT. 10 by the template 'for every input the law returns true; each argument reads behind the call as it read before'; 0 by the template 'total and deterministic' (their statements: YtfmcgammhfdfnaaGreatDoorTotals.lean).
  GIVEN WITH THE SEED: the statements are not yours to turn. If you find one false, say at which input.
  Laid BY PROGRAM, IN A SANDBOX (cutbox-rows.mjs): the forced cells as the released guide's own fill.sh prints them over the translation 4fb84590ccc20b1d… (all of the seat's roots in one cut). By AI agents, Wed Nov 11 2026. No macro, syntax, notation, axiom, sorry.
-/
import Derived.Test.YtfmcgammhfdfnaaGreatDoorChecked
import GoSem.PinnedTables
import GoSem.Claim
import GoSem.ClaimJoined
import GoSem.ClaimMapViews
import Derived.JoinedTies
import Derived.KernelRfl
namespace Go.Proofs.YtfmcgammhfdfnaaGreatDoor
/- THE CELL 'sum', in the pinned program and in every row, IS THE sha256 OF THE DUMP (.gsa) THAT YtfmcgammhfdfnaaGreatDoorProg.lean LOADS. Nothing in Lean hashes anything: it is a label: what it is worth is what the hold of that sum in a sandbox is worth. -/
noncomputable def Tryz.pinned : Pinned := { name := "ytfmcgammhfdfnaagreatdoor", sum := "4fb84590ccc20b1d38f98bf323a2dc91d6637323f73660c5f475c66b61d28432", checked := Tryz.checked }
namespace Rows
def none {H : Type} : Left H := { results := [], args := [] }

/- WHAT THE LISTED PACKAGE-LEVEL VARIABLES READ AS WHEN THE CALL BEGINS. Each datum BY PROGRAM (the guide's laid-datum.mjs) off the statement by which the dump's own 'gosem.cut.vars' lays the variable. In a bare row this is a premise. The card (YtfmcgammhfdfnaaGreatDoorCards.lean) ties it to the program's text. -/
def laid_unicode_utf8_acceptRanges {H : Type} : DataW H := .agg [.agg [.lit (.int .u8 128), .lit (.int .u8 191)], .agg [.lit (.int .u8 160), .lit (.int .u8 191)], .agg [.lit (.int .u8 128), .lit (.int .u8 159)], .agg [.lit (.int .u8 144), .lit (.int .u8 191)], .agg [.lit (.int .u8 128), .lit (.int .u8 143)], .agg [.lit (.int .u8 0), .lit (.int .u8 0)], .agg [.lit (.int .u8 0), .lit (.int .u8 0)], .agg [.lit (.int .u8 0), .lit (.int .u8 0)], .agg [.lit (.int .u8 0), .lit (.int .u8 0)], .agg [.lit (.int .u8 0), .lit (.int .u8 0)], .agg [.lit (.int .u8 0), .lit (.int .u8 0)], .agg [.lit (.int .u8 0), .lit (.int .u8 0)], .agg [.lit (.int .u8 0), .lit (.int .u8 0)], .agg [.lit (.int .u8 0), .lit (.int .u8 0)], .agg [.lit (.int .u8 0), .lit (.int .u8 0)], .agg [.lit (.int .u8 0), .lit (.int .u8 0)]]
/-- One of Go's own tables, pinned by name: the form's constant. -/
def laid_unicode_utf8_first : DataW Unit := Go.Pinned.utf8First

/-- 'toruslaw03.RatioTextMatches': WHATEVER THE INPUT: true; the input reads as it did. -/
def ratioTextMatchesSpec : ChangeSpec := { name := "ratioTextMatches", fn := fun _ => fun
  | [d1, d2, d3] => { results := [.lit (.bool true)], args := [d1, d2, d3] }
  | _ => none }
def ratioTextMatchesRow : OpenClaim := { program := "ytfmcgammhfdfnaagreatdoor", sum := "4fb84590ccc20b1d38f98bf323a2dc91d6637323f73660c5f475c66b61d28432", func := "torus/toruslaw03.RatioTextMatches", spec := "ratioTextMatches", inPlace := ["internal/bytealg.IndexByteString", "internal/bytealg.IndexString", "internal/abi.NoEscape", "internal/bytealg.MakeNoZero"], recurses := true, named := ["internal/bytealg.MaxLen", "unicode/utf8.first", "unicode/utf8.acceptRanges"], apart := false, laid := [("unicode/utf8.acceptRanges", laid_unicode_utf8_acceptRanges), ("unicode/utf8.first", laid_unicode_utf8_first)] }
def RatioTextMatchesSaid : Prop := ratioTextMatchesRow.holds Tryz.pinned (OpenSpec.ofChange ratioTextMatchesSpec)

/-- ITS FALSE NEIGHBOUR: 'it returns false'. Refute it at one input. -/
def ratioTextMatchesWrong : ChangeSpec := { name := "ratioTextMatches", fn := fun _ => fun
  | [d1, d2, d3] => { results := [.lit (.bool false)], args := [d1, d2, d3] }
  | _ => none }
def RatioTextMatchesWrongFalsely : Prop := ratioTextMatchesRow.holds Tryz.pinned (OpenSpec.ofChange ratioTextMatchesWrong)

/-- 'toruslaw03.RatioField': WHATEVER THE INPUT: true; the input reads as it did. -/
def ratioFieldSpec : ChangeSpec := { name := "ratioField", fn := fun _ => fun
  | [d1, d2, d3] => { results := [.lit (.bool true)], args := [d1, d2, d3] }
  | _ => none }
def ratioFieldRow : OpenClaim := { program := "ytfmcgammhfdfnaagreatdoor", sum := "4fb84590ccc20b1d38f98bf323a2dc91d6637323f73660c5f475c66b61d28432", func := "torus/toruslaw03.RatioField", spec := "ratioField", inPlace := ["internal/bytealg.IndexByteString", "internal/bytealg.IndexString", "internal/abi.NoEscape", "internal/bytealg.MakeNoZero"], recurses := true, named := ["internal/bytealg.MaxLen", "unicode/utf8.first", "unicode/utf8.acceptRanges"], apart := false, laid := [("unicode/utf8.acceptRanges", laid_unicode_utf8_acceptRanges), ("unicode/utf8.first", laid_unicode_utf8_first)] }
def RatioFieldSaid : Prop := ratioFieldRow.holds Tryz.pinned (OpenSpec.ofChange ratioFieldSpec)

/-- ITS FALSE NEIGHBOUR: 'it returns false'. Refute it at one input. -/
def ratioFieldWrong : ChangeSpec := { name := "ratioField", fn := fun _ => fun
  | [d1, d2, d3] => { results := [.lit (.bool false)], args := [d1, d2, d3] }
  | _ => none }
def RatioFieldWrongFalsely : Prop := ratioFieldRow.holds Tryz.pinned (OpenSpec.ofChange ratioFieldWrong)

/-- 'toruslaw03.RatioSimplestMatches': WHATEVER THE INPUT: true; the input reads as it did. -/
def ratioSimplestMatchesSpec : ChangeSpec := { name := "ratioSimplestMatches", fn := fun _ => fun
  | [d1, d2] => { results := [.lit (.bool true)], args := [d1, d2] }
  | _ => none }
def ratioSimplestMatchesRow : OpenClaim := { program := "ytfmcgammhfdfnaagreatdoor", sum := "4fb84590ccc20b1d38f98bf323a2dc91d6637323f73660c5f475c66b61d28432", func := "torus/toruslaw03.RatioSimplestMatches", spec := "ratioSimplestMatches", inPlace := ["internal/bytealg.IndexByteString", "internal/bytealg.IndexString", "internal/abi.NoEscape", "internal/bytealg.MakeNoZero"], recurses := true, named := ["internal/bytealg.MaxLen", "unicode/utf8.first", "unicode/utf8.acceptRanges"], apart := false, laid := [("unicode/utf8.acceptRanges", laid_unicode_utf8_acceptRanges), ("unicode/utf8.first", laid_unicode_utf8_first)] }
def RatioSimplestMatchesSaid : Prop := ratioSimplestMatchesRow.holds Tryz.pinned (OpenSpec.ofChange ratioSimplestMatchesSpec)

/-- ITS FALSE NEIGHBOUR: 'it returns false'. Refute it at one input. -/
def ratioSimplestMatchesWrong : ChangeSpec := { name := "ratioSimplestMatches", fn := fun _ => fun
  | [d1, d2] => { results := [.lit (.bool false)], args := [d1, d2] }
  | _ => none }
def RatioSimplestMatchesWrongFalsely : Prop := ratioSimplestMatchesRow.holds Tryz.pinned (OpenSpec.ofChange ratioSimplestMatchesWrong)

/-- 'toruslaw03.RatioOrder': WHATEVER THE INPUT: true; the input reads as it did. -/
def ratioOrderSpec : ChangeSpec := { name := "ratioOrder", fn := fun _ => fun
  | [d1, d2, d3] => { results := [.lit (.bool true)], args := [d1, d2, d3] }
  | _ => none }
def ratioOrderRow : OpenClaim := { program := "ytfmcgammhfdfnaagreatdoor", sum := "4fb84590ccc20b1d38f98bf323a2dc91d6637323f73660c5f475c66b61d28432", func := "torus/toruslaw03.RatioOrder", spec := "ratioOrder", inPlace := ["internal/bytealg.IndexByteString", "internal/bytealg.IndexString", "internal/abi.NoEscape", "internal/bytealg.MakeNoZero"], unfollowed := true, recurses := true, named := ["internal/bytealg.MaxLen", "unicode/utf8.first", "unicode/utf8.acceptRanges"], apart := false, laid := [("unicode/utf8.acceptRanges", laid_unicode_utf8_acceptRanges), ("unicode/utf8.first", laid_unicode_utf8_first)] }
def RatioOrderSaid : Prop := ratioOrderRow.holds Tryz.pinned (OpenSpec.ofChange ratioOrderSpec)

/-- ITS FALSE NEIGHBOUR: 'it returns false'. Refute it at one input. -/
def ratioOrderWrong : ChangeSpec := { name := "ratioOrder", fn := fun _ => fun
  | [d1, d2, d3] => { results := [.lit (.bool false)], args := [d1, d2, d3] }
  | _ => none }
def RatioOrderWrongFalsely : Prop := ratioOrderRow.holds Tryz.pinned (OpenSpec.ofChange ratioOrderWrong)

/-- 'toruslaw03.RatioExpansions': WHATEVER THE INPUT: true; the input reads as it did. -/
def ratioExpansionsSpec : ChangeSpec := { name := "ratioExpansions", fn := fun _ => fun
  | [d] => { results := [.lit (.bool true)], args := [d] }
  | _ => none }
def ratioExpansionsRow : OpenClaim := { program := "ytfmcgammhfdfnaagreatdoor", sum := "4fb84590ccc20b1d38f98bf323a2dc91d6637323f73660c5f475c66b61d28432", func := "torus/toruslaw03.RatioExpansions", spec := "ratioExpansions", inPlace := ["internal/bytealg.IndexByteString", "internal/bytealg.IndexString", "internal/abi.NoEscape", "internal/bytealg.MakeNoZero"], recurses := true, named := ["internal/bytealg.MaxLen", "unicode/utf8.first", "unicode/utf8.acceptRanges"], apart := false, laid := [("unicode/utf8.acceptRanges", laid_unicode_utf8_acceptRanges), ("unicode/utf8.first", laid_unicode_utf8_first)] }
def RatioExpansionsSaid : Prop := ratioExpansionsRow.holds Tryz.pinned (OpenSpec.ofChange ratioExpansionsSpec)

/-- ITS FALSE NEIGHBOUR: 'it returns false'. Refute it at one input. -/
def ratioExpansionsWrong : ChangeSpec := { name := "ratioExpansions", fn := fun _ => fun
  | [d] => { results := [.lit (.bool false)], args := [d] }
  | _ => none }
def RatioExpansionsWrongFalsely : Prop := ratioExpansionsRow.holds Tryz.pinned (OpenSpec.ofChange ratioExpansionsWrong)

/-- 'toruslaw03.RatioSimplest': WHATEVER THE INPUT: true; the input reads as it did. -/
def ratioSimplestSpec : ChangeSpec := { name := "ratioSimplest", fn := fun _ => fun
  | [d1, d2, d3] => { results := [.lit (.bool true)], args := [d1, d2, d3] }
  | _ => none }
def ratioSimplestRow : OpenClaim := { program := "ytfmcgammhfdfnaagreatdoor", sum := "4fb84590ccc20b1d38f98bf323a2dc91d6637323f73660c5f475c66b61d28432", func := "torus/toruslaw03.RatioSimplest", spec := "ratioSimplest", inPlace := ["internal/bytealg.IndexByteString", "internal/bytealg.IndexString", "internal/abi.NoEscape", "internal/bytealg.MakeNoZero"], recurses := true, named := ["internal/bytealg.MaxLen", "unicode/utf8.first", "unicode/utf8.acceptRanges"], apart := false, laid := [("unicode/utf8.acceptRanges", laid_unicode_utf8_acceptRanges), ("unicode/utf8.first", laid_unicode_utf8_first)] }
def RatioSimplestSaid : Prop := ratioSimplestRow.holds Tryz.pinned (OpenSpec.ofChange ratioSimplestSpec)

/-- ITS FALSE NEIGHBOUR: 'it returns false'. Refute it at one input. -/
def ratioSimplestWrong : ChangeSpec := { name := "ratioSimplest", fn := fun _ => fun
  | [d1, d2, d3] => { results := [.lit (.bool false)], args := [d1, d2, d3] }
  | _ => none }
def RatioSimplestWrongFalsely : Prop := ratioSimplestRow.holds Tryz.pinned (OpenSpec.ofChange ratioSimplestWrong)

/-- 'toruslaw03.RatioListsMatch': WHATEVER THE INPUT: true; the input reads as it did. -/
def ratioListsMatchSpec : ChangeSpec := { name := "ratioListsMatch", fn := fun _ => fun
  | [d1, d2, d3] => { results := [.lit (.bool true)], args := [d1, d2, d3] }
  | _ => none }
def ratioListsMatchRow : OpenClaim := { program := "ytfmcgammhfdfnaagreatdoor", sum := "4fb84590ccc20b1d38f98bf323a2dc91d6637323f73660c5f475c66b61d28432", func := "torus/toruslaw03.RatioListsMatch", spec := "ratioListsMatch", inPlace := ["internal/bytealg.IndexByteString", "internal/bytealg.IndexString", "internal/abi.NoEscape", "internal/bytealg.MakeNoZero"], recurses := true, named := ["internal/bytealg.MaxLen", "unicode/utf8.first", "unicode/utf8.acceptRanges"], apart := false, laid := [("unicode/utf8.acceptRanges", laid_unicode_utf8_acceptRanges), ("unicode/utf8.first", laid_unicode_utf8_first)] }
def RatioListsMatchSaid : Prop := ratioListsMatchRow.holds Tryz.pinned (OpenSpec.ofChange ratioListsMatchSpec)

/-- ITS FALSE NEIGHBOUR: 'it returns false'. Refute it at one input. -/
def ratioListsMatchWrong : ChangeSpec := { name := "ratioListsMatch", fn := fun _ => fun
  | [d1, d2, d3] => { results := [.lit (.bool false)], args := [d1, d2, d3] }
  | _ => none }
def RatioListsMatchWrongFalsely : Prop := ratioListsMatchRow.holds Tryz.pinned (OpenSpec.ofChange ratioListsMatchWrong)

/-- 'toruslaw03.RatioMatches': WHATEVER THE INPUT: true; the input reads as it did. -/
def ratioMatchesSpec : ChangeSpec := { name := "ratioMatches", fn := fun _ => fun
  | [d1, d2, d3] => { results := [.lit (.bool true)], args := [d1, d2, d3] }
  | _ => none }
def ratioMatchesRow : OpenClaim := { program := "ytfmcgammhfdfnaagreatdoor", sum := "4fb84590ccc20b1d38f98bf323a2dc91d6637323f73660c5f475c66b61d28432", func := "torus/toruslaw03.RatioMatches", spec := "ratioMatches", inPlace := ["internal/bytealg.IndexByteString", "internal/bytealg.IndexString", "internal/abi.NoEscape", "internal/bytealg.MakeNoZero"], unfollowed := true, recurses := true, named := ["internal/bytealg.MaxLen", "unicode/utf8.first", "unicode/utf8.acceptRanges"], apart := false, laid := [("unicode/utf8.acceptRanges", laid_unicode_utf8_acceptRanges), ("unicode/utf8.first", laid_unicode_utf8_first)] }
def RatioMatchesSaid : Prop := ratioMatchesRow.holds Tryz.pinned (OpenSpec.ofChange ratioMatchesSpec)

/-- ITS FALSE NEIGHBOUR: 'it returns false'. Refute it at one input. -/
def ratioMatchesWrong : ChangeSpec := { name := "ratioMatches", fn := fun _ => fun
  | [d1, d2, d3] => { results := [.lit (.bool false)], args := [d1, d2, d3] }
  | _ => none }
def RatioMatchesWrongFalsely : Prop := ratioMatchesRow.holds Tryz.pinned (OpenSpec.ofChange ratioMatchesWrong)

/-- 'toruslaw03.RatioText': WHATEVER THE INPUT: true; the input reads as it did. -/
def ratioTextSpec : ChangeSpec := { name := "ratioText", fn := fun _ => fun
  | [d1, d2] => { results := [.lit (.bool true)], args := [d1, d2] }
  | _ => none }
def ratioTextRow : OpenClaim := { program := "ytfmcgammhfdfnaagreatdoor", sum := "4fb84590ccc20b1d38f98bf323a2dc91d6637323f73660c5f475c66b61d28432", func := "torus/toruslaw03.RatioText", spec := "ratioText", inPlace := ["internal/bytealg.IndexByteString", "internal/bytealg.IndexString", "internal/abi.NoEscape", "internal/bytealg.MakeNoZero"], recurses := true, named := ["internal/bytealg.MaxLen", "unicode/utf8.first", "unicode/utf8.acceptRanges"], apart := false, laid := [("unicode/utf8.acceptRanges", laid_unicode_utf8_acceptRanges), ("unicode/utf8.first", laid_unicode_utf8_first)] }
def RatioTextSaid : Prop := ratioTextRow.holds Tryz.pinned (OpenSpec.ofChange ratioTextSpec)

/-- ITS FALSE NEIGHBOUR: 'it returns false'. Refute it at one input. -/
def ratioTextWrong : ChangeSpec := { name := "ratioText", fn := fun _ => fun
  | [d1, d2] => { results := [.lit (.bool false)], args := [d1, d2] }
  | _ => none }
def RatioTextWrongFalsely : Prop := ratioTextRow.holds Tryz.pinned (OpenSpec.ofChange ratioTextWrong)

/-- 'toruslaw03.RatioExamples': WHATEVER THE INPUT: true; the input reads as it did. -/
def ratioExamplesSpec : ChangeSpec := { name := "ratioExamples", fn := fun _ => fun
  | [] => { results := [.lit (.bool true)], args := [] }
  | _ => none }
def ratioExamplesRow : OpenClaim := { program := "ytfmcgammhfdfnaagreatdoor", sum := "4fb84590ccc20b1d38f98bf323a2dc91d6637323f73660c5f475c66b61d28432", func := "torus/toruslaw03.RatioExamples", spec := "ratioExamples", inPlace := ["internal/bytealg.IndexByteString", "internal/bytealg.IndexString", "internal/abi.NoEscape", "internal/bytealg.MakeNoZero"], recurses := true, named := ["internal/bytealg.MaxLen", "unicode/utf8.first", "unicode/utf8.acceptRanges"], apart := false, laid := [("unicode/utf8.acceptRanges", laid_unicode_utf8_acceptRanges), ("unicode/utf8.first", laid_unicode_utf8_first)] }
def RatioExamplesSaid : Prop := ratioExamplesRow.holds Tryz.pinned (OpenSpec.ofChange ratioExamplesSpec)

/-- ITS FALSE NEIGHBOUR: 'it returns false'. Refute it at one input. -/
def ratioExamplesWrong : ChangeSpec := { name := "ratioExamples", fn := fun _ => fun
  | [] => { results := [.lit (.bool false)], args := [] }
  | _ => none }
def RatioExamplesWrongFalsely : Prop := ratioExamplesRow.holds Tryz.pinned (OpenSpec.ofChange ratioExamplesWrong)

/- THE SECOND FORM. 'bulk': how many values and letters a reading holds, each counted each time it is reached (what is shared counts as often as it is met; a slice's spare places count too). A statement '..UptoSaid' is the law's where the arguments, and the package variables that the reading takes, are together of bulk at most 1048576: NARROWER than '..Said'. Prove '..Said' where nothing that the law and all that it calls make is longer than what came in: it says more and counts as full. Else prove '..UptoSaid'. A law counts once. -/
mutual
def uptoBulk {H : Type} : DataW H → Nat
  | .lit (.string bytes) => bytes.length + 1
  | .lit _ => 1
  | .nil => 1
  | .ptr d => uptoBulk d + 1
  | .slice elems spare => uptoBulkAll elems + uptoBulkAll spare + 1
  | .agg parts => uptoBulkAll parts + 1
  | .iface _ d => uptoBulk d + 1
  | .map entries => uptoBulkEntries entries + 1
  | .held _ => 1
def uptoBulkAll {H : Type} : List (DataW H) → Nat
  | [] => 0
  | d :: r => uptoBulk d + uptoBulkAll r
def uptoBulkEntries {H : Type} : List (Lit × DataW H) → Nat
  | [] => 0
  | x :: r => uptoBulkEntry x + uptoBulkEntries r
def uptoBulkEntry {H : Type} : Lit × DataW H → Nat
  | (.string bytes, d) => bytes.length + uptoBulk d + 1
  | (_, d) => uptoBulk d + 1
 end
def uptoSmall : (H : Type) → List (DataW H) → Bool := fun _ ds => decide (uptoBulkAll ds ≤ 1048576)
def OpenSpec.upto (s : _root_.Go.ChangeSpec) : _root_.Go.OpenSpec := { _root_.Go.OpenSpec.ofChange s with cond := some uptoSmall }

/-- 'toruslaw03.RatioTextMatches', WHERE WHAT IT READS IS OF BULK AT MOST 1048576: true; the input reads as it did. -/
def ratioTextMatchesUptoRow : OpenClaim := { program := "ytfmcgammhfdfnaagreatdoor", sum := "4fb84590ccc20b1d38f98bf323a2dc91d6637323f73660c5f475c66b61d28432", func := "torus/toruslaw03.RatioTextMatches", spec := "ratioTextMatches", inPlace := ["internal/bytealg.IndexByteString", "internal/bytealg.IndexString", "internal/abi.NoEscape", "internal/bytealg.MakeNoZero"], recurses := true, named := ["internal/bytealg.MaxLen", "unicode/utf8.first", "unicode/utf8.acceptRanges"], apart := false, laid := [("unicode/utf8.acceptRanges", laid_unicode_utf8_acceptRanges), ("unicode/utf8.first", laid_unicode_utf8_first)], narrowed := true }
def RatioTextMatchesUptoSaid : Prop := ratioTextMatchesUptoRow.holds Tryz.pinned (OpenSpec.upto ratioTextMatchesSpec)

/-- 'toruslaw03.RatioField', WHERE WHAT IT READS IS OF BULK AT MOST 1048576: true; the input reads as it did. -/
def ratioFieldUptoRow : OpenClaim := { program := "ytfmcgammhfdfnaagreatdoor", sum := "4fb84590ccc20b1d38f98bf323a2dc91d6637323f73660c5f475c66b61d28432", func := "torus/toruslaw03.RatioField", spec := "ratioField", inPlace := ["internal/bytealg.IndexByteString", "internal/bytealg.IndexString", "internal/abi.NoEscape", "internal/bytealg.MakeNoZero"], recurses := true, named := ["internal/bytealg.MaxLen", "unicode/utf8.first", "unicode/utf8.acceptRanges"], apart := false, laid := [("unicode/utf8.acceptRanges", laid_unicode_utf8_acceptRanges), ("unicode/utf8.first", laid_unicode_utf8_first)], narrowed := true }
def RatioFieldUptoSaid : Prop := ratioFieldUptoRow.holds Tryz.pinned (OpenSpec.upto ratioFieldSpec)

/-- 'toruslaw03.RatioSimplestMatches', WHERE WHAT IT READS IS OF BULK AT MOST 1048576: true; the input reads as it did. -/
def ratioSimplestMatchesUptoRow : OpenClaim := { program := "ytfmcgammhfdfnaagreatdoor", sum := "4fb84590ccc20b1d38f98bf323a2dc91d6637323f73660c5f475c66b61d28432", func := "torus/toruslaw03.RatioSimplestMatches", spec := "ratioSimplestMatches", inPlace := ["internal/bytealg.IndexByteString", "internal/bytealg.IndexString", "internal/abi.NoEscape", "internal/bytealg.MakeNoZero"], recurses := true, named := ["internal/bytealg.MaxLen", "unicode/utf8.first", "unicode/utf8.acceptRanges"], apart := false, laid := [("unicode/utf8.acceptRanges", laid_unicode_utf8_acceptRanges), ("unicode/utf8.first", laid_unicode_utf8_first)], narrowed := true }
def RatioSimplestMatchesUptoSaid : Prop := ratioSimplestMatchesUptoRow.holds Tryz.pinned (OpenSpec.upto ratioSimplestMatchesSpec)

/-- 'toruslaw03.RatioOrder', WHERE WHAT IT READS IS OF BULK AT MOST 1048576: true; the input reads as it did. -/
def ratioOrderUptoRow : OpenClaim := { program := "ytfmcgammhfdfnaagreatdoor", sum := "4fb84590ccc20b1d38f98bf323a2dc91d6637323f73660c5f475c66b61d28432", func := "torus/toruslaw03.RatioOrder", spec := "ratioOrder", inPlace := ["internal/bytealg.IndexByteString", "internal/bytealg.IndexString", "internal/abi.NoEscape", "internal/bytealg.MakeNoZero"], unfollowed := true, recurses := true, named := ["internal/bytealg.MaxLen", "unicode/utf8.first", "unicode/utf8.acceptRanges"], apart := false, laid := [("unicode/utf8.acceptRanges", laid_unicode_utf8_acceptRanges), ("unicode/utf8.first", laid_unicode_utf8_first)], narrowed := true }
def RatioOrderUptoSaid : Prop := ratioOrderUptoRow.holds Tryz.pinned (OpenSpec.upto ratioOrderSpec)

/-- 'toruslaw03.RatioExpansions', WHERE WHAT IT READS IS OF BULK AT MOST 1048576: true; the input reads as it did. -/
def ratioExpansionsUptoRow : OpenClaim := { program := "ytfmcgammhfdfnaagreatdoor", sum := "4fb84590ccc20b1d38f98bf323a2dc91d6637323f73660c5f475c66b61d28432", func := "torus/toruslaw03.RatioExpansions", spec := "ratioExpansions", inPlace := ["internal/bytealg.IndexByteString", "internal/bytealg.IndexString", "internal/abi.NoEscape", "internal/bytealg.MakeNoZero"], recurses := true, named := ["internal/bytealg.MaxLen", "unicode/utf8.first", "unicode/utf8.acceptRanges"], apart := false, laid := [("unicode/utf8.acceptRanges", laid_unicode_utf8_acceptRanges), ("unicode/utf8.first", laid_unicode_utf8_first)], narrowed := true }
def RatioExpansionsUptoSaid : Prop := ratioExpansionsUptoRow.holds Tryz.pinned (OpenSpec.upto ratioExpansionsSpec)

/-- 'toruslaw03.RatioSimplest', WHERE WHAT IT READS IS OF BULK AT MOST 1048576: true; the input reads as it did. -/
def ratioSimplestUptoRow : OpenClaim := { program := "ytfmcgammhfdfnaagreatdoor", sum := "4fb84590ccc20b1d38f98bf323a2dc91d6637323f73660c5f475c66b61d28432", func := "torus/toruslaw03.RatioSimplest", spec := "ratioSimplest", inPlace := ["internal/bytealg.IndexByteString", "internal/bytealg.IndexString", "internal/abi.NoEscape", "internal/bytealg.MakeNoZero"], recurses := true, named := ["internal/bytealg.MaxLen", "unicode/utf8.first", "unicode/utf8.acceptRanges"], apart := false, laid := [("unicode/utf8.acceptRanges", laid_unicode_utf8_acceptRanges), ("unicode/utf8.first", laid_unicode_utf8_first)], narrowed := true }
def RatioSimplestUptoSaid : Prop := ratioSimplestUptoRow.holds Tryz.pinned (OpenSpec.upto ratioSimplestSpec)

/-- 'toruslaw03.RatioListsMatch', WHERE WHAT IT READS IS OF BULK AT MOST 1048576: true; the input reads as it did. -/
def ratioListsMatchUptoRow : OpenClaim := { program := "ytfmcgammhfdfnaagreatdoor", sum := "4fb84590ccc20b1d38f98bf323a2dc91d6637323f73660c5f475c66b61d28432", func := "torus/toruslaw03.RatioListsMatch", spec := "ratioListsMatch", inPlace := ["internal/bytealg.IndexByteString", "internal/bytealg.IndexString", "internal/abi.NoEscape", "internal/bytealg.MakeNoZero"], recurses := true, named := ["internal/bytealg.MaxLen", "unicode/utf8.first", "unicode/utf8.acceptRanges"], apart := false, laid := [("unicode/utf8.acceptRanges", laid_unicode_utf8_acceptRanges), ("unicode/utf8.first", laid_unicode_utf8_first)], narrowed := true }
def RatioListsMatchUptoSaid : Prop := ratioListsMatchUptoRow.holds Tryz.pinned (OpenSpec.upto ratioListsMatchSpec)

/-- 'toruslaw03.RatioMatches', WHERE WHAT IT READS IS OF BULK AT MOST 1048576: true; the input reads as it did. -/
def ratioMatchesUptoRow : OpenClaim := { program := "ytfmcgammhfdfnaagreatdoor", sum := "4fb84590ccc20b1d38f98bf323a2dc91d6637323f73660c5f475c66b61d28432", func := "torus/toruslaw03.RatioMatches", spec := "ratioMatches", inPlace := ["internal/bytealg.IndexByteString", "internal/bytealg.IndexString", "internal/abi.NoEscape", "internal/bytealg.MakeNoZero"], unfollowed := true, recurses := true, named := ["internal/bytealg.MaxLen", "unicode/utf8.first", "unicode/utf8.acceptRanges"], apart := false, laid := [("unicode/utf8.acceptRanges", laid_unicode_utf8_acceptRanges), ("unicode/utf8.first", laid_unicode_utf8_first)], narrowed := true }
def RatioMatchesUptoSaid : Prop := ratioMatchesUptoRow.holds Tryz.pinned (OpenSpec.upto ratioMatchesSpec)

/-- 'toruslaw03.RatioText', WHERE WHAT IT READS IS OF BULK AT MOST 1048576: true; the input reads as it did. -/
def ratioTextUptoRow : OpenClaim := { program := "ytfmcgammhfdfnaagreatdoor", sum := "4fb84590ccc20b1d38f98bf323a2dc91d6637323f73660c5f475c66b61d28432", func := "torus/toruslaw03.RatioText", spec := "ratioText", inPlace := ["internal/bytealg.IndexByteString", "internal/bytealg.IndexString", "internal/abi.NoEscape", "internal/bytealg.MakeNoZero"], recurses := true, named := ["internal/bytealg.MaxLen", "unicode/utf8.first", "unicode/utf8.acceptRanges"], apart := false, laid := [("unicode/utf8.acceptRanges", laid_unicode_utf8_acceptRanges), ("unicode/utf8.first", laid_unicode_utf8_first)], narrowed := true }
def RatioTextUptoSaid : Prop := ratioTextUptoRow.holds Tryz.pinned (OpenSpec.upto ratioTextSpec)

/-- 'toruslaw03.RatioExamples', WHERE WHAT IT READS IS OF BULK AT MOST 1048576: true; the input reads as it did. -/
def ratioExamplesUptoRow : OpenClaim := { program := "ytfmcgammhfdfnaagreatdoor", sum := "4fb84590ccc20b1d38f98bf323a2dc91d6637323f73660c5f475c66b61d28432", func := "torus/toruslaw03.RatioExamples", spec := "ratioExamples", inPlace := ["internal/bytealg.IndexByteString", "internal/bytealg.IndexString", "internal/abi.NoEscape", "internal/bytealg.MakeNoZero"], recurses := true, named := ["internal/bytealg.MaxLen", "unicode/utf8.first", "unicode/utf8.acceptRanges"], apart := false, laid := [("unicode/utf8.acceptRanges", laid_unicode_utf8_acceptRanges), ("unicode/utf8.first", laid_unicode_utf8_first)], narrowed := true }
def RatioExamplesUptoSaid : Prop := ratioExamplesUptoRow.holds Tryz.pinned (OpenSpec.upto ratioExamplesSpec)

end Rows
end Go.Proofs.YtfmcgammhfdfnaaGreatDoor
