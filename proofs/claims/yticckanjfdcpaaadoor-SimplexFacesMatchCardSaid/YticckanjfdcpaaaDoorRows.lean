/-
  NARROWER THAN 'FOR EVERY INPUT', by the rows' own cells (each row's printed sentence says how): SimplexNumbersMatch: laid · SimplexSortsMatch: laid · SimplexOrder: laid · SimplexNumbers: laid · SimplexSigns: laid · SimplexMatches: laid · SimplexFacesMatch: laid · SimplexExamples: laid · SimplexFacets: laid.
  DERIVED. THE GIVEN ROWS OF THIS SEAT. 9 by the template 'for every input the law returns true; each argument reads behind the call as it read before'; 0 by the template 'total and deterministic' (their statements: YticckanjfdcpaaaDoorTotals.lean).
  GIVEN WITH THE SEED: the statements are not yours to turn. If you find one false, say at which input.
  Laid BY PROGRAM, IN A SANDBOX (cutbox-rows.mjs): the forced cells as the released guide's own fill.sh prints them over the translation 70603a862079f076… (all of the seat's roots in one cut). By AI agents, Wed Nov 11 2026. No macro, syntax, notation, axiom, sorry.
-/
import Derived.Test.YticckanjfdcpaaaDoorChecked
import GoSem.Claim
import GoSem.ClaimJoined
import GoSem.ClaimMapViews
import Derived.JoinedTies
import Derived.KernelRfl
namespace Go.Proofs.YticckanjfdcpaaaDoor
/- THE CELL 'sum', in the pinned program and in every row, IS THE sha256 OF THE DUMP (.gsa) THAT YticckanjfdcpaaaDoorProg.lean LOADS. Nothing in Lean hashes anything: it is a label: what it is worth is what the hold of that sum in a sandbox is worth. -/
noncomputable def Tryd.pinned : Pinned := { name := "yticckanjfdcpaaadoor", sum := "70603a862079f07609d0d1fb56da3fee583a582f14666a850d3854a32513a3a5", checked := Tryd.checked }
namespace Rows
def none {H : Type} : Left H := { results := [], args := [] }

/- WHAT THE LISTED PACKAGE-LEVEL VARIABLES READ AS WHEN THE CALL BEGINS. Each datum BY PROGRAM (the guide's laid-datum.mjs) off the statement by which the dump's own 'gosem.cut.vars' lays the variable. In a bare row this is a premise. The card (YticckanjfdcpaaaDoorCards.lean) ties it to the program's text. -/
def laid_torus_simplex_first {H : Type} : DataW H := .agg [.lit (.int .i64 1), .lit (.int .i64 0), .lit (.int .i64 0), .lit (.int .i64 0), .lit (.int .i64 0), .lit (.int .i64 0)]

/-- 'toruslaw07.SimplexNumbersMatch': WHATEVER THE INPUT: true; the input reads as it did. -/
def simplexNumbersMatchSpec : ChangeSpec := { name := "simplexNumbersMatch", fn := fun _ => fun
  | [d1, d2, d3] => { results := [.lit (.bool true)], args := [d1, d2, d3] }
  | _ => none }
def simplexNumbersMatchRow : OpenClaim := { program := "yticckanjfdcpaaadoor", sum := "70603a862079f07609d0d1fb56da3fee583a582f14666a850d3854a32513a3a5", func := "torus/toruslaw07.SimplexNumbersMatch", spec := "simplexNumbersMatch", unfollowed := true, recurses := true, named := ["torus/simplex.first"], apart := false, laid := [("torus/simplex.first", laid_torus_simplex_first)] }
def SimplexNumbersMatchSaid : Prop := simplexNumbersMatchRow.holds Tryd.pinned (OpenSpec.ofChange simplexNumbersMatchSpec)

/-- ITS FALSE NEIGHBOUR: 'it returns false'. Refute it at one input. -/
def simplexNumbersMatchWrong : ChangeSpec := { name := "simplexNumbersMatch", fn := fun _ => fun
  | [d1, d2, d3] => { results := [.lit (.bool false)], args := [d1, d2, d3] }
  | _ => none }
def SimplexNumbersMatchWrongFalsely : Prop := simplexNumbersMatchRow.holds Tryd.pinned (OpenSpec.ofChange simplexNumbersMatchWrong)

/-- 'toruslaw07.SimplexSortsMatch': WHATEVER THE INPUT: true; the input reads as it did. -/
def simplexSortsMatchSpec : ChangeSpec := { name := "simplexSortsMatch", fn := fun _ => fun
  | [d] => { results := [.lit (.bool true)], args := [d] }
  | _ => none }
def simplexSortsMatchRow : OpenClaim := { program := "yticckanjfdcpaaadoor", sum := "70603a862079f07609d0d1fb56da3fee583a582f14666a850d3854a32513a3a5", func := "torus/toruslaw07.SimplexSortsMatch", spec := "simplexSortsMatch", unfollowed := true, recurses := true, named := ["torus/simplex.first"], apart := false, laid := [("torus/simplex.first", laid_torus_simplex_first)] }
def SimplexSortsMatchSaid : Prop := simplexSortsMatchRow.holds Tryd.pinned (OpenSpec.ofChange simplexSortsMatchSpec)

/-- ITS FALSE NEIGHBOUR: 'it returns false'. Refute it at one input. -/
def simplexSortsMatchWrong : ChangeSpec := { name := "simplexSortsMatch", fn := fun _ => fun
  | [d] => { results := [.lit (.bool false)], args := [d] }
  | _ => none }
def SimplexSortsMatchWrongFalsely : Prop := simplexSortsMatchRow.holds Tryd.pinned (OpenSpec.ofChange simplexSortsMatchWrong)

/-- 'toruslaw07.SimplexOrder': WHATEVER THE INPUT: true; the input reads as it did. -/
def simplexOrderSpec : ChangeSpec := { name := "simplexOrder", fn := fun _ => fun
  | [d1, d2, d3] => { results := [.lit (.bool true)], args := [d1, d2, d3] }
  | _ => none }
def simplexOrderRow : OpenClaim := { program := "yticckanjfdcpaaadoor", sum := "70603a862079f07609d0d1fb56da3fee583a582f14666a850d3854a32513a3a5", func := "torus/toruslaw07.SimplexOrder", spec := "simplexOrder", unfollowed := true, recurses := true, named := ["torus/simplex.first"], apart := false, laid := [("torus/simplex.first", laid_torus_simplex_first)] }
def SimplexOrderSaid : Prop := simplexOrderRow.holds Tryd.pinned (OpenSpec.ofChange simplexOrderSpec)

/-- ITS FALSE NEIGHBOUR: 'it returns false'. Refute it at one input. -/
def simplexOrderWrong : ChangeSpec := { name := "simplexOrder", fn := fun _ => fun
  | [d1, d2, d3] => { results := [.lit (.bool false)], args := [d1, d2, d3] }
  | _ => none }
def SimplexOrderWrongFalsely : Prop := simplexOrderRow.holds Tryd.pinned (OpenSpec.ofChange simplexOrderWrong)

/-- 'toruslaw07.SimplexNumbers': WHATEVER THE INPUT: true; the input reads as it did. -/
def simplexNumbersSpec : ChangeSpec := { name := "simplexNumbers", fn := fun _ => fun
  | [d1, d2] => { results := [.lit (.bool true)], args := [d1, d2] }
  | _ => none }
def simplexNumbersRow : OpenClaim := { program := "yticckanjfdcpaaadoor", sum := "70603a862079f07609d0d1fb56da3fee583a582f14666a850d3854a32513a3a5", func := "torus/toruslaw07.SimplexNumbers", spec := "simplexNumbers", unfollowed := true, recurses := true, named := ["torus/simplex.first"], apart := false, laid := [("torus/simplex.first", laid_torus_simplex_first)] }
def SimplexNumbersSaid : Prop := simplexNumbersRow.holds Tryd.pinned (OpenSpec.ofChange simplexNumbersSpec)

/-- ITS FALSE NEIGHBOUR: 'it returns false'. Refute it at one input. -/
def simplexNumbersWrong : ChangeSpec := { name := "simplexNumbers", fn := fun _ => fun
  | [d1, d2] => { results := [.lit (.bool false)], args := [d1, d2] }
  | _ => none }
def SimplexNumbersWrongFalsely : Prop := simplexNumbersRow.holds Tryd.pinned (OpenSpec.ofChange simplexNumbersWrong)

/-- 'toruslaw07.SimplexSigns': WHATEVER THE INPUT: true; the input reads as it did. -/
def simplexSignsSpec : ChangeSpec := { name := "simplexSigns", fn := fun _ => fun
  | [d1, d2, d3] => { results := [.lit (.bool true)], args := [d1, d2, d3] }
  | _ => none }
def simplexSignsRow : OpenClaim := { program := "yticckanjfdcpaaadoor", sum := "70603a862079f07609d0d1fb56da3fee583a582f14666a850d3854a32513a3a5", func := "torus/toruslaw07.SimplexSigns", spec := "simplexSigns", unfollowed := true, recurses := true, named := ["torus/simplex.first"], apart := false, laid := [("torus/simplex.first", laid_torus_simplex_first)] }
def SimplexSignsSaid : Prop := simplexSignsRow.holds Tryd.pinned (OpenSpec.ofChange simplexSignsSpec)

/-- ITS FALSE NEIGHBOUR: 'it returns false'. Refute it at one input. -/
def simplexSignsWrong : ChangeSpec := { name := "simplexSigns", fn := fun _ => fun
  | [d1, d2, d3] => { results := [.lit (.bool false)], args := [d1, d2, d3] }
  | _ => none }
def SimplexSignsWrongFalsely : Prop := simplexSignsRow.holds Tryd.pinned (OpenSpec.ofChange simplexSignsWrong)

/-- 'toruslaw07.SimplexMatches': WHATEVER THE INPUT: true; the input reads as it did. -/
def simplexMatchesSpec : ChangeSpec := { name := "simplexMatches", fn := fun _ => fun
  | [d1, d2] => { results := [.lit (.bool true)], args := [d1, d2] }
  | _ => none }
def simplexMatchesRow : OpenClaim := { program := "yticckanjfdcpaaadoor", sum := "70603a862079f07609d0d1fb56da3fee583a582f14666a850d3854a32513a3a5", func := "torus/toruslaw07.SimplexMatches", spec := "simplexMatches", unfollowed := true, recurses := true, named := ["torus/simplex.first"], apart := false, laid := [("torus/simplex.first", laid_torus_simplex_first)] }
def SimplexMatchesSaid : Prop := simplexMatchesRow.holds Tryd.pinned (OpenSpec.ofChange simplexMatchesSpec)

/-- ITS FALSE NEIGHBOUR: 'it returns false'. Refute it at one input. -/
def simplexMatchesWrong : ChangeSpec := { name := "simplexMatches", fn := fun _ => fun
  | [d1, d2] => { results := [.lit (.bool false)], args := [d1, d2] }
  | _ => none }
def SimplexMatchesWrongFalsely : Prop := simplexMatchesRow.holds Tryd.pinned (OpenSpec.ofChange simplexMatchesWrong)

/-- 'toruslaw07.SimplexFacesMatch': WHATEVER THE INPUT: true; the input reads as it did. -/
def simplexFacesMatchSpec : ChangeSpec := { name := "simplexFacesMatch", fn := fun _ => fun
  | [d1, d2, d3] => { results := [.lit (.bool true)], args := [d1, d2, d3] }
  | _ => none }
def simplexFacesMatchRow : OpenClaim := { program := "yticckanjfdcpaaadoor", sum := "70603a862079f07609d0d1fb56da3fee583a582f14666a850d3854a32513a3a5", func := "torus/toruslaw07.SimplexFacesMatch", spec := "simplexFacesMatch", inPlace := ["slices.overlaps[int]"], unfollowed := true, recurses := true, named := ["torus/simplex.first"], apart := false, laid := [("torus/simplex.first", laid_torus_simplex_first)] }
def SimplexFacesMatchSaid : Prop := simplexFacesMatchRow.holds Tryd.pinned (OpenSpec.ofChange simplexFacesMatchSpec)

/-- ITS FALSE NEIGHBOUR: 'it returns false'. Refute it at one input. -/
def simplexFacesMatchWrong : ChangeSpec := { name := "simplexFacesMatch", fn := fun _ => fun
  | [d1, d2, d3] => { results := [.lit (.bool false)], args := [d1, d2, d3] }
  | _ => none }
def SimplexFacesMatchWrongFalsely : Prop := simplexFacesMatchRow.holds Tryd.pinned (OpenSpec.ofChange simplexFacesMatchWrong)

/-- 'toruslaw07.SimplexExamples': WHATEVER THE INPUT: true; the input reads as it did. -/
def simplexExamplesSpec : ChangeSpec := { name := "simplexExamples", fn := fun _ => fun
  | [] => { results := [.lit (.bool true)], args := [] }
  | _ => none }
def simplexExamplesRow : OpenClaim := { program := "yticckanjfdcpaaadoor", sum := "70603a862079f07609d0d1fb56da3fee583a582f14666a850d3854a32513a3a5", func := "torus/toruslaw07.SimplexExamples", spec := "simplexExamples", inPlace := ["slices.overlaps[int]"], unfollowed := true, recurses := true, named := ["torus/simplex.first"], apart := false, laid := [("torus/simplex.first", laid_torus_simplex_first)] }
def SimplexExamplesSaid : Prop := simplexExamplesRow.holds Tryd.pinned (OpenSpec.ofChange simplexExamplesSpec)

/-- ITS FALSE NEIGHBOUR: 'it returns false'. Refute it at one input. -/
def simplexExamplesWrong : ChangeSpec := { name := "simplexExamples", fn := fun _ => fun
  | [] => { results := [.lit (.bool false)], args := [] }
  | _ => none }
def SimplexExamplesWrongFalsely : Prop := simplexExamplesRow.holds Tryd.pinned (OpenSpec.ofChange simplexExamplesWrong)

/-- 'toruslaw07.SimplexFacets': WHATEVER THE INPUT: true; the input reads as it did. -/
def simplexFacetsSpec : ChangeSpec := { name := "simplexFacets", fn := fun _ => fun
  | [d] => { results := [.lit (.bool true)], args := [d] }
  | _ => none }
def simplexFacetsRow : OpenClaim := { program := "yticckanjfdcpaaadoor", sum := "70603a862079f07609d0d1fb56da3fee583a582f14666a850d3854a32513a3a5", func := "torus/toruslaw07.SimplexFacets", spec := "simplexFacets", inPlace := ["slices.overlaps[int]"], unfollowed := true, recurses := true, named := ["torus/simplex.first"], apart := false, laid := [("torus/simplex.first", laid_torus_simplex_first)] }
def SimplexFacetsSaid : Prop := simplexFacetsRow.holds Tryd.pinned (OpenSpec.ofChange simplexFacetsSpec)

/-- ITS FALSE NEIGHBOUR: 'it returns false'. Refute it at one input. -/
def simplexFacetsWrong : ChangeSpec := { name := "simplexFacets", fn := fun _ => fun
  | [d] => { results := [.lit (.bool false)], args := [d] }
  | _ => none }
def SimplexFacetsWrongFalsely : Prop := simplexFacetsRow.holds Tryd.pinned (OpenSpec.ofChange simplexFacetsWrong)

/- THE SECOND FORM. 'bulk': how many values and letters a reading holds, each counted each time it is reached (what is shared counts as often as it is met; a slice's spare places count too). A statement '..UptoSaid' is the law's where the arguments, and the package variables that the reading takes, are together of bulk at most 1048576: NARROWER than '..Said'. Prove '..Said' where nothing that the law and all that it calls make is longer than what came in: it says more and counts as full. Else prove '..UptoSaid'. A law counts once. -/
mutual
def uptoBulk {H : Type} : DataW H → Nat
  | .lit (.string bytes) => bytes.length + 1
  | .lit _ => 1
  | .nil => 1
  | .ptr d => uptoBulk d + 1
  | .slice elems spare => uptoBulkAll elems + uptoBulkAll spare + 1
  | .agg parts => uptoBulkAll parts + 1
  | .iface _ d => uptoBulk d + 1
  | .map entries => uptoBulkEntries entries + 1
  | .held _ => 1
def uptoBulkAll {H : Type} : List (DataW H) → Nat
  | [] => 0
  | d :: r => uptoBulk d + uptoBulkAll r
def uptoBulkEntries {H : Type} : List (Lit × DataW H) → Nat
  | [] => 0
  | x :: r => uptoBulkEntry x + uptoBulkEntries r
def uptoBulkEntry {H : Type} : Lit × DataW H → Nat
  | (.string bytes, d) => bytes.length + uptoBulk d + 1
  | (_, d) => uptoBulk d + 1
 end
def uptoSmall : (H : Type) → List (DataW H) → Bool := fun _ ds => decide (uptoBulkAll ds ≤ 1048576)
def OpenSpec.upto (s : _root_.Go.ChangeSpec) : _root_.Go.OpenSpec := { _root_.Go.OpenSpec.ofChange s with cond := some uptoSmall }

/-- 'toruslaw07.SimplexNumbersMatch', WHERE WHAT IT READS IS OF BULK AT MOST 1048576: true; the input reads as it did. -/
def simplexNumbersMatchUptoRow : OpenClaim := { program := "yticckanjfdcpaaadoor", sum := "70603a862079f07609d0d1fb56da3fee583a582f14666a850d3854a32513a3a5", func := "torus/toruslaw07.SimplexNumbersMatch", spec := "simplexNumbersMatch", unfollowed := true, recurses := true, named := ["torus/simplex.first"], apart := false, laid := [("torus/simplex.first", laid_torus_simplex_first)], narrowed := true }
def SimplexNumbersMatchUptoSaid : Prop := simplexNumbersMatchUptoRow.holds Tryd.pinned (OpenSpec.upto simplexNumbersMatchSpec)

/-- 'toruslaw07.SimplexSortsMatch', WHERE WHAT IT READS IS OF BULK AT MOST 1048576: true; the input reads as it did. -/
def simplexSortsMatchUptoRow : OpenClaim := { program := "yticckanjfdcpaaadoor", sum := "70603a862079f07609d0d1fb56da3fee583a582f14666a850d3854a32513a3a5", func := "torus/toruslaw07.SimplexSortsMatch", spec := "simplexSortsMatch", unfollowed := true, recurses := true, named := ["torus/simplex.first"], apart := false, laid := [("torus/simplex.first", laid_torus_simplex_first)], narrowed := true }
def SimplexSortsMatchUptoSaid : Prop := simplexSortsMatchUptoRow.holds Tryd.pinned (OpenSpec.upto simplexSortsMatchSpec)

/-- 'toruslaw07.SimplexOrder', WHERE WHAT IT READS IS OF BULK AT MOST 1048576: true; the input reads as it did. -/
def simplexOrderUptoRow : OpenClaim := { program := "yticckanjfdcpaaadoor", sum := "70603a862079f07609d0d1fb56da3fee583a582f14666a850d3854a32513a3a5", func := "torus/toruslaw07.SimplexOrder", spec := "simplexOrder", unfollowed := true, recurses := true, named := ["torus/simplex.first"], apart := false, laid := [("torus/simplex.first", laid_torus_simplex_first)], narrowed := true }
def SimplexOrderUptoSaid : Prop := simplexOrderUptoRow.holds Tryd.pinned (OpenSpec.upto simplexOrderSpec)

/-- 'toruslaw07.SimplexNumbers', WHERE WHAT IT READS IS OF BULK AT MOST 1048576: true; the input reads as it did. -/
def simplexNumbersUptoRow : OpenClaim := { program := "yticckanjfdcpaaadoor", sum := "70603a862079f07609d0d1fb56da3fee583a582f14666a850d3854a32513a3a5", func := "torus/toruslaw07.SimplexNumbers", spec := "simplexNumbers", unfollowed := true, recurses := true, named := ["torus/simplex.first"], apart := false, laid := [("torus/simplex.first", laid_torus_simplex_first)], narrowed := true }
def SimplexNumbersUptoSaid : Prop := simplexNumbersUptoRow.holds Tryd.pinned (OpenSpec.upto simplexNumbersSpec)

/-- 'toruslaw07.SimplexSigns', WHERE WHAT IT READS IS OF BULK AT MOST 1048576: true; the input reads as it did. -/
def simplexSignsUptoRow : OpenClaim := { program := "yticckanjfdcpaaadoor", sum := "70603a862079f07609d0d1fb56da3fee583a582f14666a850d3854a32513a3a5", func := "torus/toruslaw07.SimplexSigns", spec := "simplexSigns", unfollowed := true, recurses := true, named := ["torus/simplex.first"], apart := false, laid := [("torus/simplex.first", laid_torus_simplex_first)], narrowed := true }
def SimplexSignsUptoSaid : Prop := simplexSignsUptoRow.holds Tryd.pinned (OpenSpec.upto simplexSignsSpec)

/-- 'toruslaw07.SimplexMatches', WHERE WHAT IT READS IS OF BULK AT MOST 1048576: true; the input reads as it did. -/
def simplexMatchesUptoRow : OpenClaim := { program := "yticckanjfdcpaaadoor", sum := "70603a862079f07609d0d1fb56da3fee583a582f14666a850d3854a32513a3a5", func := "torus/toruslaw07.SimplexMatches", spec := "simplexMatches", unfollowed := true, recurses := true, named := ["torus/simplex.first"], apart := false, laid := [("torus/simplex.first", laid_torus_simplex_first)], narrowed := true }
def SimplexMatchesUptoSaid : Prop := simplexMatchesUptoRow.holds Tryd.pinned (OpenSpec.upto simplexMatchesSpec)

/-- 'toruslaw07.SimplexFacesMatch', WHERE WHAT IT READS IS OF BULK AT MOST 1048576: true; the input reads as it did. -/
def simplexFacesMatchUptoRow : OpenClaim := { program := "yticckanjfdcpaaadoor", sum := "70603a862079f07609d0d1fb56da3fee583a582f14666a850d3854a32513a3a5", func := "torus/toruslaw07.SimplexFacesMatch", spec := "simplexFacesMatch", inPlace := ["slices.overlaps[int]"], unfollowed := true, recurses := true, named := ["torus/simplex.first"], apart := false, laid := [("torus/simplex.first", laid_torus_simplex_first)], narrowed := true }
def SimplexFacesMatchUptoSaid : Prop := simplexFacesMatchUptoRow.holds Tryd.pinned (OpenSpec.upto simplexFacesMatchSpec)

/-- 'toruslaw07.SimplexExamples', WHERE WHAT IT READS IS OF BULK AT MOST 1048576: true; the input reads as it did. -/
def simplexExamplesUptoRow : OpenClaim := { program := "yticckanjfdcpaaadoor", sum := "70603a862079f07609d0d1fb56da3fee583a582f14666a850d3854a32513a3a5", func := "torus/toruslaw07.SimplexExamples", spec := "simplexExamples", inPlace := ["slices.overlaps[int]"], unfollowed := true, recurses := true, named := ["torus/simplex.first"], apart := false, laid := [("torus/simplex.first", laid_torus_simplex_first)], narrowed := true }
def SimplexExamplesUptoSaid : Prop := simplexExamplesUptoRow.holds Tryd.pinned (OpenSpec.upto simplexExamplesSpec)

/-- 'toruslaw07.SimplexFacets', WHERE WHAT IT READS IS OF BULK AT MOST 1048576: true; the input reads as it did. -/
def simplexFacetsUptoRow : OpenClaim := { program := "yticckanjfdcpaaadoor", sum := "70603a862079f07609d0d1fb56da3fee583a582f14666a850d3854a32513a3a5", func := "torus/toruslaw07.SimplexFacets", spec := "simplexFacets", inPlace := ["slices.overlaps[int]"], unfollowed := true, recurses := true, named := ["torus/simplex.first"], apart := false, laid := [("torus/simplex.first", laid_torus_simplex_first)], narrowed := true }
def SimplexFacetsUptoSaid : Prop := simplexFacetsUptoRow.holds Tryd.pinned (OpenSpec.upto simplexFacetsSpec)

end Rows
end Go.Proofs.YticckanjfdcpaaaDoor
