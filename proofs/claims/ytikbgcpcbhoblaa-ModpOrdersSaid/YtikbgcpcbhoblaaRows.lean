/-
  No cell of these rows narrows 'for every input' (looked for: loops, veiled, ifaces, maps, wideKeys, modest, calm, conditions, laid).
  DERIVED. THE GIVEN ROWS OF THIS SEAT. 8 by the template 'for every input the law returns true; each argument reads behind the call as it read before'; 0 by the template 'total and deterministic' (their statements: YtikbgcpcbhoblaaTotals.lean).
  GIVEN WITH THE SEED: the statements are not yours to turn. If you find one false, say at which input.
  Laid BY PROGRAM, IN A SANDBOX (cutbox-rows.mjs): the forced cells as the released guide's own fill.sh prints them over the translation 9778f8ce4074208a… (all of the seat's roots in one cut). By AI agents, Wed Nov 11 2026. No macro, syntax, notation, axiom, sorry.
-/
import Derived.Test.YtikbgcpcbhoblaaChecked
import GoSem.Claim
import GoSem.ClaimJoined
import GoSem.ClaimMapViews
import Derived.JoinedTies
import Derived.KernelRfl
namespace Go.Proofs.Ytikbgcpcbhoblaa
/- THE CELL 'sum', in the pinned program and in every row, IS THE sha256 OF THE DUMP (.gsa) THAT YtikbgcpcbhoblaaProg.lean LOADS. Nothing in Lean hashes anything: it is a label: what it is worth is what the hold of that sum in a sandbox is worth. -/
noncomputable def Try.pinned : Pinned := { name := "ytikbgcpcbhoblaa", sum := "9778f8ce4074208afdabc2fcf6c6bcae23a59ccfbfcccc932a0f20f2d2a75ae4", checked := Try.checked }
namespace Rows
def none {H : Type} : Left H := { results := [], args := [] }

/-- 'toruslaw01.ModpSums': WHATEVER THE INPUT: true; the input reads as it did. -/
def modpSumsSpec : ChangeSpec := { name := "modpSums", fn := fun _ => fun
  | [d1, d2] => { results := [.lit (.bool true)], args := [d1, d2] }
  | _ => none }
def modpSumsRow : OpenClaim := { program := "ytikbgcpcbhoblaa", sum := "9778f8ce4074208afdabc2fcf6c6bcae23a59ccfbfcccc932a0f20f2d2a75ae4", func := "torus/toruslaw01.ModpSums", spec := "modpSums", apart := false }
def ModpSumsSaid : Prop := modpSumsRow.holds Try.pinned (OpenSpec.ofChange modpSumsSpec)

/-- ITS FALSE NEIGHBOUR: 'it returns false'. Refute it at one input. -/
def modpSumsWrong : ChangeSpec := { name := "modpSums", fn := fun _ => fun
  | [d1, d2] => { results := [.lit (.bool false)], args := [d1, d2] }
  | _ => none }
def ModpSumsWrongFalsely : Prop := modpSumsRow.holds Try.pinned (OpenSpec.ofChange modpSumsWrong)

/-- 'toruslaw01.ModpPowers': WHATEVER THE INPUT: true; the input reads as it did. -/
def modpPowersSpec : ChangeSpec := { name := "modpPowers", fn := fun _ => fun
  | [d1, d2, d3, d4] => { results := [.lit (.bool true)], args := [d1, d2, d3, d4] }
  | _ => none }
def modpPowersRow : OpenClaim := { program := "ytikbgcpcbhoblaa", sum := "9778f8ce4074208afdabc2fcf6c6bcae23a59ccfbfcccc932a0f20f2d2a75ae4", func := "torus/toruslaw01.ModpPowers", spec := "modpPowers", apart := false }
def ModpPowersSaid : Prop := modpPowersRow.holds Try.pinned (OpenSpec.ofChange modpPowersSpec)

/-- ITS FALSE NEIGHBOUR: 'it returns false'. Refute it at one input. -/
def modpPowersWrong : ChangeSpec := { name := "modpPowers", fn := fun _ => fun
  | [d1, d2, d3, d4] => { results := [.lit (.bool false)], args := [d1, d2, d3, d4] }
  | _ => none }
def ModpPowersWrongFalsely : Prop := modpPowersRow.holds Try.pinned (OpenSpec.ofChange modpPowersWrong)

/-- 'toruslaw01.ModpSquares': WHATEVER THE INPUT: true; the input reads as it did. -/
def modpSquaresSpec : ChangeSpec := { name := "modpSquares", fn := fun _ => fun
  | [d1, d2] => { results := [.lit (.bool true)], args := [d1, d2] }
  | _ => none }
def modpSquaresRow : OpenClaim := { program := "ytikbgcpcbhoblaa", sum := "9778f8ce4074208afdabc2fcf6c6bcae23a59ccfbfcccc932a0f20f2d2a75ae4", func := "torus/toruslaw01.ModpSquares", spec := "modpSquares", apart := false }
def ModpSquaresSaid : Prop := modpSquaresRow.holds Try.pinned (OpenSpec.ofChange modpSquaresSpec)

/-- ITS FALSE NEIGHBOUR: 'it returns false'. Refute it at one input. -/
def modpSquaresWrong : ChangeSpec := { name := "modpSquares", fn := fun _ => fun
  | [d1, d2] => { results := [.lit (.bool false)], args := [d1, d2] }
  | _ => none }
def ModpSquaresWrongFalsely : Prop := modpSquaresRow.holds Try.pinned (OpenSpec.ofChange modpSquaresWrong)

/-- 'toruslaw01.ModpField': WHATEVER THE INPUT: true; the input reads as it did. -/
def modpFieldSpec : ChangeSpec := { name := "modpField", fn := fun _ => fun
  | [d1, d2, d3, d4] => { results := [.lit (.bool true)], args := [d1, d2, d3, d4] }
  | _ => none }
def modpFieldRow : OpenClaim := { program := "ytikbgcpcbhoblaa", sum := "9778f8ce4074208afdabc2fcf6c6bcae23a59ccfbfcccc932a0f20f2d2a75ae4", func := "torus/toruslaw01.ModpField", spec := "modpField", apart := false }
def ModpFieldSaid : Prop := modpFieldRow.holds Try.pinned (OpenSpec.ofChange modpFieldSpec)

/-- ITS FALSE NEIGHBOUR: 'it returns false'. Refute it at one input. -/
def modpFieldWrong : ChangeSpec := { name := "modpField", fn := fun _ => fun
  | [d1, d2, d3, d4] => { results := [.lit (.bool false)], args := [d1, d2, d3, d4] }
  | _ => none }
def ModpFieldWrongFalsely : Prop := modpFieldRow.holds Try.pinned (OpenSpec.ofChange modpFieldWrong)

/-- 'toruslaw01.ModpResidues': WHATEVER THE INPUT: true; the input reads as it did. -/
def modpResiduesSpec : ChangeSpec := { name := "modpResidues", fn := fun _ => fun
  | [d1, d2, d3, d4] => { results := [.lit (.bool true)], args := [d1, d2, d3, d4] }
  | _ => none }
def modpResiduesRow : OpenClaim := { program := "ytikbgcpcbhoblaa", sum := "9778f8ce4074208afdabc2fcf6c6bcae23a59ccfbfcccc932a0f20f2d2a75ae4", func := "torus/toruslaw01.ModpResidues", spec := "modpResidues", apart := false }
def ModpResiduesSaid : Prop := modpResiduesRow.holds Try.pinned (OpenSpec.ofChange modpResiduesSpec)

/-- ITS FALSE NEIGHBOUR: 'it returns false'. Refute it at one input. -/
def modpResiduesWrong : ChangeSpec := { name := "modpResidues", fn := fun _ => fun
  | [d1, d2, d3, d4] => { results := [.lit (.bool false)], args := [d1, d2, d3, d4] }
  | _ => none }
def ModpResiduesWrongFalsely : Prop := modpResiduesRow.holds Try.pinned (OpenSpec.ofChange modpResiduesWrong)

/-- 'toruslaw01.ModpOrders': WHATEVER THE INPUT: true; the input reads as it did. -/
def modpOrdersSpec : ChangeSpec := { name := "modpOrders", fn := fun _ => fun
  | [d1, d2, d3] => { results := [.lit (.bool true)], args := [d1, d2, d3] }
  | _ => none }
def modpOrdersRow : OpenClaim := { program := "ytikbgcpcbhoblaa", sum := "9778f8ce4074208afdabc2fcf6c6bcae23a59ccfbfcccc932a0f20f2d2a75ae4", func := "torus/toruslaw01.ModpOrders", spec := "modpOrders", apart := false }
def ModpOrdersSaid : Prop := modpOrdersRow.holds Try.pinned (OpenSpec.ofChange modpOrdersSpec)

/-- ITS FALSE NEIGHBOUR: 'it returns false'. Refute it at one input. -/
def modpOrdersWrong : ChangeSpec := { name := "modpOrders", fn := fun _ => fun
  | [d1, d2, d3] => { results := [.lit (.bool false)], args := [d1, d2, d3] }
  | _ => none }
def ModpOrdersWrongFalsely : Prop := modpOrdersRow.holds Try.pinned (OpenSpec.ofChange modpOrdersWrong)

/-- 'toruslaw01.ModpMatches': WHATEVER THE INPUT: true; the input reads as it did. -/
def modpMatchesSpec : ChangeSpec := { name := "modpMatches", fn := fun _ => fun
  | [d1, d2, d3, d4] => { results := [.lit (.bool true)], args := [d1, d2, d3, d4] }
  | _ => none }
def modpMatchesRow : OpenClaim := { program := "ytikbgcpcbhoblaa", sum := "9778f8ce4074208afdabc2fcf6c6bcae23a59ccfbfcccc932a0f20f2d2a75ae4", func := "torus/toruslaw01.ModpMatches", spec := "modpMatches", apart := false }
def ModpMatchesSaid : Prop := modpMatchesRow.holds Try.pinned (OpenSpec.ofChange modpMatchesSpec)

/-- ITS FALSE NEIGHBOUR: 'it returns false'. Refute it at one input. -/
def modpMatchesWrong : ChangeSpec := { name := "modpMatches", fn := fun _ => fun
  | [d1, d2, d3, d4] => { results := [.lit (.bool false)], args := [d1, d2, d3, d4] }
  | _ => none }
def ModpMatchesWrongFalsely : Prop := modpMatchesRow.holds Try.pinned (OpenSpec.ofChange modpMatchesWrong)

/-- 'toruslaw01.ModpExamples': WHATEVER THE INPUT: true; the input reads as it did. -/
def modpExamplesSpec : ChangeSpec := { name := "modpExamples", fn := fun _ => fun
  | [] => { results := [.lit (.bool true)], args := [] }
  | _ => none }
def modpExamplesRow : OpenClaim := { program := "ytikbgcpcbhoblaa", sum := "9778f8ce4074208afdabc2fcf6c6bcae23a59ccfbfcccc932a0f20f2d2a75ae4", func := "torus/toruslaw01.ModpExamples", spec := "modpExamples", apart := false }
def ModpExamplesSaid : Prop := modpExamplesRow.holds Try.pinned (OpenSpec.ofChange modpExamplesSpec)

/-- ITS FALSE NEIGHBOUR: 'it returns false'. Refute it at one input. -/
def modpExamplesWrong : ChangeSpec := { name := "modpExamples", fn := fun _ => fun
  | [] => { results := [.lit (.bool false)], args := [] }
  | _ => none }
def ModpExamplesWrongFalsely : Prop := modpExamplesRow.holds Try.pinned (OpenSpec.ofChange modpExamplesWrong)

/- THE SECOND FORM. 'bulk': how many values and letters a reading holds, each counted each time it is reached (what is shared counts as often as it is met; a slice's spare places count too). A statement '..UptoSaid' is the law's where the arguments, and the package variables that the reading takes, are together of bulk at most 1048576: NARROWER than '..Said'. Prove '..Said' where nothing that the law and all that it calls make is longer than what came in: it says more and counts as full. Else prove '..UptoSaid'. A law counts once. -/
mutual
def uptoBulk {H : Type} : DataW H → Nat
  | .lit (.string bytes) => bytes.length + 1
  | .lit _ => 1
  | .nil => 1
  | .ptr d => uptoBulk d + 1
  | .slice elems spare => uptoBulkAll elems + uptoBulkAll spare + 1
  | .agg parts => uptoBulkAll parts + 1
  | .iface _ d => uptoBulk d + 1
  | .map entries => uptoBulkEntries entries + 1
  | .held _ => 1
def uptoBulkAll {H : Type} : List (DataW H) → Nat
  | [] => 0
  | d :: r => uptoBulk d + uptoBulkAll r
def uptoBulkEntries {H : Type} : List (Lit × DataW H) → Nat
  | [] => 0
  | x :: r => uptoBulkEntry x + uptoBulkEntries r
def uptoBulkEntry {H : Type} : Lit × DataW H → Nat
  | (.string bytes, d) => bytes.length + uptoBulk d + 1
  | (_, d) => uptoBulk d + 1
 end
def uptoSmall : (H : Type) → List (DataW H) → Bool := fun _ ds => decide (uptoBulkAll ds ≤ 1048576)
def OpenSpec.upto (s : _root_.Go.ChangeSpec) : _root_.Go.OpenSpec := { _root_.Go.OpenSpec.ofChange s with cond := some uptoSmall }

/-- 'toruslaw01.ModpSums', WHERE WHAT IT READS IS OF BULK AT MOST 1048576: true; the input reads as it did. -/
def modpSumsUptoRow : OpenClaim := { program := "ytikbgcpcbhoblaa", sum := "9778f8ce4074208afdabc2fcf6c6bcae23a59ccfbfcccc932a0f20f2d2a75ae4", func := "torus/toruslaw01.ModpSums", spec := "modpSums", apart := false, narrowed := true }
def ModpSumsUptoSaid : Prop := modpSumsUptoRow.holds Try.pinned (OpenSpec.upto modpSumsSpec)

/-- 'toruslaw01.ModpPowers', WHERE WHAT IT READS IS OF BULK AT MOST 1048576: true; the input reads as it did. -/
def modpPowersUptoRow : OpenClaim := { program := "ytikbgcpcbhoblaa", sum := "9778f8ce4074208afdabc2fcf6c6bcae23a59ccfbfcccc932a0f20f2d2a75ae4", func := "torus/toruslaw01.ModpPowers", spec := "modpPowers", apart := false, narrowed := true }
def ModpPowersUptoSaid : Prop := modpPowersUptoRow.holds Try.pinned (OpenSpec.upto modpPowersSpec)

/-- 'toruslaw01.ModpSquares', WHERE WHAT IT READS IS OF BULK AT MOST 1048576: true; the input reads as it did. -/
def modpSquaresUptoRow : OpenClaim := { program := "ytikbgcpcbhoblaa", sum := "9778f8ce4074208afdabc2fcf6c6bcae23a59ccfbfcccc932a0f20f2d2a75ae4", func := "torus/toruslaw01.ModpSquares", spec := "modpSquares", apart := false, narrowed := true }
def ModpSquaresUptoSaid : Prop := modpSquaresUptoRow.holds Try.pinned (OpenSpec.upto modpSquaresSpec)

/-- 'toruslaw01.ModpField', WHERE WHAT IT READS IS OF BULK AT MOST 1048576: true; the input reads as it did. -/
def modpFieldUptoRow : OpenClaim := { program := "ytikbgcpcbhoblaa", sum := "9778f8ce4074208afdabc2fcf6c6bcae23a59ccfbfcccc932a0f20f2d2a75ae4", func := "torus/toruslaw01.ModpField", spec := "modpField", apart := false, narrowed := true }
def ModpFieldUptoSaid : Prop := modpFieldUptoRow.holds Try.pinned (OpenSpec.upto modpFieldSpec)

/-- 'toruslaw01.ModpResidues', WHERE WHAT IT READS IS OF BULK AT MOST 1048576: true; the input reads as it did. -/
def modpResiduesUptoRow : OpenClaim := { program := "ytikbgcpcbhoblaa", sum := "9778f8ce4074208afdabc2fcf6c6bcae23a59ccfbfcccc932a0f20f2d2a75ae4", func := "torus/toruslaw01.ModpResidues", spec := "modpResidues", apart := false, narrowed := true }
def ModpResiduesUptoSaid : Prop := modpResiduesUptoRow.holds Try.pinned (OpenSpec.upto modpResiduesSpec)

/-- 'toruslaw01.ModpOrders', WHERE WHAT IT READS IS OF BULK AT MOST 1048576: true; the input reads as it did. -/
def modpOrdersUptoRow : OpenClaim := { program := "ytikbgcpcbhoblaa", sum := "9778f8ce4074208afdabc2fcf6c6bcae23a59ccfbfcccc932a0f20f2d2a75ae4", func := "torus/toruslaw01.ModpOrders", spec := "modpOrders", apart := false, narrowed := true }
def ModpOrdersUptoSaid : Prop := modpOrdersUptoRow.holds Try.pinned (OpenSpec.upto modpOrdersSpec)

/-- 'toruslaw01.ModpMatches', WHERE WHAT IT READS IS OF BULK AT MOST 1048576: true; the input reads as it did. -/
def modpMatchesUptoRow : OpenClaim := { program := "ytikbgcpcbhoblaa", sum := "9778f8ce4074208afdabc2fcf6c6bcae23a59ccfbfcccc932a0f20f2d2a75ae4", func := "torus/toruslaw01.ModpMatches", spec := "modpMatches", apart := false, narrowed := true }
def ModpMatchesUptoSaid : Prop := modpMatchesUptoRow.holds Try.pinned (OpenSpec.upto modpMatchesSpec)

/-- 'toruslaw01.ModpExamples', WHERE WHAT IT READS IS OF BULK AT MOST 1048576: true; the input reads as it did. -/
def modpExamplesUptoRow : OpenClaim := { program := "ytikbgcpcbhoblaa", sum := "9778f8ce4074208afdabc2fcf6c6bcae23a59ccfbfcccc932a0f20f2d2a75ae4", func := "torus/toruslaw01.ModpExamples", spec := "modpExamples", apart := false, narrowed := true }
def ModpExamplesUptoSaid : Prop := modpExamplesUptoRow.holds Try.pinned (OpenSpec.upto modpExamplesSpec)

end Rows
end Go.Proofs.Ytikbgcpcbhoblaa
