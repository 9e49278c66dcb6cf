/-
  DERIVED. GIVEN WITH THE SEED: THE CARDS: each row of YticckanjfdcpaaaDoorRows.lean that lists a variable, with what it lists TIED to the program's text (the seventh form; the later family's looks); each row that meets fmt, with fmt's text TOLD by the authors' own Lean function (tested against real Go, not proved from fmt's source: count such statements apart). THE CARD IS WHAT COUNTS. Prove the row's statement (the work); the ties are given (YticckanjfdcpaaaDoorTie.lean); close each card by the builder's one call (the guide's Derived/Test/ToyasCard.lean, 'card_holds'). Laid BY PROGRAM, IN A SANDBOX (cutbox-door.mjs). By AI agents, Wed Nov 11 2026. No macro, syntax, notation, axiom, sorry.
-/
import Derived.Test.YticckanjfdcpaaaDoorRows
import GoSem.ClaimSeven
namespace Go.Proofs.YticckanjfdcpaaaDoor
namespace Rows

/-- THE TIED CARD OF 'toruslaw07.SimplexNumbersMatch'. -/
def simplexNumbersMatchCard : Claim7 := { stood := { row := simplexNumbersMatchRow, standIns := [], harness := (true, "d945c3cb7479b9187ab8ce166429699eca8fd2609311fbf4ac610a563337d304"), looks := false }, kinds := [], alts := [], laidByText := true, laidKinds := [.data], laidTests := true, laidLooks := .later }
def SimplexNumbersMatchCardSaid : Prop := Claim7.holds Tryd.pinned (.plain (OpenSpec.ofChange simplexNumbersMatchSpec)) simplexNumbersMatchCard

/-- THE TIED CARD OF 'toruslaw07.SimplexSortsMatch'. -/
def simplexSortsMatchCard : Claim7 := { stood := { row := simplexSortsMatchRow, standIns := [], harness := (true, "d945c3cb7479b9187ab8ce166429699eca8fd2609311fbf4ac610a563337d304"), looks := false }, kinds := [], alts := [], laidByText := true, laidKinds := [.data], laidTests := true, laidLooks := .later }
def SimplexSortsMatchCardSaid : Prop := Claim7.holds Tryd.pinned (.plain (OpenSpec.ofChange simplexSortsMatchSpec)) simplexSortsMatchCard

/-- THE TIED CARD OF 'toruslaw07.SimplexOrder'. -/
def simplexOrderCard : Claim7 := { stood := { row := simplexOrderRow, standIns := [], harness := (true, "d945c3cb7479b9187ab8ce166429699eca8fd2609311fbf4ac610a563337d304"), looks := false }, kinds := [], alts := [], laidByText := true, laidKinds := [.data], laidTests := true, laidLooks := .later }
def SimplexOrderCardSaid : Prop := Claim7.holds Tryd.pinned (.plain (OpenSpec.ofChange simplexOrderSpec)) simplexOrderCard

/-- THE TIED CARD OF 'toruslaw07.SimplexNumbers'. -/
def simplexNumbersCard : Claim7 := { stood := { row := simplexNumbersRow, standIns := [], harness := (true, "d945c3cb7479b9187ab8ce166429699eca8fd2609311fbf4ac610a563337d304"), looks := false }, kinds := [], alts := [], laidByText := true, laidKinds := [.data], laidTests := true, laidLooks := .later }
def SimplexNumbersCardSaid : Prop := Claim7.holds Tryd.pinned (.plain (OpenSpec.ofChange simplexNumbersSpec)) simplexNumbersCard

/-- THE TIED CARD OF 'toruslaw07.SimplexSigns'. -/
def simplexSignsCard : Claim7 := { stood := { row := simplexSignsRow, standIns := [], harness := (true, "d945c3cb7479b9187ab8ce166429699eca8fd2609311fbf4ac610a563337d304"), looks := false }, kinds := [], alts := [], laidByText := true, laidKinds := [.data], laidTests := true, laidLooks := .later }
def SimplexSignsCardSaid : Prop := Claim7.holds Tryd.pinned (.plain (OpenSpec.ofChange simplexSignsSpec)) simplexSignsCard

/-- THE TIED CARD OF 'toruslaw07.SimplexMatches'. -/
def simplexMatchesCard : Claim7 := { stood := { row := simplexMatchesRow, standIns := [], harness := (true, "d945c3cb7479b9187ab8ce166429699eca8fd2609311fbf4ac610a563337d304"), looks := false }, kinds := [], alts := [], laidByText := true, laidKinds := [.data], laidTests := true, laidLooks := .later }
def SimplexMatchesCardSaid : Prop := Claim7.holds Tryd.pinned (.plain (OpenSpec.ofChange simplexMatchesSpec)) simplexMatchesCard

/-- THE TIED CARD OF 'toruslaw07.SimplexFacesMatch'. -/
def simplexFacesMatchCard : Claim7 := { stood := { row := simplexFacesMatchRow, standIns := [], harness := (true, "d945c3cb7479b9187ab8ce166429699eca8fd2609311fbf4ac610a563337d304"), looks := false }, kinds := [], alts := [], laidByText := true, laidKinds := [.data], laidTests := true, laidLooks := .later }
def SimplexFacesMatchCardSaid : Prop := Claim7.holds Tryd.pinned (.plain (OpenSpec.ofChange simplexFacesMatchSpec)) simplexFacesMatchCard

/-- THE TIED CARD OF 'toruslaw07.SimplexExamples'. -/
def simplexExamplesCard : Claim7 := { stood := { row := simplexExamplesRow, standIns := [], harness := (true, "d945c3cb7479b9187ab8ce166429699eca8fd2609311fbf4ac610a563337d304"), looks := false }, kinds := [], alts := [], laidByText := true, laidKinds := [.data], laidTests := true, laidLooks := .later }
def SimplexExamplesCardSaid : Prop := Claim7.holds Tryd.pinned (.plain (OpenSpec.ofChange simplexExamplesSpec)) simplexExamplesCard

/-- THE TIED CARD OF 'toruslaw07.SimplexFacets'. -/
def simplexFacetsCard : Claim7 := { stood := { row := simplexFacetsRow, standIns := [], harness := (true, "d945c3cb7479b9187ab8ce166429699eca8fd2609311fbf4ac610a563337d304"), looks := false }, kinds := [], alts := [], laidByText := true, laidKinds := [.data], laidTests := true, laidLooks := .later }
def SimplexFacetsCardSaid : Prop := Claim7.holds Tryd.pinned (.plain (OpenSpec.ofChange simplexFacetsSpec)) simplexFacetsCard

/-- THE SECOND FORM's CARD OF 'toruslaw07.SimplexNumbersMatch'. -/
def simplexNumbersMatchUptoCard : Claim7 := { stood := { row := simplexNumbersMatchUptoRow, standIns := [], harness := (true, "d945c3cb7479b9187ab8ce166429699eca8fd2609311fbf4ac610a563337d304"), looks := false }, kinds := [], alts := [], laidByText := true, laidKinds := [.data], laidTests := true, laidLooks := .later }
def SimplexNumbersMatchUptoCardSaid : Prop := Claim7.holds Tryd.pinned (.plain (OpenSpec.upto simplexNumbersMatchSpec)) simplexNumbersMatchUptoCard

/-- THE SECOND FORM's CARD OF 'toruslaw07.SimplexSortsMatch'. -/
def simplexSortsMatchUptoCard : Claim7 := { stood := { row := simplexSortsMatchUptoRow, standIns := [], harness := (true, "d945c3cb7479b9187ab8ce166429699eca8fd2609311fbf4ac610a563337d304"), looks := false }, kinds := [], alts := [], laidByText := true, laidKinds := [.data], laidTests := true, laidLooks := .later }
def SimplexSortsMatchUptoCardSaid : Prop := Claim7.holds Tryd.pinned (.plain (OpenSpec.upto simplexSortsMatchSpec)) simplexSortsMatchUptoCard

/-- THE SECOND FORM's CARD OF 'toruslaw07.SimplexOrder'. -/
def simplexOrderUptoCard : Claim7 := { stood := { row := simplexOrderUptoRow, standIns := [], harness := (true, "d945c3cb7479b9187ab8ce166429699eca8fd2609311fbf4ac610a563337d304"), looks := false }, kinds := [], alts := [], laidByText := true, laidKinds := [.data], laidTests := true, laidLooks := .later }
def SimplexOrderUptoCardSaid : Prop := Claim7.holds Tryd.pinned (.plain (OpenSpec.upto simplexOrderSpec)) simplexOrderUptoCard

/-- THE SECOND FORM's CARD OF 'toruslaw07.SimplexNumbers'. -/
def simplexNumbersUptoCard : Claim7 := { stood := { row := simplexNumbersUptoRow, standIns := [], harness := (true, "d945c3cb7479b9187ab8ce166429699eca8fd2609311fbf4ac610a563337d304"), looks := false }, kinds := [], alts := [], laidByText := true, laidKinds := [.data], laidTests := true, laidLooks := .later }
def SimplexNumbersUptoCardSaid : Prop := Claim7.holds Tryd.pinned (.plain (OpenSpec.upto simplexNumbersSpec)) simplexNumbersUptoCard

/-- THE SECOND FORM's CARD OF 'toruslaw07.SimplexSigns'. -/
def simplexSignsUptoCard : Claim7 := { stood := { row := simplexSignsUptoRow, standIns := [], harness := (true, "d945c3cb7479b9187ab8ce166429699eca8fd2609311fbf4ac610a563337d304"), looks := false }, kinds := [], alts := [], laidByText := true, laidKinds := [.data], laidTests := true, laidLooks := .later }
def SimplexSignsUptoCardSaid : Prop := Claim7.holds Tryd.pinned (.plain (OpenSpec.upto simplexSignsSpec)) simplexSignsUptoCard

/-- THE SECOND FORM's CARD OF 'toruslaw07.SimplexMatches'. -/
def simplexMatchesUptoCard : Claim7 := { stood := { row := simplexMatchesUptoRow, standIns := [], harness := (true, "d945c3cb7479b9187ab8ce166429699eca8fd2609311fbf4ac610a563337d304"), looks := false }, kinds := [], alts := [], laidByText := true, laidKinds := [.data], laidTests := true, laidLooks := .later }
def SimplexMatchesUptoCardSaid : Prop := Claim7.holds Tryd.pinned (.plain (OpenSpec.upto simplexMatchesSpec)) simplexMatchesUptoCard

/-- THE SECOND FORM's CARD OF 'toruslaw07.SimplexFacesMatch'. -/
def simplexFacesMatchUptoCard : Claim7 := { stood := { row := simplexFacesMatchUptoRow, standIns := [], harness := (true, "d945c3cb7479b9187ab8ce166429699eca8fd2609311fbf4ac610a563337d304"), looks := false }, kinds := [], alts := [], laidByText := true, laidKinds := [.data], laidTests := true, laidLooks := .later }
def SimplexFacesMatchUptoCardSaid : Prop := Claim7.holds Tryd.pinned (.plain (OpenSpec.upto simplexFacesMatchSpec)) simplexFacesMatchUptoCard

/-- THE SECOND FORM's CARD OF 'toruslaw07.SimplexExamples'. -/
def simplexExamplesUptoCard : Claim7 := { stood := { row := simplexExamplesUptoRow, standIns := [], harness := (true, "d945c3cb7479b9187ab8ce166429699eca8fd2609311fbf4ac610a563337d304"), looks := false }, kinds := [], alts := [], laidByText := true, laidKinds := [.data], laidTests := true, laidLooks := .later }
def SimplexExamplesUptoCardSaid : Prop := Claim7.holds Tryd.pinned (.plain (OpenSpec.upto simplexExamplesSpec)) simplexExamplesUptoCard

/-- THE SECOND FORM's CARD OF 'toruslaw07.SimplexFacets'. -/
def simplexFacetsUptoCard : Claim7 := { stood := { row := simplexFacetsUptoRow, standIns := [], harness := (true, "d945c3cb7479b9187ab8ce166429699eca8fd2609311fbf4ac610a563337d304"), looks := false }, kinds := [], alts := [], laidByText := true, laidKinds := [.data], laidTests := true, laidLooks := .later }
def SimplexFacetsUptoCardSaid : Prop := Claim7.holds Tryd.pinned (.plain (OpenSpec.upto simplexFacetsSpec)) simplexFacetsUptoCard
end Rows
end Go.Proofs.YticckanjfdcpaaaDoor
