/-
  DERIVED. GIVEN WITH THE SEED: THE CARDS: each row of YtfmcgammhfdfnaaGreatDoorRows.lean that lists a variable, with what it lists TIED to the program's text (the seventh form; the later family's looks); each row that meets fmt, with fmt's text TOLD by the authors' own Lean function (tested against real Go, not proved from fmt's source: count such statements apart). THE CARD IS WHAT COUNTS. Prove the row's statement (the work); the ties are given (YtfmcgammhfdfnaaGreatDoorTie.lean); close each card by the builder's one call (the guide's Derived/Test/ToyasCard.lean, 'card_holds'). Laid BY PROGRAM, IN A SANDBOX (cutbox-door.mjs). By AI agents, Wed Nov 11 2026. No macro, syntax, notation, axiom, sorry.
-/
import Derived.Test.YtfmcgammhfdfnaaGreatDoorRows
import GoSem.ClaimSeven
namespace Go.Proofs.YtfmcgammhfdfnaaGreatDoor
namespace Rows

/-- THE TIED CARD OF 'toruslaw03.RatioTextMatches'. -/
def ratioTextMatchesCard : Claim7 := { stood := { row := ratioTextMatchesRow, standIns := [], harness := (true, "76156f9cedd58d2583bddadd091baf0a9cf36d1a7049d922b3f907676aaa7abe"), looks := false }, kinds := [], alts := [], laidByText := true, laidKinds := [.data, .pinned], laidTests := true, laidLooks := .later }
def RatioTextMatchesCardSaid : Prop := Claim7.holds Tryz.pinned (.plain (OpenSpec.ofChange ratioTextMatchesSpec)) ratioTextMatchesCard

/-- THE TIED CARD OF 'toruslaw03.RatioField'. -/
def ratioFieldCard : Claim7 := { stood := { row := ratioFieldRow, standIns := [], harness := (true, "76156f9cedd58d2583bddadd091baf0a9cf36d1a7049d922b3f907676aaa7abe"), looks := false }, kinds := [], alts := [], laidByText := true, laidKinds := [.data, .pinned], laidTests := true, laidLooks := .later }
def RatioFieldCardSaid : Prop := Claim7.holds Tryz.pinned (.plain (OpenSpec.ofChange ratioFieldSpec)) ratioFieldCard

/-- THE TIED CARD OF 'toruslaw03.RatioSimplestMatches'. -/
def ratioSimplestMatchesCard : Claim7 := { stood := { row := ratioSimplestMatchesRow, standIns := [], harness := (true, "76156f9cedd58d2583bddadd091baf0a9cf36d1a7049d922b3f907676aaa7abe"), looks := false }, kinds := [], alts := [], laidByText := true, laidKinds := [.data, .pinned], laidTests := true, laidLooks := .later }
def RatioSimplestMatchesCardSaid : Prop := Claim7.holds Tryz.pinned (.plain (OpenSpec.ofChange ratioSimplestMatchesSpec)) ratioSimplestMatchesCard

/-- THE TIED CARD OF 'toruslaw03.RatioOrder'. -/
def ratioOrderCard : Claim7 := { stood := { row := ratioOrderRow, standIns := [], harness := (true, "76156f9cedd58d2583bddadd091baf0a9cf36d1a7049d922b3f907676aaa7abe"), looks := false }, kinds := [], alts := [], laidByText := true, laidKinds := [.data, .pinned], laidTests := true, laidLooks := .later }
def RatioOrderCardSaid : Prop := Claim7.holds Tryz.pinned (.plain (OpenSpec.ofChange ratioOrderSpec)) ratioOrderCard

/-- THE TIED CARD OF 'toruslaw03.RatioExpansions'. -/
def ratioExpansionsCard : Claim7 := { stood := { row := ratioExpansionsRow, standIns := [], harness := (true, "76156f9cedd58d2583bddadd091baf0a9cf36d1a7049d922b3f907676aaa7abe"), looks := false }, kinds := [], alts := [], laidByText := true, laidKinds := [.data, .pinned], laidTests := true, laidLooks := .later }
def RatioExpansionsCardSaid : Prop := Claim7.holds Tryz.pinned (.plain (OpenSpec.ofChange ratioExpansionsSpec)) ratioExpansionsCard

/-- THE TIED CARD OF 'toruslaw03.RatioSimplest'. -/
def ratioSimplestCard : Claim7 := { stood := { row := ratioSimplestRow, standIns := [], harness := (true, "76156f9cedd58d2583bddadd091baf0a9cf36d1a7049d922b3f907676aaa7abe"), looks := false }, kinds := [], alts := [], laidByText := true, laidKinds := [.data, .pinned], laidTests := true, laidLooks := .later }
def RatioSimplestCardSaid : Prop := Claim7.holds Tryz.pinned (.plain (OpenSpec.ofChange ratioSimplestSpec)) ratioSimplestCard

/-- THE TIED CARD OF 'toruslaw03.RatioListsMatch'. -/
def ratioListsMatchCard : Claim7 := { stood := { row := ratioListsMatchRow, standIns := [], harness := (true, "76156f9cedd58d2583bddadd091baf0a9cf36d1a7049d922b3f907676aaa7abe"), looks := false }, kinds := [], alts := [], laidByText := true, laidKinds := [.data, .pinned], laidTests := true, laidLooks := .later }
def RatioListsMatchCardSaid : Prop := Claim7.holds Tryz.pinned (.plain (OpenSpec.ofChange ratioListsMatchSpec)) ratioListsMatchCard

/-- THE TIED CARD OF 'toruslaw03.RatioMatches'. -/
def ratioMatchesCard : Claim7 := { stood := { row := ratioMatchesRow, standIns := [], harness := (true, "76156f9cedd58d2583bddadd091baf0a9cf36d1a7049d922b3f907676aaa7abe"), looks := false }, kinds := [], alts := [], laidByText := true, laidKinds := [.data, .pinned], laidTests := true, laidLooks := .later }
def RatioMatchesCardSaid : Prop := Claim7.holds Tryz.pinned (.plain (OpenSpec.ofChange ratioMatchesSpec)) ratioMatchesCard

/-- THE TIED CARD OF 'toruslaw03.RatioText'. -/
def ratioTextCard : Claim7 := { stood := { row := ratioTextRow, standIns := [], harness := (true, "76156f9cedd58d2583bddadd091baf0a9cf36d1a7049d922b3f907676aaa7abe"), looks := false }, kinds := [], alts := [], laidByText := true, laidKinds := [.data, .pinned], laidTests := true, laidLooks := .later }
def RatioTextCardSaid : Prop := Claim7.holds Tryz.pinned (.plain (OpenSpec.ofChange ratioTextSpec)) ratioTextCard

/-- THE TIED CARD OF 'toruslaw03.RatioExamples'. -/
def ratioExamplesCard : Claim7 := { stood := { row := ratioExamplesRow, standIns := [], harness := (true, "76156f9cedd58d2583bddadd091baf0a9cf36d1a7049d922b3f907676aaa7abe"), looks := false }, kinds := [], alts := [], laidByText := true, laidKinds := [.data, .pinned], laidTests := true, laidLooks := .later }
def RatioExamplesCardSaid : Prop := Claim7.holds Tryz.pinned (.plain (OpenSpec.ofChange ratioExamplesSpec)) ratioExamplesCard

/-- THE SECOND FORM's CARD OF 'toruslaw03.RatioTextMatches'. -/
def ratioTextMatchesUptoCard : Claim7 := { stood := { row := ratioTextMatchesUptoRow, standIns := [], harness := (true, "76156f9cedd58d2583bddadd091baf0a9cf36d1a7049d922b3f907676aaa7abe"), looks := false }, kinds := [], alts := [], laidByText := true, laidKinds := [.data, .pinned], laidTests := true, laidLooks := .later }
def RatioTextMatchesUptoCardSaid : Prop := Claim7.holds Tryz.pinned (.plain (OpenSpec.upto ratioTextMatchesSpec)) ratioTextMatchesUptoCard

/-- THE SECOND FORM's CARD OF 'toruslaw03.RatioField'. -/
def ratioFieldUptoCard : Claim7 := { stood := { row := ratioFieldUptoRow, standIns := [], harness := (true, "76156f9cedd58d2583bddadd091baf0a9cf36d1a7049d922b3f907676aaa7abe"), looks := false }, kinds := [], alts := [], laidByText := true, laidKinds := [.data, .pinned], laidTests := true, laidLooks := .later }
def RatioFieldUptoCardSaid : Prop := Claim7.holds Tryz.pinned (.plain (OpenSpec.upto ratioFieldSpec)) ratioFieldUptoCard

/-- THE SECOND FORM's CARD OF 'toruslaw03.RatioSimplestMatches'. -/
def ratioSimplestMatchesUptoCard : Claim7 := { stood := { row := ratioSimplestMatchesUptoRow, standIns := [], harness := (true, "76156f9cedd58d2583bddadd091baf0a9cf36d1a7049d922b3f907676aaa7abe"), looks := false }, kinds := [], alts := [], laidByText := true, laidKinds := [.data, .pinned], laidTests := true, laidLooks := .later }
def RatioSimplestMatchesUptoCardSaid : Prop := Claim7.holds Tryz.pinned (.plain (OpenSpec.upto ratioSimplestMatchesSpec)) ratioSimplestMatchesUptoCard

/-- THE SECOND FORM's CARD OF 'toruslaw03.RatioOrder'. -/
def ratioOrderUptoCard : Claim7 := { stood := { row := ratioOrderUptoRow, standIns := [], harness := (true, "76156f9cedd58d2583bddadd091baf0a9cf36d1a7049d922b3f907676aaa7abe"), looks := false }, kinds := [], alts := [], laidByText := true, laidKinds := [.data, .pinned], laidTests := true, laidLooks := .later }
def RatioOrderUptoCardSaid : Prop := Claim7.holds Tryz.pinned (.plain (OpenSpec.upto ratioOrderSpec)) ratioOrderUptoCard

/-- THE SECOND FORM's CARD OF 'toruslaw03.RatioExpansions'. -/
def ratioExpansionsUptoCard : Claim7 := { stood := { row := ratioExpansionsUptoRow, standIns := [], harness := (true, "76156f9cedd58d2583bddadd091baf0a9cf36d1a7049d922b3f907676aaa7abe"), looks := false }, kinds := [], alts := [], laidByText := true, laidKinds := [.data, .pinned], laidTests := true, laidLooks := .later }
def RatioExpansionsUptoCardSaid : Prop := Claim7.holds Tryz.pinned (.plain (OpenSpec.upto ratioExpansionsSpec)) ratioExpansionsUptoCard

/-- THE SECOND FORM's CARD OF 'toruslaw03.RatioSimplest'. -/
def ratioSimplestUptoCard : Claim7 := { stood := { row := ratioSimplestUptoRow, standIns := [], harness := (true, "76156f9cedd58d2583bddadd091baf0a9cf36d1a7049d922b3f907676aaa7abe"), looks := false }, kinds := [], alts := [], laidByText := true, laidKinds := [.data, .pinned], laidTests := true, laidLooks := .later }
def RatioSimplestUptoCardSaid : Prop := Claim7.holds Tryz.pinned (.plain (OpenSpec.upto ratioSimplestSpec)) ratioSimplestUptoCard

/-- THE SECOND FORM's CARD OF 'toruslaw03.RatioListsMatch'. -/
def ratioListsMatchUptoCard : Claim7 := { stood := { row := ratioListsMatchUptoRow, standIns := [], harness := (true, "76156f9cedd58d2583bddadd091baf0a9cf36d1a7049d922b3f907676aaa7abe"), looks := false }, kinds := [], alts := [], laidByText := true, laidKinds := [.data, .pinned], laidTests := true, laidLooks := .later }
def RatioListsMatchUptoCardSaid : Prop := Claim7.holds Tryz.pinned (.plain (OpenSpec.upto ratioListsMatchSpec)) ratioListsMatchUptoCard

/-- THE SECOND FORM's CARD OF 'toruslaw03.RatioMatches'. -/
def ratioMatchesUptoCard : Claim7 := { stood := { row := ratioMatchesUptoRow, standIns := [], harness := (true, "76156f9cedd58d2583bddadd091baf0a9cf36d1a7049d922b3f907676aaa7abe"), looks := false }, kinds := [], alts := [], laidByText := true, laidKinds := [.data, .pinned], laidTests := true, laidLooks := .later }
def RatioMatchesUptoCardSaid : Prop := Claim7.holds Tryz.pinned (.plain (OpenSpec.upto ratioMatchesSpec)) ratioMatchesUptoCard

/-- THE SECOND FORM's CARD OF 'toruslaw03.RatioText'. -/
def ratioTextUptoCard : Claim7 := { stood := { row := ratioTextUptoRow, standIns := [], harness := (true, "76156f9cedd58d2583bddadd091baf0a9cf36d1a7049d922b3f907676aaa7abe"), looks := false }, kinds := [], alts := [], laidByText := true, laidKinds := [.data, .pinned], laidTests := true, laidLooks := .later }
def RatioTextUptoCardSaid : Prop := Claim7.holds Tryz.pinned (.plain (OpenSpec.upto ratioTextSpec)) ratioTextUptoCard

/-- THE SECOND FORM's CARD OF 'toruslaw03.RatioExamples'. -/
def ratioExamplesUptoCard : Claim7 := { stood := { row := ratioExamplesUptoRow, standIns := [], harness := (true, "76156f9cedd58d2583bddadd091baf0a9cf36d1a7049d922b3f907676aaa7abe"), looks := false }, kinds := [], alts := [], laidByText := true, laidKinds := [.data, .pinned], laidTests := true, laidLooks := .later }
def RatioExamplesUptoCardSaid : Prop := Claim7.holds Tryz.pinned (.plain (OpenSpec.upto ratioExamplesSpec)) ratioExamplesUptoCard
end Rows
end Go.Proofs.YtfmcgammhfdfnaaGreatDoor
