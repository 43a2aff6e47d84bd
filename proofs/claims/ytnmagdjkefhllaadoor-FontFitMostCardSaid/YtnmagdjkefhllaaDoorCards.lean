/-
  DERIVED. GIVEN WITH THE SEED: THE CARDS: each row of YtnmagdjkefhllaaDoorRows.lean that lists a variable, with what it lists TIED to the program's text (the seventh form; the later family's looks); each row that meets fmt, with fmt's text TOLD by the authors' own Lean function (tested against real Go, not proved from fmt's source: count such statements apart). THE CARD IS WHAT COUNTS. Prove the row's statement (the work); the ties are given (YtnmagdjkefhllaaDoorTie.lean); close each card by the builder's one call (the guide's Derived/Test/ToyasCard.lean, 'card_holds'). Laid BY PROGRAM, IN A SANDBOX (cutbox-door.mjs). By AI agents, Wed Nov 11 2026. No macro, syntax, notation, axiom, sorry.
-/
import Derived.Test.YtnmagdjkefhllaaDoorRows
import GoSem.ClaimSeven
namespace Go.Proofs.YtnmagdjkefhllaaDoor
namespace Rows

/-- THE TIED CARD OF 'clerestorykeep3.FontJoined'. -/
def fontJoinedCard : Claim7 := { stood := { row := fontJoinedRow, standIns := [], harness := (true, "c1612f71189b6aa4e3d05f1cfcf97c97dc78806c6f7fee4e926f8fba217614d9"), looks := false }, kinds := [], alts := [], laidByText := true, laidKinds := [.data, .pinned], laidTests := true, laidLooks := .later }
def FontJoinedCardSaid : Prop := Claim7.holds Tryd.pinned (.plain (OpenSpec.ofChange fontJoinedSpec)) fontJoinedCard

/-- THE TIED CARD OF 'clerestorykeep3.FontFitMost'. -/
def fontFitMostCard : Claim7 := { stood := { row := fontFitMostRow, standIns := [], harness := (true, "c1612f71189b6aa4e3d05f1cfcf97c97dc78806c6f7fee4e926f8fba217614d9"), looks := false }, kinds := [], alts := [], laidByText := true, laidKinds := [.data, .pinned], laidTests := true, laidLooks := .later }
def FontFitMostCardSaid : Prop := Claim7.holds Tryd.pinned (.plain (OpenSpec.ofChange fontFitMostSpec)) fontFitMostCard

/-- THE SECOND FORM's CARD OF 'clerestorykeep3.FontJoined'. -/
def fontJoinedUptoCard : Claim7 := { stood := { row := fontJoinedUptoRow, standIns := [], harness := (true, "c1612f71189b6aa4e3d05f1cfcf97c97dc78806c6f7fee4e926f8fba217614d9"), looks := false }, kinds := [], alts := [], laidByText := true, laidKinds := [.data, .pinned], laidTests := true, laidLooks := .later }
def FontJoinedUptoCardSaid : Prop := Claim7.holds Tryd.pinned (.plain (OpenSpec.upto fontJoinedSpec)) fontJoinedUptoCard

/-- THE SECOND FORM's CARD OF 'clerestorykeep3.FontFitMost'. -/
def fontFitMostUptoCard : Claim7 := { stood := { row := fontFitMostUptoRow, standIns := [], harness := (true, "c1612f71189b6aa4e3d05f1cfcf97c97dc78806c6f7fee4e926f8fba217614d9"), looks := false }, kinds := [], alts := [], laidByText := true, laidKinds := [.data, .pinned], laidTests := true, laidLooks := .later }
def FontFitMostUptoCardSaid : Prop := Claim7.holds Tryd.pinned (.plain (OpenSpec.upto fontFitMostSpec)) fontFitMostUptoCard
end Rows
end Go.Proofs.YtnmagdjkefhllaaDoor
