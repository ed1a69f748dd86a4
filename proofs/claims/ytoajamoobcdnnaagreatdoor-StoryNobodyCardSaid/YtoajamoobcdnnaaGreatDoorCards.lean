/-
  DERIVED. GIVEN WITH THE SEED: THE CARDS: each row of YtoajamoobcdnnaaGreatDoorRows.lean that lists a variable, with what it lists TIED to the program's text (the seventh form; the later family's looks); each row that meets fmt, with fmt's text TOLD by the authors' own Lean function (tested against real Go, not proved from fmt's source: count such statements apart). THE CARD IS WHAT COUNTS. Prove the row's statement (the work); the ties are given (YtoajamoobcdnnaaGreatDoorTie.lean); close each card by the builder's one call (the guide's Derived/Test/ToyasCard.lean, 'card_holds'). Laid BY PROGRAM, IN A SANDBOX (cutbox-door.mjs). By AI agents, Wed Nov 11 2026. No macro, syntax, notation, axiom, sorry.
-/
import Derived.Test.YtoajamoobcdnnaaGreatDoorRows
import GoSem.ClaimSeven
namespace Go.Proofs.YtoajamoobcdnnaaGreatDoor
namespace Rows

/-- THE TIED CARD OF 'percolatelaw57.StoryNobody'. -/
def storyNobodyCard : Claim7 := { stood := { row := storyNobodyRow, standIns := [], harness := (true, "26363febc5b984daca63fbe73b424d96da9861d366d2c77d65304ef768b84eb0"), looks := true }, kinds := [], alts := [], laidByText := true, laidKinds := [.data, .data, .data], laidTests := true, laidLooks := .later }
def StoryNobodyCardSaid : Prop := Claim7.holds Tryz.pinned (.plain (OpenSpec.ofChange storyNobodySpec)) storyNobodyCard

/-- THE SECOND FORM's CARD OF 'percolatelaw57.StoryNobody'. -/
def storyNobodyUptoCard : Claim7 := { stood := { row := storyNobodyUptoRow, standIns := [], harness := (true, "26363febc5b984daca63fbe73b424d96da9861d366d2c77d65304ef768b84eb0"), looks := true }, kinds := [], alts := [], laidByText := true, laidKinds := [.data, .data, .data], laidTests := true, laidLooks := .later }
def StoryNobodyUptoCardSaid : Prop := Claim7.holds Tryz.pinned (.plain (OpenSpec.upto storyNobodySpec)) storyNobodyUptoCard
end Rows
end Go.Proofs.YtoajamoobcdnnaaGreatDoor
