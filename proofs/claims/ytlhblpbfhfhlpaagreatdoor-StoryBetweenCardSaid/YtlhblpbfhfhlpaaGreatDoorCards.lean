/-
  DERIVED. GIVEN WITH THE SEED: THE CARDS: each row of YtlhblpbfhfhlpaaGreatDoorRows.lean that lists a variable, with what it lists TIED to the program's text (the seventh form; the later family's looks); each row that meets fmt, with fmt's text TOLD by the authors' own Lean function (tested against real Go, not proved from fmt's source: count such statements apart). THE CARD IS WHAT COUNTS. Prove the row's statement (the work); the ties are given (YtlhblpbfhfhlpaaGreatDoorTie.lean); close each card by the builder's one call (the guide's Derived/Test/ToyasCard.lean, 'card_holds'). Laid BY PROGRAM, IN A SANDBOX (cutbox-door.mjs). By AI agents, Wed Nov 11 2026. No macro, syntax, notation, axiom, sorry.
-/
import Derived.Test.YtlhblpbfhfhlpaaGreatDoorRows
import GoSem.ClaimSeven
namespace Go.Proofs.YtlhblpbfhfhlpaaGreatDoor
namespace Rows

/-- THE TIED CARD OF 'percolatelaw57.StoryBetween'. -/
def storyBetweenCard : Claim7 := { stood := { row := storyBetweenRow, standIns := [], harness := (true, "18eae46f3d5a91fced3393d20f77105303984951bc4717ff6d2fb398bd874cdd"), looks := true }, kinds := [], alts := [], laidByText := true, laidKinds := [.data, .data, .data], laidTests := true, laidLooks := .later }
def StoryBetweenCardSaid : Prop := Claim7.holds Tryz.pinned (.plain (OpenSpec.ofChange storyBetweenSpec)) storyBetweenCard

/-- THE SECOND FORM's CARD OF 'percolatelaw57.StoryBetween'. -/
def storyBetweenUptoCard : Claim7 := { stood := { row := storyBetweenUptoRow, standIns := [], harness := (true, "18eae46f3d5a91fced3393d20f77105303984951bc4717ff6d2fb398bd874cdd"), looks := true }, kinds := [], alts := [], laidByText := true, laidKinds := [.data, .data, .data], laidTests := true, laidLooks := .later }
def StoryBetweenUptoCardSaid : Prop := Claim7.holds Tryz.pinned (.plain (OpenSpec.upto storyBetweenSpec)) storyBetweenUptoCard
end Rows
end Go.Proofs.YtlhblpbfhfhlpaaGreatDoor
