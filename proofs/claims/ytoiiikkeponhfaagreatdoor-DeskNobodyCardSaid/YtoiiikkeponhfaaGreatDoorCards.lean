/-
  DERIVED. GIVEN WITH THE SEED: THE CARDS: each row of YtoiiikkeponhfaaGreatDoorRows.lean that lists a variable, with what it lists TIED to the program's text (the seventh form; the later family's looks); each row that meets fmt, with fmt's text TOLD by the authors' own Lean function (tested against real Go, not proved from fmt's source: count such statements apart). THE CARD IS WHAT COUNTS. Prove the row's statement (the work); the ties are given (YtoiiikkeponhfaaGreatDoorTie.lean); close each card by the builder's one call (the guide's Derived/Test/ToyasCard.lean, 'card_holds'). Laid BY PROGRAM, IN A SANDBOX (cutbox-door.mjs). By AI agents, Wed Nov 11 2026. No macro, syntax, notation, axiom, sorry.
-/
import Derived.Test.YtoiiikkeponhfaaGreatDoorRows
import GoSem.ClaimSeven
namespace Go.Proofs.YtoiiikkeponhfaaGreatDoor
namespace Rows

/-- THE TIED CARD OF 'percolatelaw48.DeskNobody'. -/
def deskNobodyCard : Claim7 := { stood := { row := deskNobodyRow, standIns := [], harness := (true, "1767da92144573b8247bc97dae76339758f33b29cee3dc76044c8f14cfe30781"), looks := true }, kinds := [], alts := [], laidByText := true, laidKinds := [.data, .data, .data, .data, .pinned], laidTests := true, laidLooks := .later }
def DeskNobodyCardSaid : Prop := Claim7.holds Tryz.pinned (.plain (OpenSpec.ofChange deskNobodySpec)) deskNobodyCard

/-- THE SECOND FORM's CARD OF 'percolatelaw48.DeskNobody'. -/
def deskNobodyUptoCard : Claim7 := { stood := { row := deskNobodyUptoRow, standIns := [], harness := (true, "1767da92144573b8247bc97dae76339758f33b29cee3dc76044c8f14cfe30781"), looks := true }, kinds := [], alts := [], laidByText := true, laidKinds := [.data, .data, .data, .data, .pinned], laidTests := true, laidLooks := .later }
def DeskNobodyUptoCardSaid : Prop := Claim7.holds Tryz.pinned (.plain (OpenSpec.upto deskNobodySpec)) deskNobodyUptoCard
end Rows
end Go.Proofs.YtoiiikkeponhfaaGreatDoor
