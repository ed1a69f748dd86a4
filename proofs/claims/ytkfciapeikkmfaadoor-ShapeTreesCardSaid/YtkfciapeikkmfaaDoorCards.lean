/-
  DERIVED. GIVEN WITH THE SEED: THE CARDS: each row of YtkfciapeikkmfaaDoorRows.lean that lists a variable, with what it lists TIED to the program's text (the seventh form; the later family's looks); each row that meets fmt, with fmt's text TOLD by the authors' own Lean function (tested against real Go, not proved from fmt's source: count such statements apart). THE CARD IS WHAT COUNTS. Prove the row's statement (the work); the ties are given (YtkfciapeikkmfaaDoorTie.lean); close each card by the builder's one call (the guide's Derived/Test/ToyasCard.lean, 'card_holds'). Laid BY PROGRAM, IN A SANDBOX (cutbox-door.mjs). By AI agents, Wed Nov 11 2026. No macro, syntax, notation, axiom, sorry.
-/
import Derived.Test.YtkfciapeikkmfaaDoorRows
import GoSem.ClaimSeven
namespace Go.Proofs.YtkfciapeikkmfaaDoor
namespace Rows

/-- THE TIED CARD OF 'percolatelaw58.ShapeLines'. -/
def shapeLinesCard : Claim7 := { stood := { row := shapeLinesRow, standIns := [], harness := (true, "65174b724838637a4395bffcbce5ba363d23968bee96d6c48148cbfbc31af104"), looks := false }, kinds := [], alts := [], laidByText := true, laidKinds := [.data, .data, .data], laidTests := true, laidLooks := .later }
def ShapeLinesCardSaid : Prop := Claim7.holds Tryd.pinned (.plain (OpenSpec.ofChange shapeLinesSpec)) shapeLinesCard

/-- THE TIED CARD OF 'percolatelaw58.ShapeTrees'. -/
def shapeTreesCard : Claim7 := { stood := { row := shapeTreesRow, standIns := [], harness := (true, "65174b724838637a4395bffcbce5ba363d23968bee96d6c48148cbfbc31af104"), looks := false }, kinds := [], alts := [], laidByText := true, laidKinds := [.data, .data, .data], laidTests := true, laidLooks := .later }
def ShapeTreesCardSaid : Prop := Claim7.holds Tryd.pinned (.plain (OpenSpec.ofChange shapeTreesSpec)) shapeTreesCard

/-- THE SECOND FORM's CARD OF 'percolatelaw58.ShapeLines'. -/
def shapeLinesUptoCard : Claim7 := { stood := { row := shapeLinesUptoRow, standIns := [], harness := (true, "65174b724838637a4395bffcbce5ba363d23968bee96d6c48148cbfbc31af104"), looks := false }, kinds := [], alts := [], laidByText := true, laidKinds := [.data, .data, .data], laidTests := true, laidLooks := .later }
def ShapeLinesUptoCardSaid : Prop := Claim7.holds Tryd.pinned (.plain (OpenSpec.upto shapeLinesSpec)) shapeLinesUptoCard

/-- THE SECOND FORM's CARD OF 'percolatelaw58.ShapeTrees'. -/
def shapeTreesUptoCard : Claim7 := { stood := { row := shapeTreesUptoRow, standIns := [], harness := (true, "65174b724838637a4395bffcbce5ba363d23968bee96d6c48148cbfbc31af104"), looks := false }, kinds := [], alts := [], laidByText := true, laidKinds := [.data, .data, .data], laidTests := true, laidLooks := .later }
def ShapeTreesUptoCardSaid : Prop := Claim7.holds Tryd.pinned (.plain (OpenSpec.upto shapeTreesSpec)) shapeTreesUptoCard
end Rows
end Go.Proofs.YtkfciapeikkmfaaDoor
