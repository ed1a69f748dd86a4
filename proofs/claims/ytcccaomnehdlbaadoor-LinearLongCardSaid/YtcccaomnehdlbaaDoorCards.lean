/-
  DERIVED. GIVEN WITH THE SEED: THE CARDS: each row of YtcccaomnehdlbaaDoorRows.lean that lists a variable, with what it lists TIED to the program's text (the seventh form; the later family's looks); each row that meets fmt, with fmt's text TOLD by the authors' own Lean function (tested against real Go, not proved from fmt's source: count such statements apart). THE CARD IS WHAT COUNTS. Prove the row's statement (the work); the ties are given (YtcccaomnehdlbaaDoorTie.lean); close each card by the builder's one call (the guide's Derived/Test/ToyasCard.lean, 'card_holds'). Laid BY PROGRAM, IN A SANDBOX (cutbox-door.mjs). By AI agents, Wed Nov 11 2026. No macro, syntax, notation, axiom, sorry.
-/
import Derived.Test.YtcccaomnehdlbaaDoorRows
import GoSem.ClaimSeven
namespace Go.Proofs.YtcccaomnehdlbaaDoor
namespace Rows

/-- THE TIED CARD OF 'percolatelaw41.LinearLong'. -/
def linearLongCard : Claim7 := { stood := { row := linearLongRow, standIns := [], harness := (true, "7150cc7e5b12194f4fc99997a5735740ce370c9eec610819c4138e9c15bcfb9d"), looks := false }, kinds := [], alts := [], laidByText := true, laidKinds := [.data, .data, .data], laidTests := true, laidLooks := .later }
def LinearLongCardSaid : Prop := Claim7.holds Tryd.pinned (.plain (OpenSpec.ofChange linearLongSpec)) linearLongCard

/-- THE SECOND FORM's CARD OF 'percolatelaw41.LinearLong'. -/
def linearLongUptoCard : Claim7 := { stood := { row := linearLongUptoRow, standIns := [], harness := (true, "7150cc7e5b12194f4fc99997a5735740ce370c9eec610819c4138e9c15bcfb9d"), looks := false }, kinds := [], alts := [], laidByText := true, laidKinds := [.data, .data, .data], laidTests := true, laidLooks := .later }
def LinearLongUptoCardSaid : Prop := Claim7.holds Tryd.pinned (.plain (OpenSpec.upto linearLongSpec)) linearLongUptoCard
end Rows
end Go.Proofs.YtcccaomnehdlbaaDoor
