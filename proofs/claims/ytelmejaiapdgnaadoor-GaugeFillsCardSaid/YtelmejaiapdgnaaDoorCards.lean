/-
  DERIVED. GIVEN WITH THE SEED: THE CARDS: each row of YtelmejaiapdgnaaDoorRows.lean that lists a variable, with what it lists TIED to the program's text (the seventh form; the later family's looks); each row that meets fmt, with fmt's text TOLD by the authors' own Lean function (tested against real Go, not proved from fmt's source: count such statements apart). THE CARD IS WHAT COUNTS. Prove the row's statement (the work); the ties are given (YtelmejaiapdgnaaDoorTie.lean); close each card by the builder's one call (the guide's Derived/Test/ToyasCard.lean, 'card_holds'). Laid BY PROGRAM, IN A SANDBOX (cutbox-door.mjs). By AI agents, Wed Nov 11 2026. No macro, syntax, notation, axiom, sorry.
-/
import Derived.Test.YtelmejaiapdgnaaDoorRows
import GoSem.ClaimSeven
namespace Go.Proofs.YtelmejaiapdgnaaDoor
namespace Rows

/-- THE TIED CARD OF 'percolatelaw50.GaugeFills'. -/
def gaugeFillsCard : Claim7 := { stood := { row := gaugeFillsRow, standIns := [], harness := (true, "e990057c32c98bc34feb26bc7100bbde4d8815cb900e9cea29065f5ffcb988c9"), looks := false }, kinds := [], alts := [], laidByText := true, laidKinds := [.data, .data, .data], laidTests := true, laidLooks := .later }
def GaugeFillsCardSaid : Prop := Claim7.holds Tryd.pinned (.plain (OpenSpec.ofChange gaugeFillsSpec)) gaugeFillsCard

/-- THE TIED CARD OF 'percolatelaw50.GaugeOf'. -/
def gaugeOfCard : Claim7 := { stood := { row := gaugeOfRow, standIns := [], harness := (true, "e990057c32c98bc34feb26bc7100bbde4d8815cb900e9cea29065f5ffcb988c9"), looks := false }, kinds := [], alts := [], laidByText := true, laidKinds := [.data, .data, .data], laidTests := true, laidLooks := .later }
def GaugeOfCardSaid : Prop := Claim7.holds Tryd.pinned (.plain (OpenSpec.ofChange gaugeOfSpec)) gaugeOfCard

/-- THE TIED CARD OF 'percolatelaw50.GaugeLines'. -/
def gaugeLinesCard : Claim7 := { stood := { row := gaugeLinesRow, standIns := [], harness := (true, "e990057c32c98bc34feb26bc7100bbde4d8815cb900e9cea29065f5ffcb988c9"), looks := false }, kinds := [], alts := [], laidByText := true, laidKinds := [.data, .data, .data], laidTests := true, laidLooks := .later }
def GaugeLinesCardSaid : Prop := Claim7.holds Tryd.pinned (.plain (OpenSpec.ofChange gaugeLinesSpec)) gaugeLinesCard

/-- THE SECOND FORM's CARD OF 'percolatelaw50.GaugeFills'. -/
def gaugeFillsUptoCard : Claim7 := { stood := { row := gaugeFillsUptoRow, standIns := [], harness := (true, "e990057c32c98bc34feb26bc7100bbde4d8815cb900e9cea29065f5ffcb988c9"), looks := false }, kinds := [], alts := [], laidByText := true, laidKinds := [.data, .data, .data], laidTests := true, laidLooks := .later }
def GaugeFillsUptoCardSaid : Prop := Claim7.holds Tryd.pinned (.plain (OpenSpec.upto gaugeFillsSpec)) gaugeFillsUptoCard

/-- THE SECOND FORM's CARD OF 'percolatelaw50.GaugeOf'. -/
def gaugeOfUptoCard : Claim7 := { stood := { row := gaugeOfUptoRow, standIns := [], harness := (true, "e990057c32c98bc34feb26bc7100bbde4d8815cb900e9cea29065f5ffcb988c9"), looks := false }, kinds := [], alts := [], laidByText := true, laidKinds := [.data, .data, .data], laidTests := true, laidLooks := .later }
def GaugeOfUptoCardSaid : Prop := Claim7.holds Tryd.pinned (.plain (OpenSpec.upto gaugeOfSpec)) gaugeOfUptoCard

/-- THE SECOND FORM's CARD OF 'percolatelaw50.GaugeLines'. -/
def gaugeLinesUptoCard : Claim7 := { stood := { row := gaugeLinesUptoRow, standIns := [], harness := (true, "e990057c32c98bc34feb26bc7100bbde4d8815cb900e9cea29065f5ffcb988c9"), looks := false }, kinds := [], alts := [], laidByText := true, laidKinds := [.data, .data, .data], laidTests := true, laidLooks := .later }
def GaugeLinesUptoCardSaid : Prop := Claim7.holds Tryd.pinned (.plain (OpenSpec.upto gaugeLinesSpec)) gaugeLinesUptoCard
end Rows
end Go.Proofs.YtelmejaiapdgnaaDoor
