/-
  DERIVED. GIVEN WITH THE SEED: THE CARDS: each row of YthfdbjocpicbmaaDoorRows.lean that lists a variable, with what it lists TIED to the program's text (the seventh form; the later family's looks); each row that meets fmt, with fmt's text TOLD by the authors' own Lean function (tested against real Go, not proved from fmt's source: count such statements apart). THE CARD IS WHAT COUNTS. Prove the row's statement (the work); the ties are given (YthfdbjocpicbmaaDoorTie.lean); close each card by the builder's one call (the guide's Derived/Test/ToyasCard.lean, 'card_holds'). Laid BY PROGRAM, IN A SANDBOX (cutbox-door.mjs). By AI agents, Wed Nov 11 2026. No macro, syntax, notation, axiom, sorry.
-/
import Derived.Test.YthfdbjocpicbmaaDoorRows
import GoSem.ClaimSeven
namespace Go.Proofs.YthfdbjocpicbmaaDoor
namespace Rows

/-- THE TIED CARD OF 'percolatelaw50.GaugeFills'. -/
def gaugeFillsCard : Claim7 := { stood := { row := gaugeFillsRow, standIns := [], harness := (true, "567d2a5f6848e9ed1f9ea116f8d40affbfd8f0c329bf341947ef914d5dac31ea"), looks := false }, kinds := [], alts := [], laidByText := true, laidKinds := [.data, .data, .data], laidTests := true, laidLooks := .later }
def GaugeFillsCardSaid : Prop := Claim7.holds Tryd.pinned (.plain (OpenSpec.ofChange gaugeFillsSpec)) gaugeFillsCard

/-- THE TIED CARD OF 'percolatelaw50.GaugeOf'. -/
def gaugeOfCard : Claim7 := { stood := { row := gaugeOfRow, standIns := [], harness := (true, "567d2a5f6848e9ed1f9ea116f8d40affbfd8f0c329bf341947ef914d5dac31ea"), looks := false }, kinds := [], alts := [], laidByText := true, laidKinds := [.data, .data, .data], laidTests := true, laidLooks := .later }
def GaugeOfCardSaid : Prop := Claim7.holds Tryd.pinned (.plain (OpenSpec.ofChange gaugeOfSpec)) gaugeOfCard

/-- THE TIED CARD OF 'percolatelaw50.GaugeLines'. -/
def gaugeLinesCard : Claim7 := { stood := { row := gaugeLinesRow, standIns := [], harness := (true, "567d2a5f6848e9ed1f9ea116f8d40affbfd8f0c329bf341947ef914d5dac31ea"), looks := false }, kinds := [], alts := [], laidByText := true, laidKinds := [.data, .data, .data], laidTests := true, laidLooks := .later }
def GaugeLinesCardSaid : Prop := Claim7.holds Tryd.pinned (.plain (OpenSpec.ofChange gaugeLinesSpec)) gaugeLinesCard

/-- THE TIED CARD OF 'percolatelaw46.TraceEvents'. -/
def traceEventsCard : Claim7 := { stood := { row := traceEventsRow, standIns := [], harness := (true, "567d2a5f6848e9ed1f9ea116f8d40affbfd8f0c329bf341947ef914d5dac31ea"), looks := false }, kinds := [], alts := [], laidByText := true, laidKinds := [.data, .data, .data, .data, .pinned], laidTests := true, laidLooks := .later }
def TraceEventsCardSaid : Prop := Claim7.holds Tryd.pinned (.plain (OpenSpec.ofChange traceEventsSpec)) traceEventsCard

/-- THE TIED CARD OF 'percolatelaw58.ShapeLines'. -/
def shapeLinesCard : Claim7 := { stood := { row := shapeLinesRow, standIns := [], harness := (true, "567d2a5f6848e9ed1f9ea116f8d40affbfd8f0c329bf341947ef914d5dac31ea"), looks := false }, kinds := [], alts := [], laidByText := true, laidKinds := [.data, .data, .data], laidTests := true, laidLooks := .later }
def ShapeLinesCardSaid : Prop := Claim7.holds Tryd.pinned (.plain (OpenSpec.ofChange shapeLinesSpec)) shapeLinesCard

/-- THE TIED CARD OF 'percolatelaw58.ShapeTrees'. -/
def shapeTreesCard : Claim7 := { stood := { row := shapeTreesRow, standIns := [], harness := (true, "567d2a5f6848e9ed1f9ea116f8d40affbfd8f0c329bf341947ef914d5dac31ea"), looks := false }, kinds := [], alts := [], laidByText := true, laidKinds := [.data, .data, .data], laidTests := true, laidLooks := .later }
def ShapeTreesCardSaid : Prop := Claim7.holds Tryd.pinned (.plain (OpenSpec.ofChange shapeTreesSpec)) shapeTreesCard

/-- THE SECOND FORM's CARD OF 'percolatelaw50.GaugeFills'. -/
def gaugeFillsUptoCard : Claim7 := { stood := { row := gaugeFillsUptoRow, standIns := [], harness := (true, "567d2a5f6848e9ed1f9ea116f8d40affbfd8f0c329bf341947ef914d5dac31ea"), looks := false }, kinds := [], alts := [], laidByText := true, laidKinds := [.data, .data, .data], laidTests := true, laidLooks := .later }
def GaugeFillsUptoCardSaid : Prop := Claim7.holds Tryd.pinned (.plain (OpenSpec.upto gaugeFillsSpec)) gaugeFillsUptoCard

/-- THE SECOND FORM's CARD OF 'percolatelaw50.GaugeOf'. -/
def gaugeOfUptoCard : Claim7 := { stood := { row := gaugeOfUptoRow, standIns := [], harness := (true, "567d2a5f6848e9ed1f9ea116f8d40affbfd8f0c329bf341947ef914d5dac31ea"), looks := false }, kinds := [], alts := [], laidByText := true, laidKinds := [.data, .data, .data], laidTests := true, laidLooks := .later }
def GaugeOfUptoCardSaid : Prop := Claim7.holds Tryd.pinned (.plain (OpenSpec.upto gaugeOfSpec)) gaugeOfUptoCard

/-- THE SECOND FORM's CARD OF 'percolatelaw50.GaugeLines'. -/
def gaugeLinesUptoCard : Claim7 := { stood := { row := gaugeLinesUptoRow, standIns := [], harness := (true, "567d2a5f6848e9ed1f9ea116f8d40affbfd8f0c329bf341947ef914d5dac31ea"), looks := false }, kinds := [], alts := [], laidByText := true, laidKinds := [.data, .data, .data], laidTests := true, laidLooks := .later }
def GaugeLinesUptoCardSaid : Prop := Claim7.holds Tryd.pinned (.plain (OpenSpec.upto gaugeLinesSpec)) gaugeLinesUptoCard

/-- THE SECOND FORM's CARD OF 'percolatelaw46.TraceEvents'. -/
def traceEventsUptoCard : Claim7 := { stood := { row := traceEventsUptoRow, standIns := [], harness := (true, "567d2a5f6848e9ed1f9ea116f8d40affbfd8f0c329bf341947ef914d5dac31ea"), looks := false }, kinds := [], alts := [], laidByText := true, laidKinds := [.data, .data, .data, .data, .pinned], laidTests := true, laidLooks := .later }
def TraceEventsUptoCardSaid : Prop := Claim7.holds Tryd.pinned (.plain (OpenSpec.upto traceEventsSpec)) traceEventsUptoCard

/-- THE SECOND FORM's CARD OF 'percolatelaw58.ShapeLines'. -/
def shapeLinesUptoCard : Claim7 := { stood := { row := shapeLinesUptoRow, standIns := [], harness := (true, "567d2a5f6848e9ed1f9ea116f8d40affbfd8f0c329bf341947ef914d5dac31ea"), looks := false }, kinds := [], alts := [], laidByText := true, laidKinds := [.data, .data, .data], laidTests := true, laidLooks := .later }
def ShapeLinesUptoCardSaid : Prop := Claim7.holds Tryd.pinned (.plain (OpenSpec.upto shapeLinesSpec)) shapeLinesUptoCard

/-- THE SECOND FORM's CARD OF 'percolatelaw58.ShapeTrees'. -/
def shapeTreesUptoCard : Claim7 := { stood := { row := shapeTreesUptoRow, standIns := [], harness := (true, "567d2a5f6848e9ed1f9ea116f8d40affbfd8f0c329bf341947ef914d5dac31ea"), looks := false }, kinds := [], alts := [], laidByText := true, laidKinds := [.data, .data, .data], laidTests := true, laidLooks := .later }
def ShapeTreesUptoCardSaid : Prop := Claim7.holds Tryd.pinned (.plain (OpenSpec.upto shapeTreesSpec)) shapeTreesUptoCard
end Rows
end Go.Proofs.YthfdbjocpicbmaaDoor
