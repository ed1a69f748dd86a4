/-
  DERIVED. GIVEN WITH THE SEED: THE CARDS: each row of YtgpoglaojklfbaaDoorRows.lean that lists a variable, with what it lists TIED to the program's text (the seventh form; the later family's looks); each row that meets fmt, with fmt's text TOLD by the authors' own Lean function (tested against real Go, not proved from fmt's source: count such statements apart). THE CARD IS WHAT COUNTS. Prove the row's statement (the work); the ties are given (YtgpoglaojklfbaaDoorTie.lean); close each card by the builder's one call (the guide's Derived/Test/ToyasCard.lean, 'card_holds'). Laid BY PROGRAM, IN A SANDBOX (cutbox-door.mjs). By AI agents, Wed Nov 11 2026. No macro, syntax, notation, axiom, sorry.
-/
import Derived.Test.YtgpoglaojklfbaaDoorRows
import GoSem.ClaimSeven
namespace Go.Proofs.YtgpoglaojklfbaaDoor
namespace Rows

/-- THE TIED CARD OF 'percolatelaw06.PackQuotes'. -/
def packQuotesCard : Claim7 := { stood := { row := packQuotesRow, standIns := [], harness := (true, "2188ca33330bf7e475577d364f43d3d35a809bee8795d61a70540e6620d35835"), looks := false }, kinds := [], alts := [], laidByText := true, laidKinds := [.data, .pinned], laidTests := true, laidLooks := .later }
def PackQuotesCardSaid : Prop := Claim7.holds Tryd.pinned (.plain (OpenSpec.ofChange packQuotesSpec)) packQuotesCard

/-- THE TIED CARD OF 'percolatelaw06.PackWords'. -/
def packWordsCard : Claim7 := { stood := { row := packWordsRow, standIns := [], harness := (true, "2188ca33330bf7e475577d364f43d3d35a809bee8795d61a70540e6620d35835"), looks := false }, kinds := [], alts := [], laidByText := true, laidKinds := [.data, .pinned], laidTests := true, laidLooks := .later }
def PackWordsCardSaid : Prop := Claim7.holds Tryd.pinned (.plain (OpenSpec.ofChange packWordsSpec)) packWordsCard

/-- THE TIED CARD OF 'percolatelaw06.PackTexts'. -/
def packTextsCard : Claim7 := { stood := { row := packTextsRow, standIns := [], harness := (true, "2188ca33330bf7e475577d364f43d3d35a809bee8795d61a70540e6620d35835"), looks := false }, kinds := [], alts := [], laidByText := true, laidKinds := [.data, .pinned], laidTests := true, laidLooks := .later }
def PackTextsCardSaid : Prop := Claim7.holds Tryd.pinned (.plain (OpenSpec.ofChange packTextsSpec)) packTextsCard

/-- THE TIED CARD OF 'percolatelaw07.OpBytes'. -/
def opBytesCard : Claim7 := { stood := { row := opBytesRow, standIns := [], harness := (true, "2188ca33330bf7e475577d364f43d3d35a809bee8795d61a70540e6620d35835"), looks := false }, kinds := [], alts := [], laidByText := true, laidKinds := [.data, .data, .data], laidTests := true, laidLooks := .later }
def OpBytesCardSaid : Prop := Claim7.holds Tryd.pinned (.plain (OpenSpec.ofChange opBytesSpec)) opBytesCard

/-- THE TIED CARD OF 'percolatelaw07.OpOf'. -/
def opOfCard : Claim7 := { stood := { row := opOfRow, standIns := [], harness := (true, "2188ca33330bf7e475577d364f43d3d35a809bee8795d61a70540e6620d35835"), looks := false }, kinds := [], alts := [], laidByText := true, laidKinds := [.data, .data, .data], laidTests := true, laidLooks := .later }
def OpOfCardSaid : Prop := Claim7.holds Tryd.pinned (.plain (OpenSpec.ofChange opOfSpec)) opOfCard

/-- THE TIED CARD OF 'percolatelaw06.PackNumbers'. -/
def packNumbersCard : Claim7 := { stood := { row := packNumbersRow, standIns := [], harness := (true, "2188ca33330bf7e475577d364f43d3d35a809bee8795d61a70540e6620d35835"), looks := false }, kinds := [], alts := [], laidByText := true, laidKinds := [.data, .data, .data, .data, .pinned], laidTests := true, laidLooks := .later }
def PackNumbersCardSaid : Prop := Claim7.holds Tryd.pinned (.plain (OpenSpec.ofChange packNumbersSpec)) packNumbersCard

/-- THE TIED CARD OF 'percolatelaw07.OpLines'. -/
def opLinesCard : Claim7 := { stood := { row := opLinesRow, standIns := [], harness := (true, "2188ca33330bf7e475577d364f43d3d35a809bee8795d61a70540e6620d35835"), looks := false }, kinds := [], alts := [], laidByText := true, laidKinds := [.data, .data, .data, .data, .pinned], laidTests := true, laidLooks := .later }
def OpLinesCardSaid : Prop := Claim7.holds Tryd.pinned (.plain (OpenSpec.ofChange opLinesSpec)) opLinesCard

/-- THE SECOND FORM's CARD OF 'percolatelaw06.PackQuotes'. -/
def packQuotesUptoCard : Claim7 := { stood := { row := packQuotesUptoRow, standIns := [], harness := (true, "2188ca33330bf7e475577d364f43d3d35a809bee8795d61a70540e6620d35835"), looks := false }, kinds := [], alts := [], laidByText := true, laidKinds := [.data, .pinned], laidTests := true, laidLooks := .later }
def PackQuotesUptoCardSaid : Prop := Claim7.holds Tryd.pinned (.plain (OpenSpec.upto packQuotesSpec)) packQuotesUptoCard

/-- THE SECOND FORM's CARD OF 'percolatelaw06.PackWords'. -/
def packWordsUptoCard : Claim7 := { stood := { row := packWordsUptoRow, standIns := [], harness := (true, "2188ca33330bf7e475577d364f43d3d35a809bee8795d61a70540e6620d35835"), looks := false }, kinds := [], alts := [], laidByText := true, laidKinds := [.data, .pinned], laidTests := true, laidLooks := .later }
def PackWordsUptoCardSaid : Prop := Claim7.holds Tryd.pinned (.plain (OpenSpec.upto packWordsSpec)) packWordsUptoCard

/-- THE SECOND FORM's CARD OF 'percolatelaw06.PackTexts'. -/
def packTextsUptoCard : Claim7 := { stood := { row := packTextsUptoRow, standIns := [], harness := (true, "2188ca33330bf7e475577d364f43d3d35a809bee8795d61a70540e6620d35835"), looks := false }, kinds := [], alts := [], laidByText := true, laidKinds := [.data, .pinned], laidTests := true, laidLooks := .later }
def PackTextsUptoCardSaid : Prop := Claim7.holds Tryd.pinned (.plain (OpenSpec.upto packTextsSpec)) packTextsUptoCard

/-- THE SECOND FORM's CARD OF 'percolatelaw07.OpBytes'. -/
def opBytesUptoCard : Claim7 := { stood := { row := opBytesUptoRow, standIns := [], harness := (true, "2188ca33330bf7e475577d364f43d3d35a809bee8795d61a70540e6620d35835"), looks := false }, kinds := [], alts := [], laidByText := true, laidKinds := [.data, .data, .data], laidTests := true, laidLooks := .later }
def OpBytesUptoCardSaid : Prop := Claim7.holds Tryd.pinned (.plain (OpenSpec.upto opBytesSpec)) opBytesUptoCard

/-- THE SECOND FORM's CARD OF 'percolatelaw07.OpOf'. -/
def opOfUptoCard : Claim7 := { stood := { row := opOfUptoRow, standIns := [], harness := (true, "2188ca33330bf7e475577d364f43d3d35a809bee8795d61a70540e6620d35835"), looks := false }, kinds := [], alts := [], laidByText := true, laidKinds := [.data, .data, .data], laidTests := true, laidLooks := .later }
def OpOfUptoCardSaid : Prop := Claim7.holds Tryd.pinned (.plain (OpenSpec.upto opOfSpec)) opOfUptoCard

/-- THE SECOND FORM's CARD OF 'percolatelaw06.PackNumbers'. -/
def packNumbersUptoCard : Claim7 := { stood := { row := packNumbersUptoRow, standIns := [], harness := (true, "2188ca33330bf7e475577d364f43d3d35a809bee8795d61a70540e6620d35835"), looks := false }, kinds := [], alts := [], laidByText := true, laidKinds := [.data, .data, .data, .data, .pinned], laidTests := true, laidLooks := .later }
def PackNumbersUptoCardSaid : Prop := Claim7.holds Tryd.pinned (.plain (OpenSpec.upto packNumbersSpec)) packNumbersUptoCard

/-- THE SECOND FORM's CARD OF 'percolatelaw07.OpLines'. -/
def opLinesUptoCard : Claim7 := { stood := { row := opLinesUptoRow, standIns := [], harness := (true, "2188ca33330bf7e475577d364f43d3d35a809bee8795d61a70540e6620d35835"), looks := false }, kinds := [], alts := [], laidByText := true, laidKinds := [.data, .data, .data, .data, .pinned], laidTests := true, laidLooks := .later }
def OpLinesUptoCardSaid : Prop := Claim7.holds Tryd.pinned (.plain (OpenSpec.upto opLinesSpec)) opLinesUptoCard
end Rows
end Go.Proofs.YtgpoglaojklfbaaDoor
