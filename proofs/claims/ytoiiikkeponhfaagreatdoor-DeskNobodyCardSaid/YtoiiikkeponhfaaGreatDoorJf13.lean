/-
  Closed facts of the row.
-/
import Derived.SizedLaws
import Derived.Test.YtoiiikkeponhfaaGreatDoorRows
import Derived.Test.YtoiiikkeponhfaaGreatDoorChecked
namespace Go.Proofs.YtoiiikkeponhfaaGreatDoor.deskNobody
open Go.ChangeShapes Go.WideShapes
set_option linter.unusedVariables false
theorem jf3 : Tryz.f3.params.all (Tryz.prog.readableRec ·) = true := by kernel_rfl
theorem jf4 : namedTie Tryz.prog Rows.deskNobodyRow.named Rows.deskNobodySpec.vars = true := by kernel_rfl
theorem jf5 : (Rows.deskNobodyRow.stops == []) = true := by kernel_rfl
theorem jf6 : (Tryz.prog.stops == []) = true := by kernel_rfl
theorem jf7 : (Rows.deskNobodyRow.knobs == []) = true := by kernel_rfl
theorem jf8 : (Tryz.prog.stopKnobs == []) = true := by kernel_rfl
theorem jf13 : (Rows.deskNobodyRow.maps == (Tryz.f3.params.toList ++ Rows.deskNobodySpec.plain.varTypes Tryz.prog).any (Tryz.prog.mapsRec ·)) = true := by kernel_rfl
theorem jf14 : (Rows.deskNobodyRow.ifaces == (Tryz.f3.params.toList ++ Rows.deskNobodySpec.plain.varTypes Tryz.prog).any (Tryz.prog.ifacesRec ·)) = true := by kernel_rfl
theorem jf15 : (Rows.deskNobodyRow.mapsOut == Tryz.prog.mapsAmong Tryz.f3.resultTypes.toList) = true := by kernel_rfl
theorem jf16 : (Rows.deskNobodyRow.loops == (Tryz.f3.params.toList ++ Rows.deskNobodySpec.plain.varTypes Tryz.prog).any (Tryz.prog.loopsFrom ·)) = true := by kernel_rfl
theorem jf17 : (Rows.deskNobodyRow.wideKeys == (Tryz.f3.params.toList ++ Rows.deskNobodySpec.plain.varTypes Tryz.prog ++ Tryz.f3.resultTypes.toList).any (Tryz.prog.wideKeysFrom ·)) = true := by kernel_rfl
theorem jf18 : Rows.deskNobodySpec.vars.all (Tryz.prog.varReadable ·) = true := by kernel_rfl
theorem jf19 : Tryz.f3.resultTypes.all (fun t => Tryz.prog.readableRec t && decide (t < Tryz.prog.types.size)) = true := by kernel_rfl
theorem jf20 : (Rows.deskNobodyRow.ifacesOut == Tryz.f3.resultTypes.toList.any (Tryz.prog.ifacesRec ·)) = true := by kernel_rfl
theorem jf21 : (Rows.deskNobodyRow.loopsOut == Tryz.f3.resultTypes.toList.any (Tryz.prog.loopsFrom ·)) = true := by kernel_rfl
theorem jf23 : Rows.deskNobodyRow.shortTexts.isNone = true := by kernel_rfl
theorem jf27 : (Tryz.prog.make == some Rows.deskNobodyRow.make) = true := by kernel_rfl
theorem jf29 : (Rows.deskNobodyRow.pinned == Rows.deskNobodyRow.pinnedBy) = true := by kernel_rfl
theorem jf30 : (Rows.deskNobodyRow.veiled == (Tryz.f3.params.toList ++ Rows.deskNobodySpec.plain.varTypes Tryz.prog ++ Tryz.f3.resultTypes.toList).any (Tryz.prog.veiledRec ·)) = true := by kernel_rfl
theorem jf31 : Rows.deskNobodyRow.veiledFits Tryz.prog Tryz.f3.params.toList (Tryz.f3.params.toList ++ Rows.deskNobodySpec.plain.varTypes Tryz.prog ++ Tryz.f3.resultTypes.toList) = true := by kernel_rfl
end Go.Proofs.YtoiiikkeponhfaaGreatDoor.deskNobody
