/-
  Closed facts of the row.
-/
import Derived.SizedLaws
import Derived.Test.YtlhblpbfhfhlpaaGreatDoorRows
import Derived.Test.YtlhblpbfhfhlpaaGreatDoorChecked
namespace Go.Proofs.YtlhblpbfhfhlpaaGreatDoor.storyBetween
open Go.ChangeShapes Go.WideShapes
set_option linter.unusedVariables false
theorem jf3 : Tryz.f3.params.all (Tryz.prog.readableRec ·) = true := by kernel_rfl
theorem jf4 : namedTie Tryz.prog Rows.storyBetweenRow.named Rows.storyBetweenSpec.vars = true := by kernel_rfl
theorem jf5 : (Rows.storyBetweenRow.stops == []) = true := by kernel_rfl
theorem jf6 : (Tryz.prog.stops == []) = true := by kernel_rfl
theorem jf7 : (Rows.storyBetweenRow.knobs == []) = true := by kernel_rfl
theorem jf8 : (Tryz.prog.stopKnobs == []) = true := by kernel_rfl
theorem jf13 : (Rows.storyBetweenRow.maps == (Tryz.f3.params.toList ++ Rows.storyBetweenSpec.plain.varTypes Tryz.prog).any (Tryz.prog.mapsRec ·)) = true := by kernel_rfl
theorem jf14 : (Rows.storyBetweenRow.ifaces == (Tryz.f3.params.toList ++ Rows.storyBetweenSpec.plain.varTypes Tryz.prog).any (Tryz.prog.ifacesRec ·)) = true := by kernel_rfl
theorem jf15 : (Rows.storyBetweenRow.mapsOut == Tryz.prog.mapsAmong Tryz.f3.resultTypes.toList) = true := by kernel_rfl
theorem jf16 : (Rows.storyBetweenRow.loops == (Tryz.f3.params.toList ++ Rows.storyBetweenSpec.plain.varTypes Tryz.prog).any (Tryz.prog.loopsFrom ·)) = true := by kernel_rfl
theorem jf17 : (Rows.storyBetweenRow.wideKeys == (Tryz.f3.params.toList ++ Rows.storyBetweenSpec.plain.varTypes Tryz.prog ++ Tryz.f3.resultTypes.toList).any (Tryz.prog.wideKeysFrom ·)) = true := by kernel_rfl
theorem jf18 : Rows.storyBetweenSpec.vars.all (Tryz.prog.varReadable ·) = true := by kernel_rfl
theorem jf19 : Tryz.f3.resultTypes.all (fun t => Tryz.prog.readableRec t && decide (t < Tryz.prog.types.size)) = true := by kernel_rfl
theorem jf20 : (Rows.storyBetweenRow.ifacesOut == Tryz.f3.resultTypes.toList.any (Tryz.prog.ifacesRec ·)) = true := by kernel_rfl
theorem jf21 : (Rows.storyBetweenRow.loopsOut == Tryz.f3.resultTypes.toList.any (Tryz.prog.loopsFrom ·)) = true := by kernel_rfl
theorem jf23 : Rows.storyBetweenRow.shortTexts.isNone = true := by kernel_rfl
theorem jf27 : (Tryz.prog.make == some Rows.storyBetweenRow.make) = true := by kernel_rfl
theorem jf29 : (Rows.storyBetweenRow.pinned == Rows.storyBetweenRow.pinnedBy) = true := by kernel_rfl
theorem jf30 : (Rows.storyBetweenRow.veiled == (Tryz.f3.params.toList ++ Rows.storyBetweenSpec.plain.varTypes Tryz.prog ++ Tryz.f3.resultTypes.toList).any (Tryz.prog.veiledRec ·)) = true := by kernel_rfl
theorem jf31 : Rows.storyBetweenRow.veiledFits Tryz.prog Tryz.f3.params.toList (Tryz.f3.params.toList ++ Rows.storyBetweenSpec.plain.varTypes Tryz.prog ++ Tryz.f3.resultTypes.toList) = true := by kernel_rfl
end Go.Proofs.YtlhblpbfhfhlpaaGreatDoor.storyBetween
