/-
  The row's closed facts together.
-/
import Derived.SizedLaws
import Derived.Test.YtoiiikkeponhfaaGreatDoorRows
import Derived.Test.YtoiiikkeponhfaaGreatDoorChecked
import Derived.JoinedOf
import Derived.Test.YtoiiikkeponhfaaGreatDoorJf1
import Derived.Test.YtoiiikkeponhfaaGreatDoorJf2
import Derived.Test.YtoiiikkeponhfaaGreatDoorJf3
import Derived.Test.YtoiiikkeponhfaaGreatDoorJf4
import Derived.Test.YtoiiikkeponhfaaGreatDoorJf5
import Derived.Test.YtoiiikkeponhfaaGreatDoorJf6
import Derived.Test.YtoiiikkeponhfaaGreatDoorJf7
import Derived.Test.YtoiiikkeponhfaaGreatDoorJf8
import Derived.Test.YtoiiikkeponhfaaGreatDoorJf9
import Derived.Test.YtoiiikkeponhfaaGreatDoorJf10
import Derived.Test.YtoiiikkeponhfaaGreatDoorJf11
import Derived.Test.YtoiiikkeponhfaaGreatDoorJf12
import Derived.Test.YtoiiikkeponhfaaGreatDoorJf13
namespace Go.Proofs.YtoiiikkeponhfaaGreatDoor.deskNobody
open Go.ChangeShapes Go.WideShapes
set_option linter.unusedVariables false
theorem band {a b : Bool} (h : a = true) (k : b = true) : (a && b) = true := by rw [h, k]; rfl
theorem closed : joinedFacts Tryz.prog 3 Tryz.f3 Rows.deskNobodySpec Rows.deskNobodyRow = true := by
  unfold joinedFacts
  refine band ?_ jf31
  refine band ?_ jf30
  refine band ?_ jf29
  refine band ?_ (by kernel_rfl)
  refine band ?_ jf27
  refine band ?_ jf26
  refine band ?_ jf25
  refine band ?_ jf24
  refine band ?_ jf23
  refine band ?_ jf22
  refine band ?_ jf21
  refine band ?_ jf20
  refine band ?_ jf19
  refine band ?_ jf18
  refine band ?_ jf17
  refine band ?_ jf16
  refine band ?_ jf15
  refine band ?_ jf14
  refine band ?_ jf13
  refine band ?_ jf12
  refine band ?_ jf11
  refine band ?_ jf10
  refine band ?_ jf9
  refine band ?_ jf8
  refine band ?_ jf7
  refine band ?_ jf6
  refine band ?_ jf5
  refine band ?_ jf4
  refine band ?_ jf3
  refine band ?_ jf2
  refine band ?_ jf1
  exact jf0
end Go.Proofs.YtoiiikkeponhfaaGreatDoor.deskNobody
