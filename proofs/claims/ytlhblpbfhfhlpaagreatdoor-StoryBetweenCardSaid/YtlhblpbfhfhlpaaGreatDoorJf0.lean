/-
  The row's closed facts together.
-/
import Derived.SizedLaws
import Derived.Test.YtlhblpbfhfhlpaaGreatDoorRows
import Derived.Test.YtlhblpbfhfhlpaaGreatDoorChecked
import Derived.JoinedOf
import Derived.Test.YtlhblpbfhfhlpaaGreatDoorJf1
import Derived.Test.YtlhblpbfhfhlpaaGreatDoorJf2
import Derived.Test.YtlhblpbfhfhlpaaGreatDoorJf3
import Derived.Test.YtlhblpbfhfhlpaaGreatDoorJf4
import Derived.Test.YtlhblpbfhfhlpaaGreatDoorJf5
import Derived.Test.YtlhblpbfhfhlpaaGreatDoorJf6
import Derived.Test.YtlhblpbfhfhlpaaGreatDoorJf7
import Derived.Test.YtlhblpbfhfhlpaaGreatDoorJf8
import Derived.Test.YtlhblpbfhfhlpaaGreatDoorJf9
import Derived.Test.YtlhblpbfhfhlpaaGreatDoorJf10
import Derived.Test.YtlhblpbfhfhlpaaGreatDoorJf11
import Derived.Test.YtlhblpbfhfhlpaaGreatDoorJf12
import Derived.Test.YtlhblpbfhfhlpaaGreatDoorJf13
namespace Go.Proofs.YtlhblpbfhfhlpaaGreatDoor.storyBetween
open Go.ChangeShapes Go.WideShapes
set_option linter.unusedVariables false
theorem band {a b : Bool} (h : a = true) (k : b = true) : (a && b) = true := by rw [h, k]; rfl
theorem closed : joinedFacts Tryz.prog 3 Tryz.f3 Rows.storyBetweenSpec Rows.storyBetweenRow = true := by
  unfold joinedFacts
  refine band ?_ jf31
  refine band ?_ jf30
  refine band ?_ jf29
  refine band ?_ (by kernel_rfl)
  refine band ?_ jf27
  refine band ?_ jf26
  refine band ?_ jf25
  refine band ?_ jf24
  refine band ?_ jf23
  refine band ?_ jf22
  refine band ?_ jf21
  refine band ?_ jf20
  refine band ?_ jf19
  refine band ?_ jf18
  refine band ?_ jf17
  refine band ?_ jf16
  refine band ?_ jf15
  refine band ?_ jf14
  refine band ?_ jf13
  refine band ?_ jf12
  refine band ?_ jf11
  refine band ?_ jf10
  refine band ?_ jf9
  refine band ?_ jf8
  refine band ?_ jf7
  refine band ?_ jf6
  refine band ?_ jf5
  refine band ?_ jf4
  refine band ?_ jf3
  refine band ?_ jf2
  refine band ?_ jf1
  exact jf0
end Go.Proofs.YtlhblpbfhfhlpaaGreatDoor.storyBetween
