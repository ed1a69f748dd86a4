/-
  'Rows.StoryBetweenSaid' is proved: the law percolatelaw57.StoryBetween returns true at every input, and its arguments read as they did. No condition.
-/
import Derived.Test.YtlhblpbfhfhlpaaGreatDoorSB17
import Derived.Test.YtlhblpbfhfhlpaaGreatDoorJf0
import Derived.SizedLaws
import Derived.Test.YtlhblpbfhfhlpaaGreatDoorCards
import Derived.Test.YtlhblpbfhfhlpaaGreatDoorTie
import Derived.Deep.DeepHandedRow
import Derived.LaidLaws
import Derived.Lay
import Derived.SevenTiedAt
namespace Go.Proofs.YtlhblpbfhfhlpaaGreatDoor.storyBetween
open Go.ChangeShapes Go.WideShapes Go.ChangeAt Go.RowKit
open Go.ChangeMaps (open_string shut_string)
set_option linter.unusedVariables false

theorem holds : Rows.StoryBetweenSaid :=
  OpenClaim.holds_of_wide 3 Tryz.f3 rfl rfl rfl rfl rfl rfl rfl ⟨rfl, rfl, rfl, rfl, rfl⟩ rfl rfl rfl rfl rfl (by kernel_rfl) Tryz.func3 closed
    (of_decide_eq_true (by kernel_rfl)) (by unfold Func.isWrapper; first | (rw [if_pos (by decide +kernel)]; kernel_rfl) | (rw [if_neg (by decide +kernel)]; exact ⟨rfl, rfl⟩))
    (fun os started H enc _ => lifted os started H enc)

end Go.Proofs.YtlhblpbfhfhlpaaGreatDoor.storyBetween
