/-
  'Rows.StoryBetweenSaid' is proved: the law percolatelaw57.StoryBetween returns true at every input, and its arguments read as they did. No condition.
-/
import Derived.SizedLaws
import Derived.Test.YtlhblpbfhfhlpaaGreatDoorCards
import Derived.Test.YtlhblpbfhfhlpaaGreatDoorTie
import Derived.Deep.DeepHandedRow
import Derived.LaidLaws
import Derived.Lay
import Derived.SevenTiedAt
namespace Go.Proofs.YtlhblpbfhfhlpaaGreatDoor.storyBetween
set_option linter.unusedVariables false

theorem dk2 : true = Tryz.prog.looks [] := by kernel_rfl
end Go.Proofs.YtlhblpbfhfhlpaaGreatDoor.storyBetween
