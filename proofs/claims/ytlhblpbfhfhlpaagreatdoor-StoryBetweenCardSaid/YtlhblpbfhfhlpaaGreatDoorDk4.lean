/-
  'Rows.StoryBetweenSaid' is proved: the law percolatelaw57.StoryBetween returns true at every input, and its arguments read as they did. No condition.
-/
import Derived.SizedLaws
import Derived.Test.YtlhblpbfhfhlpaaGreatDoorCards
import Derived.Test.YtlhblpbfhfhlpaaGreatDoorTie
import Derived.Deep.DeepHandedRow
import Derived.LaidLaws
import Derived.Lay
import Derived.SevenTiedAt
namespace Go.Proofs.YtlhblpbfhfhlpaaGreatDoor.storyBetween
set_option linter.unusedVariables false

theorem dk4 : Tryz.prog.mainIs = some ((true, "18eae46f3d5a91fced3393d20f77105303984951bc4717ff6d2fb398bd874cdd").1, (true, "18eae46f3d5a91fced3393d20f77105303984951bc4717ff6d2fb398bd874cdd").2.toList) := by kernel_rfl
end Go.Proofs.YtlhblpbfhfhlpaaGreatDoor.storyBetween
