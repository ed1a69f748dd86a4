/-
  'Rows.StoryBetweenSaid' is proved: the law percolatelaw57.StoryBetween returns true at every input, and its arguments read as they did. No condition.
-/
import Derived.Test.YtlhblpbfhfhlpaaGreatDoorDp2
import Derived.Test.YtlhblpbfhfhlpaaGreatDoorDk1
import Derived.Test.YtlhblpbfhfhlpaaGreatDoorDk2
import Derived.Test.YtlhblpbfhfhlpaaGreatDoorDk3
import Derived.Test.YtlhblpbfhfhlpaaGreatDoorDk4
import Derived.SizedLaws
import Derived.Test.YtlhblpbfhfhlpaaGreatDoorCards
import Derived.Test.YtlhblpbfhfhlpaaGreatDoorTie
import Derived.Deep.DeepHandedRow
import Derived.LaidLaws
import Derived.Lay
import Derived.SevenTiedAt
namespace Go.Proofs.YtlhblpbfhfhlpaaGreatDoor.storyBetween
open Go.ChangeShapes Go.WideShapes Go.ChangeAt Go.RowKit
open Go.ChangeMaps (open_string shut_string)
set_option linter.unusedVariables false

theorem proved : Rows.StoryBetweenCardSaid :=
  Claim7.holds_tied_plain_at .later [] [.data, .data, .data] true (true, "18eae46f3d5a91fced3393d20f77105303984951bc4717ff6d2fb398bd874cdd") true holds (fun _ h => by cases h) dk1 (fun _ h => by cases h) storyBetween_row_tie rfl ⟨rfl, rfl⟩ dk4 rfl
    (fun f fn hf hfn => by
      obtain rfl : f = 3 := Option.some.inj ((show Tryz.prog.funcNamed "percolate/percolatelaw57.StoryBetween" = some 3 by kernel_rfl).symm.trans hf) |>.symm
      obtain rfl : fn = Tryz.f3 := (Option.some.inj (Tryz.func3.symm.trans hfn)).symm
      exact ⟨dk2, fun j t ht => by
        rw [Tryz.params3] at ht
        have hm : t ∈ [26, 26] := by simpa using Array.mem_of_getElem? ht
        have hall : ([26, 26].all fun u => !Tryz.prog.wantsStandIn u) = true := by kernel_rfl
        exact (show Tryz.prog.wantsStandIn t = false by simpa using List.all_eq_true.1 hall t hm)⟩)
    dk3

end Go.Proofs.YtlhblpbfhfhlpaaGreatDoor.storyBetween
