/-
  'Rows.DeskNobodySaid' is proved: the law percolatelaw48.DeskNobody returns true at every input, and its arguments read as they did. No condition.
-/
import Derived.Test.YtoiiikkeponhfaaGreatDoorDp2
import Derived.Test.YtoiiikkeponhfaaGreatDoorDk1
import Derived.Test.YtoiiikkeponhfaaGreatDoorDk2
import Derived.Test.YtoiiikkeponhfaaGreatDoorDk3
import Derived.Test.YtoiiikkeponhfaaGreatDoorDk4
import Derived.SizedLaws
import Derived.Test.YtoiiikkeponhfaaGreatDoorCards
import Derived.Test.YtoiiikkeponhfaaGreatDoorTie
import Derived.Deep.DeepHandedRow
import Derived.LaidLaws
import Derived.Lay
import Derived.SevenTiedAt
namespace Go.Proofs.YtoiiikkeponhfaaGreatDoor.deskNobody
open Go.ChangeShapes Go.WideShapes Go.ChangeAt Go.RowKit
open Go.ChangeMaps (open_string shut_string)
set_option linter.unusedVariables false

theorem proved : Rows.DeskNobodyCardSaid :=
  Claim7.holds_tied_plain_at .later [] [.data, .data, .data, .data, .pinned] true (true, "1767da92144573b8247bc97dae76339758f33b29cee3dc76044c8f14cfe30781") true holds (fun _ h => by cases h) dk1 (fun _ h => by cases h) deskNobody_row_tie rfl ⟨rfl, rfl⟩ dk4 rfl
    (fun f fn hf hfn => by
      obtain rfl : f = 3 := Option.some.inj ((show Tryz.prog.funcNamed "percolate/percolatelaw48.DeskNobody" = some 3 by kernel_rfl).symm.trans hf) |>.symm
      obtain rfl : fn = Tryz.f3 := (Option.some.inj (Tryz.func3.symm.trans hfn)).symm
      exact ⟨dk2, fun j t ht => by
        rw [Tryz.params3] at ht
        have hm : t ∈ [9] := by simpa using Array.mem_of_getElem? ht
        have hall : ([9].all fun u => !Tryz.prog.wantsStandIn u) = true := by kernel_rfl
        exact (show Tryz.prog.wantsStandIn t = false by simpa using List.all_eq_true.1 hall t hm)⟩)
    dk3

end Go.Proofs.YtoiiikkeponhfaaGreatDoor.deskNobody
