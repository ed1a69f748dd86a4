/-
  DeskNobody: the law run by the machine with a heap.
-/
import Derived.Test.YtoiiikkeponhfaaGreatDoorHpS
import Derived.Test.YtoiiikkeponhfaaGreatDoorHpT
import Derived.Test.YtoiiikkeponhfaaGreatDoorHpU
import Derived.Test.YtoiiikkeponhfaaGreatDoorHpO
namespace Go.Proofs.YtoiiikkeponhfaaGreatDoor
open Go.RowKit
namespace Hm
def deskX : CallF := orX (indexX 59) (orX (countX 108) (orX (byteX 168) (orX (cckX 44 58) (joinX 116))))
theorem deskX_sound : XSound Tryz.prog deskX := orX_sound indexX_sound (orX_sound countX_sound (orX_sound byteX_sound (orX_sound cckX_sound joinX_sound)))
theorem mixed : Tryz.prog.follows .mixedOrders = true := by kernel_rfl
theorem awake_runs : okX (callX Tryz.prog deskX 100000 4 [] H0) = true := by kernel_rfl
end Hm
end Go.Proofs.YtoiiikkeponhfaaGreatDoor
