/-
  StoryNobody: the law run by the machine with a heap.
-/
import Derived.Test.YtoajamoobcdnnaaGreatDoorHpS
namespace Go.Proofs.YtoajamoobcdnnaaGreatDoor
open Go.RowKit
namespace Hm
def storyX : CallF := joinX 29
theorem mixed : Tryz.prog.follows .mixedOrders = true := by kernel_rfl
theorem storyNobody_runs : okX (callX Tryz.prog storyX 100000 3 [.any] H0) = true := by kernel_rfl
theorem StoryNobody_ok (a0 : Int) (W : World) (_ : -9223372036854775808 ≤ a0 ∧ a0 ≤ 9223372036854775807) : Calls Tryz.prog 3 #[.int .i64 a0] W fun e w' => e = .returned (.bool true) ∧ Below W.heap.size W w' :=
  law_of mixed joinX_sound W (us := [.int .i64 a0]) (.cons (.any _) .nil) storyNobody_runs
end Hm
end Go.Proofs.YtoajamoobcdnnaaGreatDoor
