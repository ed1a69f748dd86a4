/-
  HoldNobody: the law run by the machine with a heap.
-/
import Derived.Test.YtbpagknllngfkaaHpY
namespace Go.Proofs.Ytbpagknllngfkaa
open Go.RowKit
namespace Hm
def holdX : CallF := keysX 34 51
theorem mixed : Try.prog.follows .mixedOrders = true := by kernel_rfl
theorem holdNobody_runs : okX (callX Try.prog holdX 100000 3 [.any, .any] H0) = true := by kernel_rfl
theorem HoldNobody_ok (a0 : Int) (a1 : Bool) (W : World) (_ : -9223372036854775808 ≤ a0 ∧ a0 ≤ 9223372036854775807) : Calls Try.prog 3 #[.int .i64 a0, .bool a1] W fun e w' => e = .returned (.bool true) ∧ Below W.heap.size W w' :=
  law_of mixed keysX_sound W (us := [.int .i64 a0, .bool a1]) (.cons (.any _) (.cons (.any _) .nil)) holdNobody_runs
end Hm
end Go.Proofs.Ytbpagknllngfkaa
