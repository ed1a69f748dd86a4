/-
  LinearLong: the example and the law run by the machine with a heap.
-/
import Derived.Test.YtcccaomnehdlbaaDoorHpU
import Derived.Test.YtcccaomnehdlbaaDoorHpO
import Derived.Test.YtcccaomnehdlbaaDoorHpV
namespace Go.Proofs.YtcccaomnehdlbaaDoor
open Go.RowKit
namespace Hm
def llX : CallF := cckX 76 47
theorem mixed : Tryd.prog.follows .mixedOrders = true := by kernel_rfl
theorem awake_runs : okX (callX Tryd.prog llX 100000 6 [] H0) = true := by kernel_rfl
end Hm
end Go.Proofs.YtcccaomnehdlbaaDoor
