/-
  DeskNobody: the law run by the machine with a heap.
-/
import Derived.Test.YtoiiikkeponhfaaGreatDoorDeA
namespace Go.Proofs.YtoiiikkeponhfaaGreatDoor
open Go.RowKit
namespace Hm
def lawXX : CallF := orX (awakeX 4) deskX
theorem lawXX_sound : XSound Tryz.prog lawXX := orX_sound (awakeX_sound fun w => law_of mixed deskX_sound (show 4 ≠ yldId by decide) w (us := []) .nil awake_runs) deskX_sound
theorem deskNobody_runs : lawX Tryz.prog lawXX 100000 3 [.un .str] = true := by kernel_rfl
theorem DeskNobody_ok (s : ByteArray) (W : World) (_ : s.size ≤ 281474976710656) : Calls Tryz.prog 3 #[.string s] W fun e w' => e = .returned (.bool true) ∧ Below W.heap.size W w' :=
  lawX_sound mixed lawXX_sound W (us := [.string s]) (.cons (.un .str _ rfl) .nil) deskNobody_runs
end Hm
end Go.Proofs.YtoiiikkeponhfaaGreatDoor
