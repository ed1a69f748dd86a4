/-
  LinearLong: the law run by the machine with a heap.
-/
import Derived.Test.YtcccaomnehdlbaaDoorLlA
namespace Go.Proofs.YtcccaomnehdlbaaDoor
open Go.RowKit
namespace Hm
def lawXX : CallF := awakeX 6
theorem lawXX_sound : XSound Tryd.prog lawXX := awakeX_sound fun w => law_of mixed cckX_sound (show 6 ≠ yldId by decide) w (us := []) .nil awake_runs
theorem linearLong_runs : lawX Tryd.prog lawXX 100000 3 [.agg (List.replicate 15 (.un .cell)), .un (.rng (-9223372036854775808) 9223372036854775807)] = true := by kernel_rfl
theorem LinearLong_ok (c : List Value) (d : Int) (W : World) (hl : c.length = 15) (h1 : ∀ u, u ∈ c → u.oneCell' = true) (hd : -9223372036854775808 ≤ d ∧ d ≤ 9223372036854775807) : Calls Tryd.prog 3 #[.agg c.toArray, .int .i64 d] W fun e w' => e = .returned (.bool true) ∧ Below W.heap.size W w' :=
  lawX_sound mixed lawXX_sound W (us := [.agg c.toArray, .int .i64 d]) (.cons (vr_cells hl h1) (.cons (.un (.rng (-9223372036854775808) 9223372036854775807) _ (by simp [UK.has, hd])) .nil)) linearLong_runs
end Hm
end Go.Proofs.YtcccaomnehdlbaaDoor
