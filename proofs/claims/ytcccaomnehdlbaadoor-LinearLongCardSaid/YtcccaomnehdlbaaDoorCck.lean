/-
  (*strings.Builder).copyCheck: what the library's contract takes, laid by hand.
-/
import Derived.Shelf.Strings.Builder1
import Derived.Test.YtcccaomnehdlbaaDoorProg
namespace Go.Proofs
open Go.Shelf
def Tryd.cck_ren : Go.Shelf.Ren := ⟨fun | 240 => 47 | 276 => 61 | n => n, fun | 0 => 0 | 4 => 4 | 9 => 9 | 20 => 20 | 70 => 73 | 72 => 76 | 37 => 74 | 164 => 112 | n => n, fun | n => n⟩
theorem Tryd.cck240 : Go.Proofs.Lays.n240 Tryd.prog Tryd.cck_ren := {
  mixed := by kernel_rfl
  f240 := Tryd.func47.trans (congrArg some (by kernel_rfl))
  f276 := Tryd.func61.trans (congrArg some (by kernel_rfl))
  t0 := Tryd.underlying0
  a0 := Tryd.isAgg0
  z0 := Tryd.sizeOf0
  v0 := Tryd.zeroValue0
  t4 := Tryd.underlying4
  a4 := Tryd.isAgg4
  z4 := Tryd.sizeOf4
  v4 := Tryd.zeroValue4
  t9 := Tryd.underlying9
  a9 := Tryd.isAgg9
  z9 := Tryd.sizeOf9
  v9 := Tryd.zeroValue9
  t20 := Tryd.underlying20
  a20 := Tryd.isAgg20
  z20 := Tryd.sizeOf20
  v20 := Tryd.zeroValue20
  t70 := Tryd.underlying73
  a70 := Tryd.isAgg73
  z70 := Tryd.sizeOf73
  v70 := Tryd.zeroValue73
  t72 := Tryd.underlying76
  a72 := Tryd.isAgg76
  z72 := Tryd.sizeOf76
  v72 := Tryd.zeroValue76
  t164 := Tryd.underlying112
  a164 := Tryd.isAgg112
  z164 := Tryd.sizeOf112
  v164 := Tryd.zeroValue112 }
theorem Tryd.cckX72 : Builder.X72 Tryd.prog Tryd.cck_ren where
  sizeBuilder := by kernel_rfl
  liesBuilder := by kernel_rfl
end Go.Proofs
