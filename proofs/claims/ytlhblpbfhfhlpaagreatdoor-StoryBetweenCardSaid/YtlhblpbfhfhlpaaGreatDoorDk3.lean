/-
  'Rows.StoryBetweenSaid' is proved: the law percolatelaw57.StoryBetween returns true at every input, and its arguments read as they did. No condition.
-/
import Derived.SizedLaws
import Derived.Test.YtlhblpbfhfhlpaaGreatDoorCards
import Derived.Test.YtlhblpbfhfhlpaaGreatDoorTie
import Derived.Deep.DeepHandedRow
import Derived.LaidLaws
import Derived.Lay
import Derived.SevenTiedAt
namespace Go.Proofs.YtlhblpbfhfhlpaaGreatDoor.storyBetween
set_option linter.unusedVariables false

theorem goes_none {P : Program} (h : P.funcs.any Func.goes = false) (f : FuncId) : P.goes f = false := by
  unfold Program.goes
  rw [h, Bool.and_false, Bool.or_false, List.any_eq_false]
  intro g _
  cases hf : P.funcs[g]? with
  | none => simp
  | some fn =>
    have := (Array.any_eq_false.1 h) g (Array.getElem?_eq_some_iff.1 hf).1
    rw [(Array.getElem?_eq_some_iff.1 hf).2] at this
    simpa using this
theorem dk3a : Tryz.prog.funcs.any Func.goes = false := by kernel_rfl
theorem dk3b : Tryz.prog.funcNamed Rows.storyBetweenRow.func = some 3 := by kernel_rfl
theorem dk3 : false = Rows.storyBetweenRow.goesBy Tryz.prog := by
  unfold OpenClaim.goesBy Program.goesAt Program.goesFrom
  rw [dk3b, Option.any_some, goes_none dk3a]
  rfl
end Go.Proofs.YtlhblpbfhfhlpaaGreatDoor.storyBetween
