/-
  A machine with a heap: structs that came in, their cells unknown.
-/
import Derived.Test.YtcccaomnehdlbaaDoorHpN
import Derived.WideShapes
namespace Go.Proofs.YtcccaomnehdlbaaDoor
open Go.RowKit
set_option linter.unusedVariables false
namespace Hm
theorem cell_one {P : Program} {w : World} {r : Reach} {base : Nat} {t : TypeId} {v : Value} (h : Cell.okWide P w r base t v) : v.oneCell' = true := by
  unfold Cell.okWide at h
  split at h
  all_goals try rfl
  unfold Cell.ok at h
  split at h
  all_goals first | rfl | exact h.elim
theorem okWide_cells {P : Program} {w : World} {r : Reach} {base : Nat} {t : TypeId} {fs : Array Field} {v : Value} (ht : P.underlying t = some (.struct fs)) (h : Value.okWide P w r base t v) : ∃ us : List Value, v = .agg us.toArray ∧ us.length = P.cellsOf t ∧ ∀ u, u ∈ us → u.oneCell' = true := by
  simp only [Value.okWide, ht] at h
  obtain ⟨cs, h1, h2, ts, h3, h4, h5⟩ := h
  refine ⟨cs.toList, by rw [h1], by simpa using h2, fun u hu => ?_⟩
  obtain ⟨i, hi⟩ := List.mem_iff_getElem?.1 hu
  obtain ⟨t', _, h6⟩ := h5 i u (by rw [← Array.getElem?_toList]; exact hi)
  exact cell_one h6
theorem vr_cells {E : Mx} {w : World} {n : Nat} {us : List Value} (hl : us.length = n) (h1 : ∀ u, u ∈ us → u.oneCell' = true) : Vr E w (.agg (List.replicate n (.un .cell))) (.agg us.toArray) := by
  refine .agg _ us (by simp [hl]) fun j c u hc hu => ?_
  have := (List.getElem?_eq_some_iff.1 hc).1
  rw [List.getElem?_replicate] at hc
  split at hc
  · cases hc
    exact .un .cell u (h1 u (List.mem_of_getElem? hu))
  · cases hc
end Hm
end Go.Proofs.YtcccaomnehdlbaaDoor
