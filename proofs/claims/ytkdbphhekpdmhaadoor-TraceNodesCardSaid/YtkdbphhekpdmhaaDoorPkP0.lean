/-
  Layer 7: what holds of an operation that may be.
-/
import Derived.Test.YtkdbphhekpdmhaaDoorPkK
import Derived.Test.YtkdbphhekpdmhaaDoorJoin
namespace Go.Proofs.YtkdbphhekpdmhaaDoor
open Go.RowKit
set_option linter.unusedVariables false
set_option linter.unusedSimpArgs false
set_option maxRecDepth 100000
/-- what holds of an operation that may be -/
theorem right_parts {o : Opr} (h : o.right = true) : 1 ≤ o.kind ∧ o.kind ≤ 6 ∧ o.key.size ≤ 16 ∧ o.hi.size ≤ 16 ∧ o.val.size ≤ 16 ∧ (o.valued || nilB o.val) = true ∧ (!o.op || nilB o.hi) = true ∧
    (if o.ranged then !(Spn.empty ⟨o.key, o.hi, o.op⟩) else nilB o.hi && !o.op) = true ∧ (if o.kind == 6 then decide (1 ≤ o.lim) && decide (o.lim ≤ 64) else o.lim == 0) = true := by
  unfold Opr.right at h
  simp only [Bool.and_eq_true, decide_eq_true_eq] at h
  obtain ⟨⟨⟨⟨⟨⟨⟨⟨h1, h2⟩, h3⟩, h4⟩, h5⟩, h6⟩, h7⟩, h8⟩, h9⟩ := h
  refine ⟨h1, h2, by omega, by omega, by omega, h6, h7, ?_, ?_⟩
  · cases hr : o.ranged <;> rw [hr] at h8 <;> simpa using h8
  · cases hr : (o.kind == 6) <;> rw [hr] at h9 <;> simpa using h9
theorem nil_of_size {s : ByteArray} (h : s.size = 0) : s = ⟨#[]⟩ := by
  cases s; congr 1; exact Array.eq_empty_of_size_eq_zero h
theorem nilB_eq {s : ByteArray} (h : nilB s = true) : s = ⟨#[]⟩ := by
  unfold nilB nul at h
  rw [bytes_nil] at h
  exact nil_of_size (by simpa using h)
end Go.Proofs.YtkdbphhekpdmhaaDoor
