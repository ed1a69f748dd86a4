/-
  What holds of every world that this program comes to: a variable of the library's own holds some number, and its table of powers is laid.
-/
import Derived.Test.YtkdbphhekpdmhaaDoorBase
import Derived.Shelf.Vars
import Derived.Lib.LaidTab
import Derived.Lib.ItoaNum
import Derived.Stop.LaidErr
namespace Go.Proofs.YtkdbphhekpdmhaaDoor
open Go.RowKit
def PowTab (w : World) : Prop := Lib.TabIs Tryd.prog w "internal/strconv.uint64pow10" .u64 Lib.pow10Tab
def Glob (w : World) : Prop := ((∃ m, w.cell? ⟨0, 0, none⟩ = some (.int .i64 m)) ∧ 0 < w.heap.size) ∧ PowTab w
theorem Glob.cell0 {w : World} (h : Glob w) : ∃ m, w.cell? ⟨0, 0, none⟩ = some (.int .i64 m) := h.1.1
theorem PowTab.below {w w' : World} (h : PowTab w) (hb : Below w.heap.size w w') : PowTab w' := by
  unfold PowTab Lib.TabIs World.var? at *
  cases hg : (Program.globalNamed Tryd.prog "internal/strconv.uint64pow10") with
  | none => rw [hg] at h; cases h
  | some g =>
    rw [hg] at h
    simp only [Option.bind_some] at h ⊢
    have hlt : g < w.heap.size := by
      rcases Nat.lt_or_ge g w.heap.size with h' | h'
      · exact h'
      · rw [Array.getElem?_eq_none h'] at h; cases h
    rw [hb.block g hlt]
    exact h
theorem Glob.below {w w' : World} (h : Glob w) (hb : Below w.heap.size w w') : Glob w' := by
  obtain ⟨⟨⟨m, hm⟩, h0⟩, ht⟩ := h
  exact ⟨⟨⟨m, by rw [hb.cell (p := ⟨0, 0, none⟩) h0]; exact hm⟩, Nat.lt_of_lt_of_le h0 hb.size⟩, ht.below hb⟩
theorem Glob.start {w : World} (h : w.ShapedOpen Tryd.prog) (ht : PowTab w) : Glob w := by
  have h1 : ∃ m, w.cell? ⟨0, 0, none⟩ = some (.int .i64 m) := cell_of_shapedOpen_int (P := Tryd.prog) (g := 0) (t := 3) (zero := #[.int .i64 0]) h (of_decide_eq_true (by kernel_rfl)) (by kernel_rfl) rfl (by kernel_rfl) (by kernel_rfl) Tryd.underlying3
  obtain ⟨m, hm⟩ := h1
  refine ⟨⟨⟨m, hm⟩, ?_⟩, ht⟩
  rcases Nat.eq_zero_or_pos w.heap.size with e | e
  · have : w.heap[0]? = none := Array.getElem?_eq_none (by omega)
    simp [World.cell?, this] at hm
  · exact e
end Go.Proofs.YtkdbphhekpdmhaaDoor
