/-
  What holds of every world that this program comes to: a variable of the library's own holds some number.
-/
import Derived.Test.YtgpoglaojklfbaaDoorBase
import Derived.Shelf.Vars
namespace Go.Proofs.YtgpoglaojklfbaaDoor
open Go.RowKit
def Glob (w : World) : Prop := (∃ m, w.cell? ⟨0, 0, none⟩ = some (.int .i64 m)) ∧ 0 < w.heap.size
theorem Glob.below {w w' : World} (h : Glob w) (hb : Below w.heap.size w w') : Glob w' := by
  obtain ⟨⟨m, hm⟩, h0⟩ := h
  exact ⟨⟨m, by rw [hb.cell (p := ⟨0, 0, none⟩) h0]; exact hm⟩, Nat.lt_of_lt_of_le h0 hb.size⟩
theorem Glob.start {w : World} (h : w.ShapedOpen Tryd.prog) : Glob w := by
  have h1 : ∃ m, w.cell? ⟨0, 0, none⟩ = some (.int .i64 m) := cell_of_shapedOpen_int (P := Tryd.prog) (g := 0) (t := 3) (zero := #[.int .i64 0]) h (of_decide_eq_true (by kernel_rfl)) (by kernel_rfl) rfl (by kernel_rfl) (by kernel_rfl) Tryd.underlying3
  obtain ⟨m, hm⟩ := h1
  refine ⟨⟨m, hm⟩, ?_⟩
  rcases Nat.eq_zero_or_pos w.heap.size with e | e
  · have : w.heap[0]? = none := Array.getElem?_eq_none (by omega)
    simp [World.cell?, this] at hm
  · exact e
end Go.Proofs.YtgpoglaojklfbaaDoor
