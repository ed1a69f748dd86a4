/-
  The library's text builder: WriteByte, Write, String, over the model itself.
-/
import Derived.Test.YtkdbphhekpdmhaaDoorBase
import Derived.Test.YtkdbphhekpdmhaaDoorShelf
import Derived.Shelf.Strings.BuilderK
namespace Go.Proofs.YtkdbphhekpdmhaaDoor
open Go.RowKit Go.Shelf
set_option linter.unusedVariables false
set_option linter.unusedSimpArgs false
set_option maxRecDepth 100000

def renB : Go.Shelf.Ren := ⟨fun | 167 => 103 | n => Tryd.lays156_ren.f n, Tryd.lays156_ren.t, Tryd.lays156_ren.g⟩
theorem laysCC : Go.Proofs.Lays.n240 Tryd.prog renB := { Tryd.lays156 with }
theorem extraB : Builder.Extra Tryd.prog renB := {
  sizeBuilder := by kernel_rfl
  liesBuilder := by kernel_rfl
  t5 := Tryd.underlying5
  a5 := Tryd.isAgg5
  z5 := Tryd.sizeOf5
  v5 := Tryd.zeroValue5
  infoByte := by kernel_rfl
  cellsByte := by kernel_rfl
  sizeByte := by kernel_rfl
  neB5 := by decide }
/-- a builder in block b, whose bytes lie in blocks from N on -/
def BuildS (N b : Nat) (bs : List Value) (w : World) : Prop := b < N ∧ N ≤ w.heap.size ∧ ∃ p v, (p = .pointer none ∨ p = .pointer (some ⟨b, 0, none⟩)) ∧ w.heap[b]? = some (.cells #[p, v] 134 (0, 0)) ∧ w.ownsRow N 5 1 v bs.length bs
/-- blocks below N but b are as they were -/
def KeptB (N b : Nat) (w w' : World) : Prop := Below b w w' ∧ ∀ g, g < N → g ≠ b → w'.heap[g]? = w.heap[g]?
theorem own_ne {w : World} {N b : Nat} {v : Value} {n : Nat} {xs : List Value} (h : w.ownsRow N 5 1 v n xs) (hb : b < N) : v.ownBlock ≠ some b := by
  rcases h.2 with ⟨rfl, _⟩ | ⟨g, cap, cur, rfl, hg, _⟩
  · simp [Value.ownBlock]
  · intro e
    simp only [Value.ownBlock, Option.some.injEq] at e
    omega
theorem own_weak {w : World} {N b : Nat} {v : Value} {n : Nat} {xs : List Value} (h : w.ownsRow N 5 1 v n xs) (hb : b ≤ N) : w.ownsRow b 5 1 v n xs := by
  refine ⟨h.1, ?_⟩
  rcases h.2 with h | ⟨g, cap, cur, h1, h2, h3⟩
  · exact .inl h
  · exact .inr ⟨g, cap, cur, h1, by omega, h3⟩
theorem BuildS.is {N b : Nat} {bs : List Value} {w : World} (h : BuildS N b bs w) : Lib.IsBuilder 134 5 b b bs w := by
  obtain ⟨h1, h2, p, v, h3, h4, h5⟩ := h
  rcases h3 with rfl | rfl
  · exact .inl ⟨Nat.le_refl _, v, h4, own_weak h5 (by omega), own_ne h5 h1⟩
  · exact .inr ⟨Nat.le_refl _, v, h4, own_weak h5 (by omega), own_ne h5 h1⟩
theorem own_set {w : World} {N b o : Nat} {v u : Value} {n : Nat} {xs : List Value} (h : w.ownsRow N 5 1 v n xs) (hb : b < N) : (w.setCell ⟨b, o, none⟩ u).ownsRow N 5 1 v n xs :=
  h.kept (row := some b) ⟨rfl, rfl, rfl, by simp [World.setCell], fun k _ hk => Below.heap_setCell _ _ _ _ (fun e => hk (by simp [e]))⟩ (Or.inr (own_ne h hb))
/-- a later world that keeps all blocks -/
theorem BuildS.below {N b : Nat} {bs : List Value} {w w' : World} (h : BuildS N b bs w) (hb : Below w.heap.size w w') : BuildS N b bs w' := by
  obtain ⟨h1, h2, p, v, h3, h4, h5⟩ := h
  refine ⟨h1, Nat.le_trans h2 hb.size, p, v, h3, by rw [hb.block b (by omega)]; exact h4, h5.1, ?_⟩
  rcases h5.2 with h | ⟨g, cap, cur, e1, e2, e3, e4⟩
  · exact .inl h
  · refine .inr ⟨g, cap, cur, e1, e2, ?_, e4⟩
    have hg : g < w.heap.size := by
      rcases Nat.lt_or_ge g w.heap.size with h | h
      · exact h
      · rw [Array.getElem?_eq_none h] at e3; cases e3
    rw [hb.block g hg]; exact e3
theorem KeptB.refl (N b : Nat) (w : World) : KeptB N b w w := ⟨Below.refl _ _, fun _ _ _ => rfl⟩
theorem KeptB.trans {N b : Nat} {w w1 w2 : World} (h : KeptB N b w w1) (h' : KeptB N b w1 w2) : KeptB N b w w2 :=
  ⟨h.1.trans h'.1, fun g h1 h2 => (h'.2 g h1 h2).trans (h.2 g h1 h2)⟩
theorem KeptB.below {N b : Nat} {w w1 w2 : World} (h : KeptB N b w w1) (hN : N ≤ w1.heap.size) (hbN : b < N) (h' : Below w1.heap.size w1 w2) : KeptB N b w w2 :=
  ⟨h.1.trans (h'.mono (by omega)), fun g h1 h2 => by rw [h'.block g (by omega)]; exact h.2 g h1 h2⟩
theorem copyCheckB (N b : Nat) (bs : List Value) (w0 : World) (h0 : BuildS N b bs w0) :
    Calls Tryd.prog 129 #[.pointer (some ⟨b, 0, none⟩)] w0 fun e w' => e = .returned (.tuple #[]) ∧ (∃ v, w'.heap[b]? = some (.cells #[.pointer (some ⟨b, 0, none⟩), v] 134 (0, 0)) ∧ w'.ownsRow N 5 1 v bs.length bs) ∧ N ≤ w'.heap.size ∧ KeptB N b w0 w' ∧ ∀ g o, g ≠ b → w'.cell? ⟨g, o, none⟩ = w0.cell? ⟨g, o, none⟩ := by
  obtain ⟨q1, q2, p, v, q3, q4, q5⟩ := h0
  have hi : ∀ p, w0.heap[b]? = some (.cells #[p, v] 134 (0, 0)) → Lib.BuilderAt 134 5 b b p bs w0 := fun p hp => ⟨Nat.le_refl _, v, hp, own_weak q5 (by omega), own_ne q5 q1⟩
  rcases q3 with rfl | rfl
  · have hi := hi _ q4
    refine (Any.Builder_copyCheck_fresh laysCC extraB.toX72 b w0 hi.cell0 hi.shape hi.frozen0).mono ?_
    rintro e w' ⟨rfl, rfl⟩
    refine ⟨rfl, ⟨v, ?_, own_set q5 q1⟩, by simpa [World.setCell] using q2, ⟨(Below.refl b w0).setCell (p := ⟨b, 0, none⟩) (Nat.le_refl _) _, fun g hg hgb => Below.heap_setCell _ _ _ _ (fun e => hgb e)⟩, fun g o hg => World.cell?_setCell_other _ _ _ _ (fun e => hg (by cases e; rfl))⟩
    simp [World.setCell, Array.getElem?_modify, q4]
  · have hi := hi _ q4
    refine (Any.Builder_copyCheck_used laysCC extraB.toX72 b w0 hi.cell0).mono ?_
    rintro e w' ⟨rfl, rfl⟩
    exact ⟨rfl, ⟨v, q4, q5⟩, q2, KeptB.refl _ _ _, fun _ _ _ => rfl⟩
/-- the builder's new bytes laid into it -/
theorem BuildS.put {N b : Nat} {bs' : List Value} {w : World} {p v v' : Value} (h1 : b < N) (h2 : N ≤ w.heap.size) (hp : p = .pointer none ∨ p = .pointer (some ⟨b, 0, none⟩)) (hb : w.heap[b]? = some (.cells #[p, v] 134 (0, 0))) (ho : w.ownsRow N 5 1 v' bs'.length bs') :
    BuildS N b bs' (w.setCell ⟨b, 1, none⟩ v') := by
  refine ⟨h1, by simpa [World.setCell] using h2, p, v', hp, ?_, own_set ho h1⟩
  simp [World.setCell, Array.getElem?_modify, hb]
set_option maxHeartbeats 2000000 in
theorem writeB (N b : Nat) (bs : List Value) (bk o n cap : Nat) (xs : List Value) (w : World) (h : BuildS N b bs w) (hlen : bs.length + xs.length ≤ 140737488355328) (hn : xs.length = n) (hp : 0 < n)
    (hbb : bk ≠ b) (hx : ∀ (j : Nat) (u : Value), xs[j]? = some u → w.cell? ⟨bk, o + j, none⟩ = some u) (hone : ∀ u, u ∈ xs → u.oneCell' = true) :
    Calls Tryd.prog 104 #[.pointer (some ⟨b, 0, none⟩), .slice (some ⟨bk, o, none⟩) n cap] w fun e w' => e = .returned (.tuple #[.int .i64 n, .nilIface]) ∧ BuildS N b (bs ++ xs) w' ∧ KeptB N b w w' := by
  have hN := h.1
  obtain ⟨i0, hi, hz0, hz1, hz2⟩ := info_parts extraB.infoByte
  go_enter Tryd.func104, Tryd.ntmps104
  go_wp2_with fail
  refine (copyCheckB N b bs _ h).mono ?_
  rintro e w1 ⟨rfl, ⟨v, hbk', hown⟩, hN1, hk1, hc1⟩
  have c0 : w1.cell? ⟨b, 0, none⟩ = some (.pointer (some ⟨b, 0, none⟩)) := by rw [Lib.cell_of_heap hbk']; rfl
  have c1 : w1.cell? ⟨b, 1, none⟩ = some v := by rw [Lib.cell_of_heap hbk']; rfl
  go_wp2_with (at_builtin; refine wpList_append_own _ rfl _ _ 122 rfl N 5 i0 (.int .u8 0) 1 1 Tryd.underlying122 hi hz0 hz1 hz2 rfl (by decide) _ _ _ rfl hown ⟨bk, o, none⟩ n cap xs rfl (by omega) ?c1 ?c2 ?c3 ?c4 ?c5 ?_)
  case c1 =>
    intro j u hj
    have hplain : (⟨bk, o, none⟩ : Addr).add j = ⟨bk, o + j, none⟩ := by unfold Addr.add; split <;> simp_all
    rw [hplain, hc1 _ _ hbb]
    exact hx j u hj
  case c2 => exact hone
  case c3 => unfold maxLen; omega
  case c4 => omega
  case c5 => exact hN1
  intro v' w2 hown' hgrow _
  have hlt : b < w1.heap.size := by omega
  have hb2 : w2.heap[b]? = some (.cells #[.pointer (some ⟨b, 0, none⟩), v] 134 (0, 0)) := by
    rw [hgrow.block b hlt (fun e => own_ne hown hN e.symm)]
    exact hbk'
  have d0 : w2.cell? ⟨b, 0, none⟩ = some (.pointer (some ⟨b, 0, none⟩)) := by rw [Lib.cell_of_heap hb2]; rfl
  have d1 : w2.cell? ⟨b, 1, none⟩ = some v := by rw [Lib.cell_of_heap hb2]; rfl
  have f1 : w2.frozen? ⟨b, 1, none⟩ = false := Lib.frozen_of_heap hb2 1
  have hN2 : N ≤ w2.heap.size := Nat.le_trans hN1 hgrow.size
  obtain ⟨g, cap2, rfl⟩ : ∃ g cap2, v' = .slice (some ⟨g, 0, none⟩) (bs.length + n) cap2 := by
    rcases hown'.2 with ⟨_, h0⟩ | ⟨g, cap, cur, hv, _⟩
    · omega
    · exact ⟨g, cap, hv⟩
  go_wp2
  go_ret2
  refine ⟨rfl, BuildS.put hN hN2 (.inr rfl) hb2 (bs' := bs ++ xs) (by rw [List.length_append, hn]; exact hown'), ?_, fun q hq hqb => ?_⟩
  · exact (hk1.1.grown hgrow (by omega) (fun k hk => by have := (hown.lt k hk).1; omega)).setCell (p := ⟨b, 1, none⟩) (Nat.le_refl _) _
  · rw [Below.heap_setCell _ _ _ _ (fun e => hqb e), hgrow.block q (by omega) (fun e => own_ne hown hq e.symm)]
    exact hk1.2 q hq hqb

set_option maxHeartbeats 2000000 in
theorem writeByteB (N b : Nat) (bs : List Value) (c : Int) (w : World) (h : BuildS N b bs w) (hlen : bs.length + 1 ≤ 140737488355328) :
    Calls Tryd.prog 103 #[.pointer (some ⟨b, 0, none⟩), .int .u8 c] w fun e w' => e = .returned .nilIface ∧ BuildS N b (bs ++ [.int .u8 c]) w' ∧ KeptB N b w w' := by
  have hN := h.1
  obtain ⟨i0, hi, hz0, hz1, hz2⟩ := info_parts extraB.infoByte
  go_enter Tryd.func103, Tryd.ntmps103
  go_wp2_with fail
  refine (copyCheckB N b bs _ h).mono ?_
  rintro e w1 ⟨rfl, ⟨v, hbk', hown⟩, hN1, hk1, hc1⟩
  have c0 : w1.cell? ⟨b, 0, none⟩ = some (.pointer (some ⟨b, 0, none⟩)) := by rw [Lib.cell_of_heap hbk']; rfl
  have c1 : w1.cell? ⟨b, 1, none⟩ = some v := by rw [Lib.cell_of_heap hbk']; rfl
  go_wp2_with (at_builtin; refine wpList_append_own _ rfl _ _ 122 rfl N 5 i0 (.int .u8 0) 1 1 Tryd.underlying122 hi hz0 hz1 hz2 rfl (by decide) _ _ _ rfl (hown.alloc _) ⟨w1.heap.size, 0, none⟩ 1 1 [.int .u8 c] rfl rfl ?c1 ?c2 ?c3 ?c4 ?c5 ?_)
  case c1 =>
    intro j u hj
    match j, hj with
    | 0, hj => simp at hj; subst hj; simp [Addr.add]
  case c2 => intro u hu; simp at hu; subst hu; rfl
  case c3 => unfold maxLen; omega
  case c4 => omega
  case c5 => simp; omega
  intro v' w2 hown' hgrow _
  have hlt : b < w1.heap.size := by omega
  have hb2 : w2.heap[b]? = some (.cells #[.pointer (some ⟨b, 0, none⟩), v] 134 (0, 0)) := by
    rw [hgrow.block b (by simp; omega) (fun e => own_ne hown hN e.symm), Lib.alloc_old w1 _ b hlt]
    exact hbk'
  have d0 : w2.cell? ⟨b, 0, none⟩ = some (.pointer (some ⟨b, 0, none⟩)) := by rw [Lib.cell_of_heap hb2]; rfl
  have d1 : w2.cell? ⟨b, 1, none⟩ = some v := by rw [Lib.cell_of_heap hb2]; rfl
  have f1 : w2.frozen? ⟨b, 1, none⟩ = false := Lib.frozen_of_heap hb2 1
  have hN2 : N ≤ w2.heap.size := by have := hgrow.size; simp at this; omega
  obtain ⟨g, cap2, rfl⟩ : ∃ g cap2, v' = .slice (some ⟨g, 0, none⟩) (bs.length + 1) cap2 := by
    rcases hown'.2 with ⟨_, h0⟩ | ⟨g, cap, cur, hv, _⟩
    · omega
    · exact ⟨g, cap, hv⟩
  go_wp2
  go_ret
  refine ⟨rfl, BuildS.put hN hN2 (.inr rfl) hb2 (bs' := bs ++ [.int .u8 c]) (by simpa using hown'), ?_, fun q hq hqb => ?_⟩
  · exact ((hk1.1.alloc (by omega) _).grown hgrow (by simp; omega) (fun k hk => by have := (hown.lt k hk).1; omega)).setCell (p := ⟨b, 1, none⟩) (Nat.le_refl _) _
  · rw [Below.heap_setCell _ _ _ _ (fun e => hqb e), hgrow.block q (by simp; omega) (fun e => own_ne hown hq e.symm), Lib.alloc_old w1 _ q (by omega)]
    exact hk1.2 q hq hqb
theorem stringB (N b : Nat) (l : List UInt8) (w : World) (h : BuildS N b (Lib.byteCells l) w) :
    Calls Tryd.prog 98 #[.pointer (some ⟨b, 0, none⟩)] w fun e w' => e = .returned (.string ⟨l.toArray⟩) ∧ Below b w w' :=
  Tryd.Builder_String_any b b l w h.is (by have := h.1; have := h.2.1; omega)
end Go.Proofs.YtkdbphhekpdmhaaDoor
