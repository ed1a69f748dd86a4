/-
  Part 10 of a proof: PkB, PkA, PkF, PkI.
-/
import Derived.IntWalk
import Derived.Lib.Bytealg
import Derived.Shelf.Strings.BuilderK
import Derived.Lib.CutLaws
import Derived.Lib.Split
import Derived.StillTailTactics
import Derived.Test.YtelmejaiapdgnaaDoorGF9
section
/-
  Layer 6 on the plain machine: bytes, texts with their lengths.
-/
namespace Go.Proofs.YtelmejaiapdgnaaDoor
open Go.RowKit
set_option linter.unusedVariables false
set_option linter.unusedSimpArgs false
set_option maxRecDepth 100000
def b0 (s : ByteArray) : UInt8 := s.data.toList.getD 0 0
/-! ### Contracts that are proved over the model itself -/
theorem AFn.flat1 {P : Program} {f : FuncId} (hok : funcOk P f = true) {d r : AV} {v u : Value} (hd : ∀ Q w v', VR Q w d v' → v' = v) (hr : ∀ Q base w, RR Q base w r u)
    (h : ∀ w, Glob w → Calls P f #[v] w fun e w' => e = .returned u ∧ Below w.heap.size w w') : AFn P f [d] r := by
  refine ⟨hok, fun w Pr vs hG hPr hlen hvs => ?_⟩
  obtain ⟨v', rfl⟩ : ∃ v', vs = [v'] := by
    match vs, hlen with
    | [v'], _ => exact ⟨v', rfl⟩
  rw [hd _ _ _ (hvs 0 _ v' rfl rfl)]
  exact (h w hG).mono fun e w' ⟨he, hb⟩ => ⟨u, he, hb, hr _ _ _⟩
theorem int_flat {k : IntKind} {m : Int} : ∀ Q w v', VR Q w (.int k m) v' → v' = .int k m := fun _ _ _ h => h.int_of
end Go.Proofs.YtelmejaiapdgnaaDoor
end
section
/-
  The library's text builder: WriteByte, Write, String, over the model itself.
-/
namespace Go.Proofs.YtelmejaiapdgnaaDoor
open Go.RowKit Go.Shelf
set_option linter.unusedVariables false
set_option linter.unusedSimpArgs false
set_option maxRecDepth 100000
/-- a builder in block b, whose bytes lie in blocks from N on -/
def BuildS (N b : Nat) (bs : List Value) (w : World) : Prop := b < N ∧ N ≤ w.heap.size ∧ ∃ p v, (p = .pointer none ∨ p = .pointer (some ⟨b, 0, none⟩)) ∧ w.heap[b]? = some (.cells #[p, v] 59 (0, 0)) ∧ w.ownsRow N 5 1 v bs.length bs
/-- blocks below N but b are as they were -/
def KeptB (N b : Nat) (w w' : World) : Prop := Below b w w' ∧ ∀ g, g < N → g ≠ b → w'.heap[g]? = w.heap[g]?
theorem own_ne {w : World} {N b : Nat} {v : Value} {n : Nat} {xs : List Value} (h : w.ownsRow N 5 1 v n xs) (hb : b < N) : v.ownBlock ≠ some b := by
  rcases h.2 with ⟨rfl, _⟩ | ⟨g, cap, cur, rfl, hg, _⟩
  · simp [Value.ownBlock]
  · intro e
    simp only [Value.ownBlock, Option.some.injEq] at e
    omega
theorem own_weak {w : World} {N b : Nat} {v : Value} {n : Nat} {xs : List Value} (h : w.ownsRow N 5 1 v n xs) (hb : b ≤ N) : w.ownsRow b 5 1 v n xs := by
  refine ⟨h.1, ?_⟩
  rcases h.2 with h | ⟨g, cap, cur, h1, h2, h3⟩
  · exact .inl h
  · exact .inr ⟨g, cap, cur, h1, by omega, h3⟩
theorem BuildS.is {N b : Nat} {bs : List Value} {w : World} (h : BuildS N b bs w) : Lib.IsBuilder 59 5 b b bs w := by
  obtain ⟨h1, h2, p, v, h3, h4, h5⟩ := h
  rcases h3 with rfl | rfl
  · exact .inl ⟨Nat.le_refl _, v, h4, own_weak h5 (by omega), own_ne h5 h1⟩
  · exact .inr ⟨Nat.le_refl _, v, h4, own_weak h5 (by omega), own_ne h5 h1⟩
theorem own_set {w : World} {N b o : Nat} {v u : Value} {n : Nat} {xs : List Value} (h : w.ownsRow N 5 1 v n xs) (hb : b < N) : (w.setCell ⟨b, o, none⟩ u).ownsRow N 5 1 v n xs :=
  h.kept (row := some b) ⟨rfl, rfl, rfl, by simp [World.setCell], fun k _ hk => Below.heap_setCell _ _ _ _ (fun e => hk (by simp [e]))⟩ (Or.inr (own_ne h hb))
/-- a later world that keeps all blocks -/
theorem BuildS.below {N b : Nat} {bs : List Value} {w w' : World} (h : BuildS N b bs w) (hb : Below w.heap.size w w') : BuildS N b bs w' := by
  obtain ⟨h1, h2, p, v, h3, h4, h5⟩ := h
  refine ⟨h1, Nat.le_trans h2 hb.size, p, v, h3, by rw [hb.block b (by omega)]; exact h4, h5.1, ?_⟩
  rcases h5.2 with h | ⟨g, cap, cur, e1, e2, e3, e4⟩
  · exact .inl h
  · refine .inr ⟨g, cap, cur, e1, e2, ?_, e4⟩
    have hg : g < w.heap.size := by
      rcases Nat.lt_or_ge g w.heap.size with h | h
      · exact h
      · rw [Array.getElem?_eq_none h] at e3; cases e3
    rw [hb.block g hg]; exact e3
theorem KeptB.refl (N b : Nat) (w : World) : KeptB N b w w := ⟨Below.refl _ _, fun _ _ _ => rfl⟩
theorem KeptB.trans {N b : Nat} {w w1 w2 : World} (h : KeptB N b w w1) (h' : KeptB N b w1 w2) : KeptB N b w w2 :=
  ⟨h.1.trans h'.1, fun g h1 h2 => (h'.2 g h1 h2).trans (h.2 g h1 h2)⟩
theorem KeptB.below {N b : Nat} {w w1 w2 : World} (h : KeptB N b w w1) (hN : N ≤ w1.heap.size) (hbN : b < N) (h' : Below w1.heap.size w1 w2) : KeptB N b w w2 :=
  ⟨h.1.trans (h'.mono (by omega)), fun g h1 h2 => by rw [h'.block g (by omega)]; exact h.2 g h1 h2⟩
/-- the builder's new bytes laid into it -/
theorem BuildS.put {N b : Nat} {bs' : List Value} {w : World} {p v v' : Value} (h1 : b < N) (h2 : N ≤ w.heap.size) (hp : p = .pointer none ∨ p = .pointer (some ⟨b, 0, none⟩)) (hb : w.heap[b]? = some (.cells #[p, v] 59 (0, 0))) (ho : w.ownsRow N 5 1 v' bs'.length bs') :
    BuildS N b bs' (w.setCell ⟨b, 1, none⟩ v') := by
  refine ⟨h1, by simpa [World.setCell] using h2, p, v', hp, ?_, own_set ho h1⟩
  simp [World.setCell, Array.getElem?_modify, hb]
end Go.Proofs.YtelmejaiapdgnaaDoor
end
section
/-
  The chapter's examples of layer 6, and the law PackTexts.
-/
namespace Go.Proofs.YtelmejaiapdgnaaDoor
open Go.RowKit
set_option linter.unusedVariables false
set_option linter.unusedSimpArgs false
set_option maxRecDepth 100000
theorem run_args {f : FuncId} {w : World} {ds : List AV} {vs : List Value} (hG : Glob w) (hl : ds.length = vs.length) (h : ∀ (j : Nat) (d : AV) (u : Value), ds[j]? = some d → vs[j]? = some u → VR (fun b _ => b < w.heap.size) w d u) (hA : AFn Tryd.prog f ds (.bool true)) :
    Calls Tryd.prog f ⟨vs⟩ w fun e w' => e = .returned (.bool true) ∧ Below w.heap.size w w' := by
  have := hA.calls w (fun b _ => b < w.heap.size) vs hG (fun b o hb => hb) hl h
  refine this.mono fun e w' ⟨u, he, hb, hr⟩ => ?_
  have hr' : VR (fun b o => (fun b _ => b < w.heap.size) b o ∨ w.heap.size ≤ b) w' (.bool true) u := hr
  cases hr'
  exact ⟨he, hb⟩
end Go.Proofs.YtelmejaiapdgnaaDoor
end
section
/-
  Layer 6: what stands between blanks, and the law PackWords.
-/
namespace Go.Proofs.YtelmejaiapdgnaaDoor
open Go.RowKit
set_option linter.unusedVariables false
set_option linter.unusedSimpArgs false
set_option maxRecDepth 100000
def wb (l : List UInt8) : ByteArray := ⟨l.toArray⟩
def ws (l : List (List UInt8)) : List AV := l.map fun x => .str (wb x)
end Go.Proofs.YtelmejaiapdgnaaDoor
end
