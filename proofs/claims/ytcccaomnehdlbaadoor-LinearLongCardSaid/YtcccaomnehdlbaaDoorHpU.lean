/-
  A machine with a heap: (*strings.Builder).copyCheck: sound.
-/
import Derived.Test.YtcccaomnehdlbaaDoorHpN
import Derived.Test.YtcccaomnehdlbaaDoorCck
namespace Go.Proofs.YtcccaomnehdlbaaDoor
open Go.RowKit
set_option linter.unusedVariables false
namespace Hm
theorem cckX_sound : XSound Tryd.prog (cckX 76 47) := by
  intro f args h r h' e
  unfold cckX at e
  split at e
  case h_2 => cases e
  rename_i hf
  have hf := Nat.eq_of_beq_eq_true hf
  subst hf
  split at e
  case h_2 => cases e
  rename_i q
  split at e
  case h_2 => cases e
  rename_i T c0 c1 hg hb
  rw [Bool.and_eq_true] at hb
  have hb1 := blt_lt hb.1
  have hb2 := blt_lt hb.2
  split at e
  case h_2 => cases e
  rename_i hT
  have hT := Nat.eq_of_beq_eq_true hT
  subst hT
  split at e
  · cases e
    refine ⟨HStep.end_ _ (by rw [hg]; simp) hb2 hb1, fun E w us hR hH hfr hus => ?_⟩
    match us, hus with
    | [], hus => exact absurd hus.len (by simp)
    | _ :: _ :: _, hus => exact absurd hus.len (by simp)
    | [u], hus =>
    have hE := hH _ _ hg
    have hp := hus.head.ptr_live hE
    subst hp
    obtain ⟨ob, h1, h2⟩ := hR.obj _ _ hE
    cases ob <;> try exact h2.elim
    rename_i vs ty fr
    obtain ⟨h3, ⟨h4, h5, h6, h7, h8⟩, h9⟩ := h2
    obtain ⟨h10, h11⟩ := h8 rfl
    have hfr0 := h7 (show (0 : Nat) < 2 by decide)
    subst hfr0
    have h6 : ty = 76 := h6
    subst h6
    have hsz : vs.size = 2 := h11
    obtain ⟨_, u0, g1, g2⟩ := h9 0 _ rfl
    obtain ⟨o1, u1, g3, g4⟩ := h9 1 _ rfl
    have g2 := g2.lit_inv
    subst g2
    rw [h10] at g1 g3
    simp only [Nat.zero_add] at g1 g3
    rw [h10]
    refine (Any.Builder_copyCheck_fresh Tryd.cck240 Tryd.cckX72 (E.μ q).1 w (by simp [World.cell?, h1, g1]) (by simp [World.shape?, h1, hsz]; rfl) (by simp [World.frozen?, h1])).mono ?_
    rintro e w' ⟨rfl, rfl⟩
    have hW := hR.write hE h1 (w' := w.setCell ⟨(E.μ q).1, 0, none⟩ (.pointer (some ⟨(E.μ q).1, 0, none⟩))) (o' := .cells (vs.setIfInBounds 0 (.pointer (some ⟨(E.μ q).1, 0, none⟩))) 76 (0, 0)) (ob' := .cells (76, 0) [.ptr q 0, c1])
      (by rw [setCell_eq_setRow w _ 0 vs _ _ _ h1]; exact ⟨rfl, rfl, rfl, by simp [World.setRow], fun k hk => by simp [World.setRow, Array.getElem?_modify, Ne.symm hk]⟩)
      (by rw [setCell_eq_setRow w _ 0 vs _ _ _ h1]; simp [World.setRow, Array.getElem?_modify, h1]) (fun _ _ _ z => by cases z; exact ⟨_, _, _, rfl, by simp⟩)
      ⟨.inl rfl, ⟨by simp; omega, fun z => by simp at z, rfl, fun _ => rfl, fun _ => ⟨h10, by simp [hsz]⟩⟩, fun j c hc => by
        rw [h10, Nat.zero_add]
        match j, hc with
        | 0, hc =>
          cases hc
          refine ⟨rfl, .pointer (some ⟨(E.μ q).1, 0, none⟩), by rw [Array.getElem?_setIfInBounds]; simp [hsz], .ptr _ _ _ (hR.used _ _ hE) fun _ => by rw [h10]⟩
        | 1, hc =>
          cases hc
          exact ⟨o1, u1, by rw [Array.getElem?_setIfInBounds]; simpa using g3, g4⟩
        | j + 2, hc => simp at hc⟩
    have nn := Nx.put hg hb2 hH hW
    exact ⟨_, _, rfl, Vrs.nil.tup, nn.rel, nn.step, nn.H, nn.U, nn.fr⟩
  · rename_i r'
    split at e
    case h_2 => cases e
    rename_i hr
    have hr := Nat.eq_of_beq_eq_true hr
    subst hr
    cases e
    refine ⟨HStep.refl _, fun E w us hR hH hfr hus => ?_⟩
    match us, hus with
    | [], hus => exact absurd hus.len (by simp)
    | _ :: _ :: _, hus => exact absurd hus.len (by simp)
    | [u], hus =>
    have hE := hH _ _ hg
    have hp := hus.head.ptr_live hE
    subst hp
    obtain ⟨ob, h1, h2⟩ := hR.obj _ _ hE
    cases ob <;> try exact h2.elim
    rename_i vs ty fr
    obtain ⟨h3, ⟨h4, h5, h6, h7, h8⟩, h9⟩ := h2
    obtain ⟨h10, h11⟩ := h8 rfl
    obtain ⟨_, u0, g1, g2⟩ := h9 0 _ rfl
    have g2 := g2.ptr_live hE
    subst g2
    rw [h10] at g1
    rw [h10]
    simp only [Nat.zero_add] at g1
    refine (Any.Builder_copyCheck_used Tryd.cck240 Tryd.cckX72 (E.μ r').1 w (by simp [World.cell?, h1, g1])).mono ?_
    rintro e w' ⟨rfl, rfl⟩
    exact ⟨_, E, rfl, Vrs.nil.tup, hR, Step.refl _ _, hH, fun z hz => .inl hz, fun _ _ _ => rfl⟩
  · cases e
end Hm
end Go.Proofs.YtcccaomnehdlbaaDoor
