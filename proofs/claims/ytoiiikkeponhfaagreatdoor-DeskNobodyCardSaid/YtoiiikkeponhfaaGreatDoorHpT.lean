/-
  A machine with a heap: strings.Index at a text of one byte: sound.
-/
import Derived.Test.YtoiiikkeponhfaaGreatDoorHpN
import Derived.Test.YtoiiikkeponhfaaGreatDoorIndx
namespace Go.Proofs.YtoiiikkeponhfaaGreatDoor
open Go.RowKit
set_option linter.unusedVariables false
namespace Hm
theorem indexX_sound : XSound Tryz.prog (indexX 59) := by
  intro f args h r h' e
  unfold indexX at e
  split at e
  case h_2 => cases e
  rename_i hf
  have hf := Nat.eq_of_beq_eq_true hf
  subst hf
  split at e
  case h_2 => cases e
  rename_i s sub
  split at e
  case h_2 => cases e
  rename_i c hc
  cases e
  refine ⟨HStep.refl _, fun E w us hR hH hfr hus => ?_⟩
  match us, hus with
  | [], hus => exact absurd hus.len (by simp)
  | [_], hus => exact absurd hus.len (by simp)
  | _ :: _ :: _ :: _, hus => exact absurd hus.len (by simp)
  | [u, u2], hus =>
  have hu := hus.head.lit_inv
  have hu2 := hus.tail.head.lit_inv
  subst hu
  subst hu2
  have hsub : sub = ⟨#[c]⟩ := by
    obtain ⟨d⟩ := sub
    have : d = #[c] := by apply Array.ext'; simpa using hc
    rw [this]
  subst hsub
  refine (Tryz.stringslite_Index_one s c w).mono ?_
  rintro e w' ⟨rfl, rfl⟩
  exact ⟨_, E, rfl, .lit _, hR, Step.refl _ _, hH, fun q hq => .inl hq, fun _ _ _ => rfl⟩
theorem countX_sound : XSound Tryz.prog (countX 108) := by
  intro f args h r h' e
  unfold countX at e
  split at e
  case h_2 => cases e
  rename_i hf
  have hf := Nat.eq_of_beq_eq_true hf
  subst hf
  split at e
  case h_2 => cases e
  rename_i s sub
  split at e
  case h_2 => cases e
  rename_i c hc
  cases e
  refine ⟨HStep.refl _, fun E w us hR hH hfr hus => ?_⟩
  match us, hus with
  | [], hus => exact absurd hus.len (by simp)
  | [_], hus => exact absurd hus.len (by simp)
  | _ :: _ :: _ :: _, hus => exact absurd hus.len (by simp)
  | [u, u2], hus =>
  have hu := hus.head.lit_inv
  have hu2 := hus.tail.head.lit_inv
  subst hu
  subst hu2
  have hsub : sub = ⟨#[c]⟩ := by
    obtain ⟨d⟩ := sub
    have : d = #[c] := by apply Array.ext'; simpa using hc
    rw [this]
  subst hsub
  refine (Tryz.strings_Count_one s c w).mono ?_
  rintro e w' ⟨rfl, rfl⟩
  exact ⟨_, E, rfl, .lit _, hR, Step.refl _ _, hH, fun q hq => .inl hq, fun _ _ _ => rfl⟩
theorem byteX_sound : XSound Tryz.prog (byteX 168) := by
  intro f args h r h' e
  unfold byteX at e
  split at e
  case h_2 => cases e
  rename_i hf
  have hf := Nat.eq_of_beq_eq_true hf
  subst hf
  split at e
  case h_2 => cases e
  rename_i s c
  cases e
  refine ⟨HStep.refl _, fun E w us hR hH hfr hus => ?_⟩
  match us, hus with
  | [], hus => exact absurd hus.len (by simp)
  | [_], hus => exact absurd hus.len (by simp)
  | _ :: _ :: _ :: _, hus => exact absurd hus.len (by simp)
  | [u, u2], hus =>
  have hu := hus.head.lit_inv
  have hu2 := hus.tail.head.lit_inv
  subst hu
  subst hu2
  refine (Tryz.strings_IndexByte s c w).mono ?_
  rintro e w' ⟨rfl, rfl⟩
  exact ⟨_, E, rfl, .lit _, hR, Step.refl _ _, hH, fun q hq => .inl hq, fun _ _ _ => rfl⟩
end Hm
end Go.Proofs.YtoiiikkeponhfaaGreatDoor
