/-
  A machine with a heap: strings.Join: sound.
-/
import Derived.Test.YtoiiikkeponhfaaGreatDoorHpN
import Derived.Test.YtoiiikkeponhfaaGreatDoorJoin
namespace Go.Proofs.YtoiiikkeponhfaaGreatDoor
open Go.RowKit
set_option linter.unusedVariables false
set_option linter.unusedSimpArgs false
namespace Hm
theorem joinTail_eq (sep : List UInt8) (x : ByteArray) : ∀ l : List ByteArray, joinB sep (x :: l) = x.data.toList ++ Lib.joinTail sep (l.map (·.data.toList))
  | [] => by simp [joinB, Lib.joinTail]
  | y :: l => by
    rw [joinB, joinTail_eq sep y l]
    · simp [Lib.joinTail]
    · simp
theorem joinB_eq (sep : List UInt8) : ∀ l : List ByteArray, joinB sep l = Lib.join (l.map (·.data.toList)) sep
  | [] => rfl
  | x :: l => by rw [joinTail_eq, List.map_cons, Lib.join_cons]
theorem strsC_out : ∀ {cs : List V} {l : List ByteArray}, strsC cs = some l → l.length = cs.length ∧ ∀ (j : Nat) (x : ByteArray), l[j]? = some x → cs[j]? = some (.lit (.string x))
  | [], l, h => by cases h; exact ⟨rfl, fun j x h => by simp at h⟩
  | c :: cs, l, h => by
    unfold strsC at h
    split at h
    · rename_i heq; exact absurd heq (by simp)
    · rename_i s r heq
      cases heq
      split at h
      · rename_i r' hr
        cases h
        obtain ⟨g1, g2⟩ := strsC_out hr
        refine ⟨by simp [g1], fun j x hj => ?_⟩
        cases j with
        | zero => cases hj; rfl
        | succ j => simpa using g2 j x (by simpa using hj)
      · cases h
    · cases h
theorem joinX_sound : XSound Tryz.prog (joinX 116) := by
  intro f args h r h' e
  unfold joinX at e
  split at e
  case h_2 => cases e
  rename_i hf
  have hf := Nat.eq_of_beq_eq_true hf
  subst hf
  split at e
  case h_2 => cases e
  rename_i v sep
  split at e
  case h_2 => cases e
  rename_i l hl
  split at e
  case h_2 => cases e
  rename_i hb
  cases e
  rw [Bool.and_eq_true] at hb
  have hb1 := Nat.le_of_ble_eq_true hb.1
  have hb2 := Nat.le_of_ble_eq_true hb.2
  refine ⟨HStep.refl _, fun E w us hR hH hfr hus => ?_⟩
  unfold strsV at hl
  split at hl
  case h_2 => cases hl
  rename_i r o z len
  split at hl
  case h_2 => cases hl
  rename_i cs hz hg
  rw [Bool.and_eq_true] at hz
  have hz1 := Nat.eq_of_beq_eq_true hz.1
  have hz2 := blt_lt hz.2
  subst hz1
  split at hl
  case h_2 => cases hl
  rename_i hle
  have hle := Nat.le_of_ble_eq_true hle
  obtain ⟨g1, g2⟩ := strsC_out hl
  have g1' : l.length = len := by rw [g1]; simp; omega
  match us, hus with
  | [], hus => exact absurd hus.len (by simp)
  | [_], hus => exact absurd hus.len (by simp)
  | _ :: _ :: _ :: _, hus => exact absurd hus.len (by simp)
  | [u, u2], hus =>
  have hu := hus.head
  have hu2 := hus.tail.head.lit_inv
  subst hu2
  obtain ⟨A, cap, rfl, hU, h0, hlc, hm, hlv⟩ := hu.sl_inv
  obtain ⟨_, hA, vs, ty, fr, hb', hsz⟩ := hlv (by rw [hH _ _ hg]; rfl)
  have hA := hA (by omega)
  subst hA
  subst g1'
  have hc := Tryz.strings_Join (E.μ r).1 ((E.μ r).2 + o) cap l sep w (fun j x hj => by
    have hcs := g2 j x hj
    have hjl := (List.getElem?_eq_some_iff.1 hj).1
    rw [List.getElem?_take, if_pos hjl, List.getElem?_drop] at hcs
    obtain ⟨u, q1, q2⟩ := hR.cell (hH _ _ hg) hcs
    rw [q2.lit_inv] at q1
    rw [Nat.add_assoc]; exact q1) (Array.getElem?_eq_some_iff.1 hb').1 (by omega) hlc (by rw [← joinB_eq]; omega)
  refine hc.mono ?_
  rintro e w' ⟨rfl, hbel⟩
  obtain ⟨hR', hS'⟩ := hR.grow hbel
  refine ⟨_, E, rfl, ?_, hR', hS', hH, fun q hq => .inl hq, fun _ _ _ => rfl⟩
  rw [joinB_eq]
  exact .lit _
end Hm
end Go.Proofs.YtoiiikkeponhfaaGreatDoor
