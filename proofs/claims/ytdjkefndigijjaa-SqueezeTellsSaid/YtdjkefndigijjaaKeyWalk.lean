/-
  The walks of layer 1 (key): what each function over texts returns.
-/
import Derived.Test.YtdjkefndigijjaaChecked
import Derived.Test.YtdjkefndigijjaaKeyPure
import Derived.WalkKit
import Derived.WalkSpells
import Derived.WalkLawsBesides
import Derived.Deep.QuietTactic
import Derived.BigQuiet
import Derived.Lib.Hide
import Derived.Lib.MinMax
namespace Go.Proofs.Ytdjkefndigijjaa
open Go.RowKit Go.Lib
open Go.Op (bytesLess)
set_option linter.unusedVariables false

theorem less_at {a b : ByteArray} {k : Nat} (h1 : k < a.size) (h2 : k < b.size) :
    bytesLess (a.data.toList.drop k) (b.data.toList.drop k) = (decide (a[k] < b[k]) || (a[k] == b[k] && bytesLess (a.data.toList.drop (k + 1)) (b.data.toList.drop (k + 1)))) :=
  kp.less_step (a := a.data.toList) (b := b.data.toList) (i := k) (by simpa using h1) (by simpa using h2)
theorem size_len (s : ByteArray) : s.data.toList.length = s.size := by rw [Array.length_toList]; rfl

set_option maxHeartbeats 400000 in
theorem less_any (a b : ByteArray) (w : World) (ha : a.size ≤ 9223372036854775807) (hb : b.size ≤ 9223372036854775807) :
    Calls Try.prog 84 #[.string a, .string b] w fun e w' => e = .returned (.bool (bytesLess a.data.toList b.data.toList)) ∧ ∃ n, w' = w.drewN n := by
  go_enter Try.func84, Try.ntmps84
  go_wp2
  go_loopw [5] (fun i wr => ∃ k n : Nat, k ≤ a.size ∧ k ≤ b.size ∧ i = .int .i64 k ∧ bytesLess a.data.toList b.data.toList = bytesLess (a.data.toList.drop k) (b.data.toList.drop k) ∧ wr = w.drewN n) (fun i _ => a.size - (intOf i).toNat)
  case atStart => exact ⟨0, 0, Nat.zero_le _, Nat.zero_le _, rfl, rfl, rfl⟩
  case round =>
    obtain ⟨k, n, hka, hkb, rfl, hl, rfl⟩ := hrel
    have HL := Lib.hid hl; clear hl
    by_cases h1 : k < a.size
    · by_cases h2 : k < b.size
      · have HS := Lib.hid (less_at h1 h2)
        by_cases h3 : a[k] = b[k]
        · have h3' : ((a[k].toNat : Int) != (b[k].toNat : Int)) = false := by rw [h3]; simp
          have H3 := Lib.hid h3; clear h3
          go_wp2
          go_quiet (fail)
          go_wp2
          go_roundw
          case rel => exact ⟨k + 1, _, by omega, by omega, by go_num, by rw [HL.out, HS.out, H3.out]; simp, rfl⟩
          case measure => simp [intOf]; omega
        · have h3' : ((a[k].toNat : Int) != (b[k].toNat : Int)) = true := by
            rw [bne_iff_ne]; intro e; exact h3 (UInt8.toNat.inj (by omega))
          have H3 := Lib.hid h3; clear h3
          go_wp2
          go_quiet (fail)
          go_wp2
          go_quiet (fail)
          go_wp2
          go_ret
          refine ⟨?_, _, by first | rfl | (simp only [World.drewN_drewN]; rfl)⟩
          rw [HL.out, HS.out]
          have e : (a[k] == b[k]) = false := by simpa using H3.out
          rw [e]
          simp [UInt8.lt_iff_toNat_lt]
      · go_wp2
        go_ret
        refine ⟨?_, _, rfl⟩
        rw [HL.out, kp.less_end (.inr (by rw [size_len]; omega)) (by rw [size_len]; omega) (by rw [size_len]; omega)]
        simp
    · go_wp2
      go_ret
      refine ⟨?_, _, rfl⟩
      rw [HL.out, kp.less_end (.inl (by rw [size_len]; omega)) (by rw [size_len]; omega) (by rw [size_len]; omega)]
      simp

theorem common_at {a b : ByteArray} {k : Nat} (h1 : k < a.size) (h2 : k < b.size) :
    kp.common (a.data.toList.drop k) (b.data.toList.drop k) = if a[k] = b[k] then kp.common (a.data.toList.drop (k + 1)) (b.data.toList.drop (k + 1)) + 1 else 0 :=
  kp.common_step (a := a.data.toList) (b := b.data.toList) (i := k) (by simpa using h1) (by simpa using h2)

def com (a b : ByteArray) : Nat := kp.common a.data.toList b.data.toList

set_option maxHeartbeats 400000 in
theorem common_any (a b : ByteArray) (w : World) (ha : a.size ≤ 9223372036854775807) (hb : b.size ≤ 9223372036854775807) :
    Calls Try.prog 125 #[.string a, .string b] w fun e w' => e = .returned (.int .i64 (com a b)) ∧ ∃ n, w' = w.drewN n := by
  go_enter Try.func125, Try.ntmps125
  go_wp2
  go_loopw [5] (fun i wr => ∃ k n : Nat, k ≤ a.size ∧ k ≤ b.size ∧ i = .int .i64 k ∧ com a b = k + kp.common (a.data.toList.drop k) (b.data.toList.drop k) ∧ wr = w.drewN n) (fun i _ => a.size - (intOf i).toNat)
  case atStart => exact ⟨0, 0, Nat.zero_le _, Nat.zero_le _, rfl, by simp [com], rfl⟩
  case round =>
    obtain ⟨k, n, hka, hkb, rfl, hl, rfl⟩ := hrel
    have HL := Lib.hid hl; clear hl
    by_cases h1 : k < a.size ∧ k < b.size
    · obtain ⟨h1, h2⟩ := h1
      have hm : (k : Int) < min (a.size : Int) (b.size : Int) := by omega
      have hmd : decide ((k : Int) < min (a.size : Int) (b.size : Int)) = true := by simpa using hm
      have HS := Lib.hid (common_at h1 h2)
      by_cases h3 : a[k] = b[k]
      · have h3' : ((a[k].toNat : Int) == (b[k].toNat : Int)) = true := by rw [h3]; simp
        have H3 := Lib.hid h3; clear h3
        go_wp2_with fail
        go_quiet (fail)
        go_wp2_with fail
        go_roundw
        case rel => exact ⟨k + 1, _, by omega, by omega, by go_num, by rw [HL.out, HS.out, if_pos H3.out]; omega, by first | rfl | (simp only [World.drewN_drewN]; rfl)⟩
        case measure => simp [intOf]; omega
      · have h3' : ((a[k].toNat : Int) == (b[k].toNat : Int)) = false := by
          rw [beq_eq_false_iff_ne]; intro e; exact h3 (UInt8.toNat.inj (by omega))
        have H3 := Lib.hid h3; clear h3
        go_wp2_with fail
        go_quiet (fail)
        go_wp2_with fail
        go_ret
        exact ⟨by rw [HL.out, HS.out, if_neg H3.out]; rfl, _, by first | rfl | (simp only [World.drewN_drewN]; rfl)⟩
    · have hmd : decide ((k : Int) < min (a.size : Int) (b.size : Int)) = false := by simp; omega
      have HE := Lib.hid (kp.common_end (a := a.data.toList) (b := b.data.toList) (i := k) (by rw [size_len, size_len]; omega))
      clear h1
      go_wp2_with fail
      go_quiet (fail)
      go_wp2_with fail
      go_ret
      exact ⟨by rw [HL.out, HE.out]; rfl, _, by first | rfl | (simp only [World.drewN_drewN]; rfl)⟩

/-- the three-way order of two texts -/
def cmpS (a b : ByteArray) : Int := if bytesLess a.data.toList b.data.toList then -1 else if bytesLess b.data.toList a.data.toList then 1 else 0

set_option maxHeartbeats 400000 in
theorem compare_any (a b : ByteArray) (w : World) :
    Calls Try.prog 102 #[.string a, .string b] w fun e w' => e = .returned (.int .i64 (cmpS a b)) ∧ w = w' := by
  have ea : (a.toList == a.toList) = true := by simp
  have eb : (b.toList == b.toList) = true := by simp
  rcases h1 : bytesLess a.data.toList b.data.toList <;> rcases h2 : bytesLess b.data.toList a.data.toList
  · have H := Lib.hid (show cmpS a b = 0 by simp [cmpS, h1, h2])
    have h3 := kp.less_total _ _ h1 h2
    rw [← ByteArray.toList_eq, ← ByteArray.toList_eq] at h1 h2 h3
    have h3' : (a.toList == b.toList) = true := by rw [h3]; simp
    clear h3
    go_enter Try.func102, Try.ntmps102
    go_wp2
    go_ret
    exact ⟨by rw [H.out]; rfl, rfl⟩
  · have H := Lib.hid (show cmpS a b = 1 by simp [cmpS, h1, h2])
    rw [← ByteArray.toList_eq, ← ByteArray.toList_eq] at h1 h2
    have h3' : (a.toList == b.toList) = false := by
      rw [beq_eq_false_iff_ne]; intro e; rw [e] at h2
      rw [kp.less_irrefl] at h2; cases h2
    go_enter Try.func102, Try.ntmps102
    go_wp2
    go_ret
    exact ⟨by rw [H.out]; rfl, rfl⟩
  · have H := Lib.hid (show cmpS a b = -1 by simp [cmpS, h1])
    rw [← ByteArray.toList_eq, ← ByteArray.toList_eq] at h1 h2
    go_enter Try.func102, Try.ntmps102
    go_wp2
    go_ret
    exact ⟨by rw [H.out]; rfl, rfl⟩
  · exfalso
    have := kp.less_asymm _ _ h1
    rw [this] at h2; cases h2

theorem right_any (a : ByteArray) (w : World) (ha : a.size ≤ 9223372036854775807) :
    Calls Try.prog 99 #[.string a] w fun e w' => e = .returned (.bool (decide ((a.size : Int) ≤ 16))) ∧ w = w' := by
  go_enter Try.func99, Try.ntmps99
  go_wp2
  go_ret
  exact ⟨rfl, rfl⟩

theorem next_any (a : ByteArray) (w : World) (ha : a.size ≤ 9223372036854775806) :
    Calls Try.prog 98 #[.string a] w fun e w' => e = .returned (.string (a ++ ⟨#[0]⟩)) ∧ w = w' := by
  go_enter Try.func98, Try.ntmps98
  go_wp2
  go_ret
  exact ⟨rfl, rfl⟩

/-- what parts two texts -/
def btw (a b : ByteArray) : ByteArray := if bytesLess a.data.toList b.data.toList then b.extract 0 (com a b + 1) else ⟨#[]⟩

theorem com_lt {a b : ByteArray} (h : bytesLess a.data.toList b.data.toList = true) : com a b < b.size := by
  have := kp.common_lt _ _ h
  rw [size_len] at this; exact this

set_option maxHeartbeats 400000 in
theorem between_any (a b : ByteArray) (w : World) (ha : a.size ≤ 9223372036854775807) (hb : b.size ≤ 9223372036854775807) :
    Calls Try.prog 97 #[.string a, .string b] w fun e w' => e = .returned (.tuple #[.string (btw a b), .bool (bytesLess a.data.toList b.data.toList)]) ∧ ∃ n, w' = w.drewN n := by
  rcases h1 : bytesLess a.data.toList b.data.toList
  · have H := Lib.hid (show btw a b = ⟨#[]⟩ by simp [btw, h1])
    rw [← ByteArray.toList_eq, ← ByteArray.toList_eq] at h1
    go_enter Try.func97, Try.ntmps97
    go_wp2_with fail
    go_ret2
    exact ⟨by rw [H.out]; rfl, 0, rfl⟩
  · have H := Lib.hid (show btw a b = b.extract 0 (com a b + 1) by simp [btw, h1])
    have hc := com_lt h1
    rw [← ByteArray.toList_eq, ← ByteArray.toList_eq] at h1
    go_enter Try.func97, Try.ntmps97
    go_wp2_with fail
    refine (common_any a b _ ha hb).mono ?_
    rintro e w' ⟨rfl, n, rfl⟩
    go_wp2_with fail
    go_ret2
    exact ⟨by rw [H.out]; rfl, _, rfl⟩

theorem extract_list (b : ByteArray) (i : Nat) : (b.extract 0 i).data.toList = b.data.toList.take i := by
  rw [ByteArray.data_extract]; simp

theorem less_front (a b : ByteArray) (i : Nat) (h : i ≤ b.size) :
    bytesLess a.data.toList (b.extract 0 i).data.toList = (bytesLess a.data.toList b.data.toList && decide (com a b < i)) := by
  rw [extract_list, kp.less_take _ _ _ (by rw [size_len]; omega)]; rfl

theorem awake_btw : btw ⟨#[97, 98, 99]⟩ ⟨#[97, 98, 120, 121, 122]⟩ = ⟨#[97, 98, 120]⟩ := by decide +kernel
theorem awake_less : bytesLess (⟨#[97, 98, 99]⟩ : ByteArray).data.toList (⟨#[97, 98, 120, 121, 122]⟩ : ByteArray).data.toList = true := by decide +kernel
theorem awake_next : (⟨#[97]⟩ : ByteArray) ++ ⟨#[0]⟩ = ⟨#[97, 0]⟩ := by decide +kernel

set_option maxHeartbeats 400000 in
theorem keyAwake_any (w : World) : Calls Try.prog 55 #[] w fun e w' => e = .returned (.bool true) ∧ ∃ n, w' = w.drewN n := by
  go_enter Try.func55, Try.ntmps55
  go_wp2_with fail
  refine (between_any _ _ _ (by decide) (by decide)).mono ?_
  rintro e w' ⟨rfl, n, rfl⟩
  rw [awake_btw, awake_less]
  go_wp2_with fail
  refine (next_any _ _ (by decide)).mono ?_
  rintro e w' ⟨rfl, rfl⟩
  rw [awake_next]
  go_wp2_with fail
  refine (right_any _ _ (by decide)).mono ?_
  rintro e w' ⟨rfl, rfl⟩
  go_wp2_with fail
  refine (right_any _ _ (by decide)).mono ?_
  rintro e w' ⟨rfl, rfl⟩
  go_wp2_with fail
  go_ret
  exact ⟨rfl, _, rfl⟩
end Go.Proofs.Ytdjkefndigijjaa
