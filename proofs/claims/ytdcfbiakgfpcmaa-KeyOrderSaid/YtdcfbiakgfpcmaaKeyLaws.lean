/-
  The laws of layer 1 (key), walked: KeyOrder and KeyBetween return true at every two or three texts.
-/
import Derived.Test.YtdcfbiakgfpcmaaKeyWalk
namespace Go.Proofs.Ytdcfbiakgfpcmaa
open Go.RowKit Go.Lib
open Go.Op (bytesLess)
set_option linter.unusedVariables false

theorem cmp_next (a : ByteArray) : cmpS a (a ++ ⟨#[0]⟩) = -1 := by
  have h : (a ++ (⟨#[0]⟩ : ByteArray)).data.toList = a.data.toList ++ [0] := by
    rw [ByteArray.data_append]; simp
  rw [cmpS, h, if_pos (kp.less_next _)]
theorem cmp_after (a b : ByteArray) (h : cmpS b (a ++ ⟨#[0]⟩) = -1) (h' : cmpS b a = 1) : False := by
  have e : (a ++ (⟨#[0]⟩ : ByteArray)).data.toList = a.data.toList ++ [0] := by
    rw [ByteArray.data_append]; simp
  have h1 : bytesLess b.data.toList (a.data.toList ++ [0]) = true := by
    rw [cmpS, e] at h
    by_cases c : bytesLess b.data.toList (a.data.toList ++ [0]) = true
    · exact c
    · rw [if_neg c] at h; split at h <;> cases h
  have h2 := kp.next_least _ _ h1
  rw [cmpS, h2] at h'
  split at h' <;> simp at h'

set_option maxHeartbeats 1000000 in
theorem keyOrder_walk (a b : ByteArray) (w : World) (ha : a.size ≤ 9223372036854775807) (hb : b.size ≤ 9223372036854775807) :
    Calls Try.prog 4 #[.string a, .string b] w fun e w' => e = .returned (.bool true) ∧ ∃ n, w' = w.drewN n := by
  by_cases h1 : 2000 < a.size
  · go_enter Try.func4, Try.ntmps4
    go_wp2_with fail
    refine (keyAwake_any _).mono ?_
    rintro e w' ⟨rfl, n, rfl⟩
    go_wp2_with fail
    go_ret
    exact ⟨rfl, _, rfl⟩
  by_cases h2 : 2000 < b.size
  · go_enter Try.func4, Try.ntmps4
    go_wp2_with fail
    refine (keyAwake_any _).mono ?_
    rintro e w' ⟨rfl, n, rfl⟩
    go_wp2_with fail
    go_ret
    exact ⟨rfl, _, rfl⟩
  have hn := cmp_next a
  have ec : (cmpS a b != cmpS a b) = false := by simp
  have em : ((com a b : Int) != (com a b : Int)) = false := by simp
  have ed : ((!decide ((a.size : Int) ≤ 16)) == decide ((a.size : Int) ≤ 16)) = false := by cases decide ((a.size : Int) ≤ 16) <;> rfl
  have es : (a ++ (⟨#[0]⟩ : ByteArray)).size = a.size + 1 := by rw [ByteArray.size_append]; rfl
  by_cases h3 : cmpS b (a ++ ⟨#[0]⟩) = -1
  · have e3 : (cmpS b (a ++ ⟨#[0]⟩) != -1) = false := by rw [h3]; rfl
    have e4 : (cmpS b a != 1) = true := by rw [bne_iff_ne]; exact fun h => cmp_after a b h3 h
    clear h3
    go_enter Try.func4, Try.ntmps4
    go_wp2_with fail
    refine (next_any _ _ (by omega)).mono ?_
    rintro e w' ⟨rfl, rfl⟩
    go_wp2_with fail
    refine (compare_any _ _ _).mono ?_
    rintro e w' ⟨rfl, rfl⟩
    go_wp2_with fail
    refine (refCompare_any _ _ _ (by omega) (by omega)).mono ?_
    rintro e w' ⟨rfl, n1, rfl⟩
    go_wp2_with fail
    refine (common_any _ _ _ (by omega) (by omega)).mono ?_
    rintro e w' ⟨rfl, n2, rfl⟩
    go_wp2_with fail
    refine (refCommon_any _ _ _ (by omega) (by omega)).mono ?_
    rintro e w' ⟨rfl, n3, rfl⟩
    go_wp2_with fail
    refine (right_any _ _ (by omega)).mono ?_
    rintro e w' ⟨rfl, rfl⟩
    go_wp2_with fail
    refine (compare_any _ _ _).mono ?_
    rintro e w' ⟨rfl, rfl⟩
    rw [hn]
    go_wp2_with fail
    refine (compare_any _ _ _).mono ?_
    rintro e w' ⟨rfl, rfl⟩
    go_wp2_with fail
    refine (compare_any _ _ _).mono ?_
    rintro e w' ⟨rfl, rfl⟩
    go_wp2_with fail
    refine (keyAwake_any _).mono ?_
    rintro e w' ⟨rfl, n4, rfl⟩
    go_wp2_with fail
    go_ret
    exact ⟨rfl, _, by first | rfl | (simp only [World.drewN_drewN]; rfl)⟩
  · have e3 : (cmpS b (a ++ ⟨#[0]⟩) != -1) = true := by rw [bne_iff_ne]; exact h3
    clear h3
    go_enter Try.func4, Try.ntmps4
    go_wp2_with fail
    refine (next_any _ _ (by omega)).mono ?_
    rintro e w' ⟨rfl, rfl⟩
    go_wp2_with fail
    refine (compare_any _ _ _).mono ?_
    rintro e w' ⟨rfl, rfl⟩
    go_wp2_with fail
    refine (refCompare_any _ _ _ (by omega) (by omega)).mono ?_
    rintro e w' ⟨rfl, n1, rfl⟩
    go_wp2_with fail
    refine (common_any _ _ _ (by omega) (by omega)).mono ?_
    rintro e w' ⟨rfl, n2, rfl⟩
    go_wp2_with fail
    refine (refCommon_any _ _ _ (by omega) (by omega)).mono ?_
    rintro e w' ⟨rfl, n3, rfl⟩
    go_wp2_with fail
    refine (right_any _ _ (by omega)).mono ?_
    rintro e w' ⟨rfl, rfl⟩
    go_wp2_with fail
    refine (compare_any _ _ _).mono ?_
    rintro e w' ⟨rfl, rfl⟩
    rw [hn]
    go_wp2_with fail
    refine (compare_any _ _ _).mono ?_
    rintro e w' ⟨rfl, rfl⟩
    go_wp2_with fail
    refine (keyAwake_any _).mono ?_
    rintro e w' ⟨rfl, n4, rfl⟩
    go_wp2_with fail
    go_ret
    exact ⟨rfl, _, by first | rfl | (simp only [World.drewN_drewN]; rfl)⟩

theorem btw_size {a b : ByteArray} (h : bytesLess a.data.toList b.data.toList = true) : (btw a b).size = com a b + 1 := by
  have := com_lt h
  rw [btw, if_pos h, ByteArray.size_extract]; omega
theorem btw_list {a b : ByteArray} (h : bytesLess a.data.toList b.data.toList = true) : (btw a b).data.toList = b.data.toList.take (com a b + 1) := by
  rw [btw, if_pos h, extract_list]

set_option maxHeartbeats 2000000 in
theorem keyBetween_walk (a b x : ByteArray) (w : World) (ha : a.size ≤ 9223372036854775807) (hb : b.size ≤ 9223372036854775807) (hx : x.size ≤ 9223372036854775807) :
    Calls Try.prog 3 #[.string a, .string b, .string x] w fun e w' => e = .returned (.bool true) ∧ ∃ n, w' = w.drewN n := by
  by_cases c1 : 300 < a.size
  · go_enter Try.func3, Try.ntmps3
    go_wp2_with (first | (go_at_call 6; refine (keyAwake_any _).mono ?_; rintro e w' ⟨rfl, n, rfl⟩) | (go_at_call 7; refine (between_any _ _ _ (by omega) (by omega)).mono ?_; rintro e w' ⟨rfl, n, rfl⟩) | (go_at_call 8; refine (refBetween_any _ _ _ (by omega) (by omega)).mono ?_; rintro e w' ⟨rfl, n, rfl⟩) | (go_at_call 9; refine (less_any _ _ _ (by omega) (by omega)).mono ?_; rintro e w' ⟨rfl, n, rfl⟩) | (go_at_call 10; refine (right_any _ _ (by omega)).mono ?_; rintro e w' ⟨rfl, rfl⟩))
    go_ret
    exact ⟨rfl, _, rfl⟩
  by_cases c2 : 300 < b.size
  · go_enter Try.func3, Try.ntmps3
    go_wp2_with (first | (go_at_call 6; refine (keyAwake_any _).mono ?_; rintro e w' ⟨rfl, n, rfl⟩) | (go_at_call 7; refine (between_any _ _ _ (by omega) (by omega)).mono ?_; rintro e w' ⟨rfl, n, rfl⟩) | (go_at_call 8; refine (refBetween_any _ _ _ (by omega) (by omega)).mono ?_; rintro e w' ⟨rfl, n, rfl⟩) | (go_at_call 9; refine (less_any _ _ _ (by omega) (by omega)).mono ?_; rintro e w' ⟨rfl, n, rfl⟩) | (go_at_call 10; refine (right_any _ _ (by omega)).mono ?_; rintro e w' ⟨rfl, rfl⟩))
    go_ret
    exact ⟨rfl, _, rfl⟩
  by_cases c3 : 300 < x.size
  · go_enter Try.func3, Try.ntmps3
    go_wp2_with (first | (go_at_call 6; refine (keyAwake_any _).mono ?_; rintro e w' ⟨rfl, n, rfl⟩) | (go_at_call 7; refine (between_any _ _ _ (by omega) (by omega)).mono ?_; rintro e w' ⟨rfl, n, rfl⟩) | (go_at_call 8; refine (refBetween_any _ _ _ (by omega) (by omega)).mono ?_; rintro e w' ⟨rfl, n, rfl⟩) | (go_at_call 9; refine (less_any _ _ _ (by omega) (by omega)).mono ?_; rintro e w' ⟨rfl, n, rfl⟩) | (go_at_call 10; refine (right_any _ _ (by omega)).mono ?_; rintro e w' ⟨rfl, rfl⟩))
    go_ret
    exact ⟨rfl, _, rfl⟩
  have es : ((btw a b).toList == (btw a b).toList) = true := by simp
  rcases h1 : bytesLess a.data.toList b.data.toList
  · rcases h2 : bytesLess a.data.toList x.data.toList
    · go_enter Try.func3, Try.ntmps3
      go_wp2_with (first | (go_at_call 6; refine (keyAwake_any _).mono ?_; rintro e w' ⟨rfl, n, rfl⟩) | (go_at_call 7; refine (between_any _ _ _ (by omega) (by omega)).mono ?_; rintro e w' ⟨rfl, n, rfl⟩) | (go_at_call 8; refine (refBetween_any _ _ _ (by omega) (by omega)).mono ?_; rintro e w' ⟨rfl, n, rfl⟩) | (go_at_call 9; refine (less_any _ _ _ (by omega) (by omega)).mono ?_; rintro e w' ⟨rfl, n, rfl⟩) | (go_at_call 10; refine (right_any _ _ (by omega)).mono ?_; rintro e w' ⟨rfl, rfl⟩))
      go_ret
      exact ⟨rfl, _, by first | rfl | (simp only [World.drewN_drewN]; rfl)⟩
    · rcases h3 : bytesLess b.data.toList x.data.toList
      all_goals
        go_enter Try.func3, Try.ntmps3
        go_wp2_with (first | (go_at_call 6; refine (keyAwake_any _).mono ?_; rintro e w' ⟨rfl, n, rfl⟩) | (go_at_call 7; refine (between_any _ _ _ (by omega) (by omega)).mono ?_; rintro e w' ⟨rfl, n, rfl⟩) | (go_at_call 8; refine (refBetween_any _ _ _ (by omega) (by omega)).mono ?_; rintro e w' ⟨rfl, n, rfl⟩) | (go_at_call 9; refine (less_any _ _ _ (by omega) (by omega)).mono ?_; rintro e w' ⟨rfl, n, rfl⟩) | (go_at_call 10; refine (right_any _ _ (by omega)).mono ?_; rintro e w' ⟨rfl, rfl⟩))
        go_ret
        exact ⟨rfl, _, by first | rfl | (simp only [World.drewN_drewN]; rfl)⟩
  · have HS := Lib.hid (btw_size h1)
    have HL := Lib.hid (btw_list h1)
    have HB : Hid (com a b < b.size) := com_lt h1
    have hsz : (btw a b).size ≤ 300 := by have h := HS.out; have h' := HB.out; omega
    have es16 : (b.size : Int) ≤ 16 → ((btw a b).size : Int) ≤ 16 := by have h := HS.out; have h' := HB.out; omega
    have HI : Hid (bytesLess a.data.toList x.data.toList = true → bytesLess b.data.toList x.data.toList = false → com a b + 1 ≤ x.size ∧ (x.size = com a b + 1 → bytesLess (btw a b).data.toList x.data.toList = false)) := by
      intro h2 h3
      have := kp.between_least _ _ _ h1 h2 h3
      rw [size_len] at this
      rw [HL.out]; exact this
    rcases h2 : bytesLess a.data.toList x.data.toList
    · by_cases h4 : (x.size : Int) = ((btw a b).size : Int)
      all_goals by_cases h5 : (b.size : Int) ≤ 16
      · have e4 : ((x.size : Int) != ((btw a b).size : Int)) = false := by rw [h4]; simp
        have e5 : decide ((b.size : Int) ≤ 16) = true := by simpa using h5
        have e6 : decide (((btw a b).size : Int) ≤ 16) = true := by simpa using es16 h5
        clear h4 h5 es16
        go_enter Try.func3, Try.ntmps3
        go_wp2_with (first | (go_at_call 6; refine (keyAwake_any _).mono ?_; rintro e w' ⟨rfl, n, rfl⟩) | (go_at_call 7; refine (between_any _ _ _ (by omega) (by omega)).mono ?_; rintro e w' ⟨rfl, n, rfl⟩) | (go_at_call 8; refine (refBetween_any _ _ _ (by omega) (by omega)).mono ?_; rintro e w' ⟨rfl, n, rfl⟩) | (go_at_call 9; refine (less_any _ _ _ (by omega) (by omega)).mono ?_; rintro e w' ⟨rfl, n, rfl⟩) | (go_at_call 10; refine (right_any _ _ (by omega)).mono ?_; rintro e w' ⟨rfl, rfl⟩))
        go_ret
        exact ⟨rfl, _, by first | rfl | (simp only [World.drewN_drewN]; rfl)⟩
      · have e4 : ((x.size : Int) != ((btw a b).size : Int)) = false := by rw [h4]; simp
        have e5 : decide ((b.size : Int) ≤ 16) = false := by simpa using h5
        clear h4 h5 es16
        go_enter Try.func3, Try.ntmps3
        go_wp2_with (first | (go_at_call 6; refine (keyAwake_any _).mono ?_; rintro e w' ⟨rfl, n, rfl⟩) | (go_at_call 7; refine (between_any _ _ _ (by omega) (by omega)).mono ?_; rintro e w' ⟨rfl, n, rfl⟩) | (go_at_call 8; refine (refBetween_any _ _ _ (by omega) (by omega)).mono ?_; rintro e w' ⟨rfl, n, rfl⟩) | (go_at_call 9; refine (less_any _ _ _ (by omega) (by omega)).mono ?_; rintro e w' ⟨rfl, n, rfl⟩) | (go_at_call 10; refine (right_any _ _ (by omega)).mono ?_; rintro e w' ⟨rfl, rfl⟩))
        go_ret
        exact ⟨rfl, _, by first | rfl | (simp only [World.drewN_drewN]; rfl)⟩
      · have e4 : ((x.size : Int) != ((btw a b).size : Int)) = true := by rw [bne_iff_ne]; exact h4
        have e5 : decide ((b.size : Int) ≤ 16) = true := by simpa using h5
        have e6 : decide (((btw a b).size : Int) ≤ 16) = true := by simpa using es16 h5
        clear h4 h5 es16
        go_enter Try.func3, Try.ntmps3
        go_wp2_with (first | (go_at_call 6; refine (keyAwake_any _).mono ?_; rintro e w' ⟨rfl, n, rfl⟩) | (go_at_call 7; refine (between_any _ _ _ (by omega) (by omega)).mono ?_; rintro e w' ⟨rfl, n, rfl⟩) | (go_at_call 8; refine (refBetween_any _ _ _ (by omega) (by omega)).mono ?_; rintro e w' ⟨rfl, n, rfl⟩) | (go_at_call 9; refine (less_any _ _ _ (by omega) (by omega)).mono ?_; rintro e w' ⟨rfl, n, rfl⟩) | (go_at_call 10; refine (right_any _ _ (by omega)).mono ?_; rintro e w' ⟨rfl, rfl⟩))
        go_ret
        exact ⟨rfl, _, by first | rfl | (simp only [World.drewN_drewN]; rfl)⟩
      · have e4 : ((x.size : Int) != ((btw a b).size : Int)) = true := by rw [bne_iff_ne]; exact h4
        have e5 : decide ((b.size : Int) ≤ 16) = false := by simpa using h5
        clear h4 h5 es16
        go_enter Try.func3, Try.ntmps3
        go_wp2_with (first | (go_at_call 6; refine (keyAwake_any _).mono ?_; rintro e w' ⟨rfl, n, rfl⟩) | (go_at_call 7; refine (between_any _ _ _ (by omega) (by omega)).mono ?_; rintro e w' ⟨rfl, n, rfl⟩) | (go_at_call 8; refine (refBetween_any _ _ _ (by omega) (by omega)).mono ?_; rintro e w' ⟨rfl, n, rfl⟩) | (go_at_call 9; refine (less_any _ _ _ (by omega) (by omega)).mono ?_; rintro e w' ⟨rfl, n, rfl⟩) | (go_at_call 10; refine (right_any _ _ (by omega)).mono ?_; rintro e w' ⟨rfl, rfl⟩))
        go_ret
        exact ⟨rfl, _, by first | rfl | (simp only [World.drewN_drewN]; rfl)⟩
    · rcases h3 : bytesLess b.data.toList x.data.toList
      · have h6 := HI.out h2 h3
        have e7 : decide ((btw a b).size ≤ x.size) = true := by have h := HS.out; have h' := h6.1; simp; omega
        by_cases h4 : (x.size : Int) = ((btw a b).size : Int)
        all_goals by_cases h5 : (b.size : Int) ≤ 16
        · have e8 := h6.2 (by have h := HS.out; omega)
          have e4 : ((x.size : Int) != ((btw a b).size : Int)) = false := by rw [h4]; simp
          have e5 : decide ((b.size : Int) ≤ 16) = true := by simpa using h5
          have e6 : decide (((btw a b).size : Int) ≤ 16) = true := by simpa using es16 h5
          clear h4 h5 es16 h6
          go_enter Try.func3, Try.ntmps3
          go_wp2_with (first | (go_at_call 6; refine (keyAwake_any _).mono ?_; rintro e w' ⟨rfl, n, rfl⟩) | (go_at_call 7; refine (between_any _ _ _ (by omega) (by omega)).mono ?_; rintro e w' ⟨rfl, n, rfl⟩) | (go_at_call 8; refine (refBetween_any _ _ _ (by omega) (by omega)).mono ?_; rintro e w' ⟨rfl, n, rfl⟩) | (go_at_call 9; refine (less_any _ _ _ (by omega) (by omega)).mono ?_; rintro e w' ⟨rfl, n, rfl⟩) | (go_at_call 10; refine (right_any _ _ (by omega)).mono ?_; rintro e w' ⟨rfl, rfl⟩))
          go_ret
          exact ⟨rfl, _, by first | rfl | (simp only [World.drewN_drewN]; rfl)⟩
        · have e8 := h6.2 (by have h := HS.out; omega)
          have e4 : ((x.size : Int) != ((btw a b).size : Int)) = false := by rw [h4]; simp
          have e5 : decide ((b.size : Int) ≤ 16) = false := by simpa using h5
          clear h4 h5 es16 h6
          go_enter Try.func3, Try.ntmps3
          go_wp2_with (first | (go_at_call 6; refine (keyAwake_any _).mono ?_; rintro e w' ⟨rfl, n, rfl⟩) | (go_at_call 7; refine (between_any _ _ _ (by omega) (by omega)).mono ?_; rintro e w' ⟨rfl, n, rfl⟩) | (go_at_call 8; refine (refBetween_any _ _ _ (by omega) (by omega)).mono ?_; rintro e w' ⟨rfl, n, rfl⟩) | (go_at_call 9; refine (less_any _ _ _ (by omega) (by omega)).mono ?_; rintro e w' ⟨rfl, n, rfl⟩) | (go_at_call 10; refine (right_any _ _ (by omega)).mono ?_; rintro e w' ⟨rfl, rfl⟩))
          go_ret
          exact ⟨rfl, _, by first | rfl | (simp only [World.drewN_drewN]; rfl)⟩
        · have e4 : ((x.size : Int) != ((btw a b).size : Int)) = true := by rw [bne_iff_ne]; exact h4
          have e5 : decide ((b.size : Int) ≤ 16) = true := by simpa using h5
          have e6 : decide (((btw a b).size : Int) ≤ 16) = true := by simpa using es16 h5
          clear h4 h5 es16 h6
          go_enter Try.func3, Try.ntmps3
          go_wp2_with (first | (go_at_call 6; refine (keyAwake_any _).mono ?_; rintro e w' ⟨rfl, n, rfl⟩) | (go_at_call 7; refine (between_any _ _ _ (by omega) (by omega)).mono ?_; rintro e w' ⟨rfl, n, rfl⟩) | (go_at_call 8; refine (refBetween_any _ _ _ (by omega) (by omega)).mono ?_; rintro e w' ⟨rfl, n, rfl⟩) | (go_at_call 9; refine (less_any _ _ _ (by omega) (by omega)).mono ?_; rintro e w' ⟨rfl, n, rfl⟩) | (go_at_call 10; refine (right_any _ _ (by omega)).mono ?_; rintro e w' ⟨rfl, rfl⟩))
          go_ret
          exact ⟨rfl, _, by first | rfl | (simp only [World.drewN_drewN]; rfl)⟩
        · have e4 : ((x.size : Int) != ((btw a b).size : Int)) = true := by rw [bne_iff_ne]; exact h4
          have e5 : decide ((b.size : Int) ≤ 16) = false := by simpa using h5
          clear h4 h5 es16 h6
          go_enter Try.func3, Try.ntmps3
          go_wp2_with (first | (go_at_call 6; refine (keyAwake_any _).mono ?_; rintro e w' ⟨rfl, n, rfl⟩) | (go_at_call 7; refine (between_any _ _ _ (by omega) (by omega)).mono ?_; rintro e w' ⟨rfl, n, rfl⟩) | (go_at_call 8; refine (refBetween_any _ _ _ (by omega) (by omega)).mono ?_; rintro e w' ⟨rfl, n, rfl⟩) | (go_at_call 9; refine (less_any _ _ _ (by omega) (by omega)).mono ?_; rintro e w' ⟨rfl, n, rfl⟩) | (go_at_call 10; refine (right_any _ _ (by omega)).mono ?_; rintro e w' ⟨rfl, rfl⟩))
          go_ret
          exact ⟨rfl, _, by first | rfl | (simp only [World.drewN_drewN]; rfl)⟩
      · by_cases h4 : (x.size : Int) = ((btw a b).size : Int)
        all_goals by_cases h5 : (b.size : Int) ≤ 16
        · have e4 : ((x.size : Int) != ((btw a b).size : Int)) = false := by rw [h4]; simp
          have e5 : decide ((b.size : Int) ≤ 16) = true := by simpa using h5
          have e6 : decide (((btw a b).size : Int) ≤ 16) = true := by simpa using es16 h5
          clear h4 h5 es16
          go_enter Try.func3, Try.ntmps3
          go_wp2_with (first | (go_at_call 6; refine (keyAwake_any _).mono ?_; rintro e w' ⟨rfl, n, rfl⟩) | (go_at_call 7; refine (between_any _ _ _ (by omega) (by omega)).mono ?_; rintro e w' ⟨rfl, n, rfl⟩) | (go_at_call 8; refine (refBetween_any _ _ _ (by omega) (by omega)).mono ?_; rintro e w' ⟨rfl, n, rfl⟩) | (go_at_call 9; refine (less_any _ _ _ (by omega) (by omega)).mono ?_; rintro e w' ⟨rfl, n, rfl⟩) | (go_at_call 10; refine (right_any _ _ (by omega)).mono ?_; rintro e w' ⟨rfl, rfl⟩))
          go_ret
          exact ⟨rfl, _, by first | rfl | (simp only [World.drewN_drewN]; rfl)⟩
        · have e4 : ((x.size : Int) != ((btw a b).size : Int)) = false := by rw [h4]; simp
          have e5 : decide ((b.size : Int) ≤ 16) = false := by simpa using h5
          clear h4 h5 es16
          go_enter Try.func3, Try.ntmps3
          go_wp2_with (first | (go_at_call 6; refine (keyAwake_any _).mono ?_; rintro e w' ⟨rfl, n, rfl⟩) | (go_at_call 7; refine (between_any _ _ _ (by omega) (by omega)).mono ?_; rintro e w' ⟨rfl, n, rfl⟩) | (go_at_call 8; refine (refBetween_any _ _ _ (by omega) (by omega)).mono ?_; rintro e w' ⟨rfl, n, rfl⟩) | (go_at_call 9; refine (less_any _ _ _ (by omega) (by omega)).mono ?_; rintro e w' ⟨rfl, n, rfl⟩) | (go_at_call 10; refine (right_any _ _ (by omega)).mono ?_; rintro e w' ⟨rfl, rfl⟩))
          go_ret
          exact ⟨rfl, _, by first | rfl | (simp only [World.drewN_drewN]; rfl)⟩
        · have e4 : ((x.size : Int) != ((btw a b).size : Int)) = true := by rw [bne_iff_ne]; exact h4
          have e5 : decide ((b.size : Int) ≤ 16) = true := by simpa using h5
          have e6 : decide (((btw a b).size : Int) ≤ 16) = true := by simpa using es16 h5
          clear h4 h5 es16
          go_enter Try.func3, Try.ntmps3
          go_wp2_with (first | (go_at_call 6; refine (keyAwake_any _).mono ?_; rintro e w' ⟨rfl, n, rfl⟩) | (go_at_call 7; refine (between_any _ _ _ (by omega) (by omega)).mono ?_; rintro e w' ⟨rfl, n, rfl⟩) | (go_at_call 8; refine (refBetween_any _ _ _ (by omega) (by omega)).mono ?_; rintro e w' ⟨rfl, n, rfl⟩) | (go_at_call 9; refine (less_any _ _ _ (by omega) (by omega)).mono ?_; rintro e w' ⟨rfl, n, rfl⟩) | (go_at_call 10; refine (right_any _ _ (by omega)).mono ?_; rintro e w' ⟨rfl, rfl⟩))
          go_ret
          exact ⟨rfl, _, by first | rfl | (simp only [World.drewN_drewN]; rfl)⟩
        · have e4 : ((x.size : Int) != ((btw a b).size : Int)) = true := by rw [bne_iff_ne]; exact h4
          have e5 : decide ((b.size : Int) ≤ 16) = false := by simpa using h5
          clear h4 h5 es16
          go_enter Try.func3, Try.ntmps3
          go_wp2_with (first | (go_at_call 6; refine (keyAwake_any _).mono ?_; rintro e w' ⟨rfl, n, rfl⟩) | (go_at_call 7; refine (between_any _ _ _ (by omega) (by omega)).mono ?_; rintro e w' ⟨rfl, n, rfl⟩) | (go_at_call 8; refine (refBetween_any _ _ _ (by omega) (by omega)).mono ?_; rintro e w' ⟨rfl, n, rfl⟩) | (go_at_call 9; refine (less_any _ _ _ (by omega) (by omega)).mono ?_; rintro e w' ⟨rfl, n, rfl⟩) | (go_at_call 10; refine (right_any _ _ (by omega)).mono ?_; rintro e w' ⟨rfl, rfl⟩))
          go_ret
          exact ⟨rfl, _, by first | rfl | (simp only [World.drewN_drewN]; rfl)⟩
end Go.Proofs.Ytdcfbiakgfpcmaa
