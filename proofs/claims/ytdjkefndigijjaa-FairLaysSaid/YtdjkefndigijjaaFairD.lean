/-
  The walks of layer 45 (fair), fourth part: orders that are not laid, Spread, and the document's own spread.
-/
import Derived.Test.YtdjkefndigijjaaFairC
namespace Go.Proofs.Ytdjkefndigijjaa
open Go.RowKit Go.Lib Go.Maps
set_option linter.unusedVariables false

set_option maxRecDepth 100000 in
theorem laid_none (t r : Int) (v : Value) (w : World) (h : mayB t r = false) :
    Calls Try.prog 77 #[.int .i64 t, .int .i64 r, v] w fun e w' => e = .returned (.slice none 0 0) ∧ w = w' := by
  go_enter Try.func77, Try.ntmps77
  go_wp2_with fail
  refine (may_any _ _ _).mono ?_
  rintro e w' ⟨rfl, rfl⟩
  rw [h]
  go_wp2_with fail
  go_ret
  exact ⟨rfl, rfl⟩

set_option maxRecDepth 100000 in
theorem round_none (t r : Int) (w : World) (h : mayB t r = false) :
    Calls Try.prog 22 #[.int .i64 t, .int .i64 r] w fun e w' => e = .returned (.slice none 0 0) ∧ w = w' := by
  go_enter Try.func22, Try.ntmps22
  go_wp2_with fail
  refine (laid_none _ _ _ _ h).mono ?_
  rintro e w' ⟨rfl, rfl⟩
  go_wp2_with fail
  go_ret
  exact ⟨rfl, rfl⟩

set_option maxRecDepth 100000 in
theorem spread_none (x t r : Int) (w : World) (h : mayB t r = false) :
    Calls Try.prog 23 #[.int .u64 x, .int .i64 t, .int .i64 r] w fun e w' => e = .returned (.slice none 0 0) ∧ Below w.heap.size w w' := by
  go_enter Try.func23, Try.ntmps23
  go_wp2_with fail
  refine (laid_none _ _ _ _ h).mono ?_
  rintro e w' ⟨rfl, rfl⟩
  go_wp2_with fail
  go_ret
  exact ⟨rfl, (Below.refl _ _).alloc (Nat.le_refl _) _⟩

theorem alloc_lt (w : World) (o : Obj) : w.heap.size < (w.alloc o).heap.size := by simp

set_option maxRecDepth 100000 in
theorem spread_any (x : Int) (m r : Nat) (w : World) (h : mayB ((m + 1 : Nat) : Int) r = true) (hx : 0 ≤ x) :
    Calls Try.prog 23 #[.int .u64 x, .int .i64 ((m + 1 : Nat) : Int), .int .i64 r] w fun e w' => (∃ v', e = .returned v' ∧ Own intE 3 w' w.heap.size v' (spread m r x).2) ∧ Below w.heap.size w w' := by
  obtain ⟨n, hn⟩ : ∃ n : Nat, m + 1 = n := ⟨_, rfl⟩
  have H := Lib.hid (fun w0 => laidSpread_any m r w.heap.size x w0 h)
  rw [hn] at H ⊢
  clear hn
  go_enter Try.func23, Try.ntmps23
  go_wp2_with fail
  refine (H.out (w.alloc (.cells #[.int .u64 x] 106)) ?_ ?_ hx ?_).mono ?_
  · exact (World.cell?_alloc_at _ _ _ _ rfl).trans rfl
  · exact World.frozen?_alloc_at _ _ _ _ rfl
  · exact alloc_lt w _
  rintro e w' ⟨⟨v', rfl, ho⟩, hb⟩
  have ho' : Own intE 3 w' w.heap.size v' (spread m r x).2 := by
    refine ⟨ho.1, ?_⟩
    rcases ho.2 with h | ⟨g, cap, cur, h1, h2, h3⟩
    · exact .inl h
    · exact .inr ⟨g, cap, cur, h1, by simp at h2; omega, h3⟩
  have hb' : Below w.heap.size w w' := ((Below.refl _ _).alloc (Nat.le_refl _) _).trans hb
  clear ho hb
  go_wp2_with fail
  go_ret
  exact ⟨⟨v', rfl, ho'⟩, hb'⟩

set_option maxRecDepth 100000 in
theorem refMay_any (t r : Int) (w : World) : Calls Try.prog 24 #[.int .i64 t, .int .i64 r] w fun e w' => e = .returned (.bool (mayB t r)) ∧ w = w' := by
  by_cases h1 : 1 ≤ t
  · by_cases h2 : 1 ≤ r
    · by_cases h3 : t ≤ 510
      · by_cases h4 : r ≤ 10000
        · obtain ⟨hb1, hb2⟩ := mul_bounds h1 h2 h3 h4
          have H : Hid (mayB t r = decide (t * r ≤ 100000)) := by
            show mayB t r = _
            simp [mayB, h1, h2, h3, h4]
          go_enter Try.func24, Try.ntmps24
          go_wp2_with fail
          all_goals (go_ret; exact ⟨by rw [H.out]; first | rfl | (simp [*]; done), rfl⟩)
        · have H : Hid (mayB t r = false) := by show mayB t r = _; simp [mayB]; omega
          go_enter Try.func24, Try.ntmps24
          go_wp2_with fail
          go_ret
          exact ⟨by rw [H.out]; rfl, rfl⟩
      · have H : Hid (mayB t r = false) := by show mayB t r = _; simp [mayB]; omega
        go_enter Try.func24, Try.ntmps24
        go_wp2_with fail
        go_ret
        exact ⟨by rw [H.out]; rfl, rfl⟩
    · have H : Hid (mayB t r = false) := by show mayB t r = _; simp [mayB]; omega
      go_enter Try.func24, Try.ntmps24
      go_wp2_with fail
      go_ret
      exact ⟨by rw [H.out]; rfl, rfl⟩
  · have H : Hid (mayB t r = false) := by show mayB t r = _; simp [mayB]; omega
    go_enter Try.func24, Try.ntmps24
    go_wp2_with fail
    go_ret
    exact ⟨by rw [H.out]; rfl, rfl⟩

theorem shuf_pos : ∀ (k : Nat) (x : Int) (l : List Int), 0 ≤ x → 0 ≤ (shuf k x l).1
  | 0, _, _, h => h
  | k + 1, x, l, _ => shuf_pos k _ _ (stp_pos x)
theorem spread_pos (m : Nat) (x : Int) (h : 0 ≤ x) : ∀ r, 0 ≤ (spread m r x).1
  | 0 => h
  | r + 1 => shuf_pos _ _ _ (spread_pos m x h r)
theorem u64_in (n : Int) (h : 0 ≤ n ∧ n ≤ 18446744073709551615) : IntKind.u64.wrap n = n := by
  simp only [IntKind.wrap, IntKind.bits, IntKind.signed, Bool.false_and, Bool.false_eq_true, if_false]
  exact Int.emod_eq_of_lt h.1 (by omega)
theorem stp_range (x : Int) : 0 ≤ stp x ∧ stp x ≤ 18446744073709551615 := by
  refine ⟨stp_pos x, ?_⟩
  unfold stp
  generalize IntKind.u64.wrap (x * 6364136223846793005) + 1442695040888963407 = z
  simp only [IntKind.wrap, IntKind.bits, IntKind.signed, Bool.false_and, Bool.false_eq_true, if_false]
  omega

set_option maxRecDepth 100000 in
set_option maxHeartbeats 4000000 in
theorem refSpread_any (m r : Nat) (x : Int) (w : World) (h : mayB ((m + 1 : Nat) : Int) r = true) (hx : 0 ≤ x) :
    Calls Try.prog 25 #[.int .u64 x, .int .i64 ((m + 1 : Nat) : Int), .int .i64 r] w fun e w' => (∃ v', e = .returned v' ∧ Own intE 3 w' w.heap.size v' (spread m r x).2) ∧ Below w.heap.size w w' := by
  have hm := h
  simp only [mayB, decide_eq_true_eq] at hm
  obtain ⟨h1, h2, h3, h4, h5⟩ := hm
  obtain ⟨i0, hi, hz0, hz1, hz2⟩ := info_parts infoInt
  have hrn : r * (m + 1) ≤ 100000 := by
    have e : ((r * (m + 1) : Nat) : Int) = ((m + 1 : Nat) : Int) * r := by rw [Int.natCast_mul, Int.mul_comm]
    omega
  have HRN := Lib.hid hrn
  clear h5 hrn h
  obtain ⟨n, hn⟩ : ∃ n : Nat, m + 1 = n := ⟨_, rfl⟩
  rw [hn] at h1 h3 ⊢
  have hmn : m + 1 ≤ n := by omega
  have hnm : n ≤ m + 1 := by omega
  have HN := Lib.hid hn
  clear hn
  go_enter Try.func25, Try.ntmps25
  go_wp2_with fail
  go_loopw [0, 7, 8] (fun sd o i wr => ∃ k : Nat, sd = .int .u64 (spread m k x).1 ∧ i = .int .i64 k ∧ k ≤ r ∧ Hid (Own intE 3 wr w.heap.size o (spread m k x).2) ∧ Hid (Below w.heap.size w wr)) (fun _ _ i _ => r - (intOf i).toNat)
  case atStart => exact ⟨0, rfl, rfl, Nat.zero_le _, World.ownsRow_nil _ _ _ _, Below.refl _ _⟩
  case round =>
    obtain ⟨k, rfl, rfl, hk, HO, HB⟩ := hrel
    have hbs : w.heap.size ≤ wr.heap.size := HB.out.size
    by_cases h6 : k < r
    · go_wp2_with (at_make; refine wpList_make_full _ rfl _ _ 22 rfl wr.heap.size 3 i0 (.int .i64 0) 1 Try.underlying22 hi hz0 hz1 .i64 .i64 n n n rfl rfl rfl rfl ?b1 ?b2 ?b3 ?_)
      case b1 => rw [hz2]; omega
      case b2 => unfold maxLen; omega
      case b3 => exact Nat.le_refl _
      intro w1 hown hgrow
      have HM : Hid (Own intE 3 w1 wr.heap.size (.slice (some ⟨wr.heap.size, 0, none⟩) n n) (filled n 0)) := by
        show Own _ _ _ _ _ _
        rw [filled_zero]; exact Own.made_int hown
      have HB1 : Hid (Below wr.heap.size wr w1) := (Below.refl _ _).grown hgrow (Nat.le_refl _) (by simp)
      obtain ⟨N, hN⟩ : ∃ N : Nat, wr.heap.size = N := ⟨_, rfl⟩
      obtain ⟨wo, hwo⟩ : ∃ wo : World, wo = wr := ⟨_, rfl⟩
      have HNs := Lib.hid hN
      rw [hN] at HM HB1 hbs
      rw [hN]
      rw [← hwo] at HB1 HO HB HNs
      have HWO := Lib.hid hwo
      clear hown hgrow hN hwo
      have HXP : Hid (0 ≤ (spread m k x).1) := spread_pos m x hx k
      obtain ⟨X, hX⟩ : ∃ X : Int, (spread m k x).1 = X := ⟨_, rfl⟩
      have HX := Lib.hid hX
      rw [hX] at HXP ⊢
      clear hX
      go_wp2_with fail
      go_loopw [10] (fun i wi => ∃ q : Nat, i = .int .i64 q ∧ q ≤ n ∧ Hid (Own intE 3 wi N (.slice (some ⟨N, 0, none⟩) n n) (filled n q)) ∧ Hid (Below N wo wi)) (fun i _ => n - (intOf i).toNat)
      case atStart => exact ⟨0, rfl, Nat.zero_le _, HM.out, HB1.out⟩
      case round =>
        obtain ⟨q, rfl, hqn, HM1, HB2⟩ := hrel
        clear HM HB1
        by_cases h7 : q < n
        · have hl := filled_length n q
          have ho1 : Own intE 3 wr N (.slice (some ⟨N, 0, none⟩) (filled n q).length n) (filled n q) := by rw [hl]; exact HM1.out
          have hcm := Own.cell1 (E := intE) rfl ho1 (filled_get n q q h7) rfl
          have hfm := Own.frozen1 ho1 rfl q
          have HN1 : Hid (Own intE 3 (wr.setCell ⟨N, q, none⟩ (.int .i64 q)) N (.slice (some ⟨N, 0, none⟩) n n) (filled n (q + 1))) := by
            have h := Own.stored1 (E := intE) rfl ho1 q (a := (q : Int)) rfl
            rw [List.length_set, hl, filled_set n q h7] at h
            exact h
          have HB3 : Hid (Below N wo (wr.setCell ⟨N, q, none⟩ (.int .i64 q))) := HB2.out.setCell (Nat.le_refl _) _
          clear ho1 hl
          go_wp2_with fail
          go_roundw
          case rel => exact ⟨q + 1, by go_num, by omega, HN1.out, HB3.out⟩
          case measure => simp [intOf]; omega
        · have HM2 : Hid (Own intE 3 wr N (.slice (some ⟨N, 0, none⟩) n n) (upto (m + 1))) := by
            have h := HM1.out
            rw [filled_all n q (by omega)] at h
            rw [HN.out]
            exact h
          have ew0 : IntKind.i64.wrap ((n : Int) - 1) = (m : Int) := by
            have e : (n : Int) - 1 = m := by omega
            rw [e]
            exact IntWalk.i64_in _ (by omega)
          clear HM1
          have hq : q = n := by omega
          clear h7 hqn
          subst hq
          go_wp2_with fail
          have hX0 : Hid (0 ≤ X) := HXP.out
          have hul := upto_length (m + 1)
          go_loopw [0, 11] (fun sd i wi => ∃ (kk : Nat) (y : Int) (l : List Int), sd = .int .u64 y ∧ i = .int .i64 kk ∧ kk ≤ m ∧ Hid (Own intE 3 wi N (.slice (some ⟨N, 0, none⟩) q q) l) ∧ Hid (l.length = m + 1) ∧ Hid (shuf kk y l = shuf m X (upto (m + 1))) ∧ Hid (Below N wo wi)) (fun _ i _ => (intOf i).toNat)
          case atStart => exact ⟨m, X, _, rfl, rfl, Nat.le_refl _, HM2.out, hul, rfl, HB2.out⟩
          case round =>
            obtain ⟨kk, y, l, rfl, rfl, hkk, HO1, HL1, HS1, HB3⟩ := hrel
            clear HM2 HB2
            cases kk with
            | zero =>
              have HR : Hid (shuf m X (upto (m + 1)) = (y, l)) := HS1.out.symm
              have hbw : N ≤ wr.heap.size := by have := HB3.out.size; rw [HNs.out] at this; exact this
              have hknm : k * (m + 1) + (m + 1) ≤ 100000 := by
                have h := HRN.out
                have h' : (k + 1) * (m + 1) ≤ r * (m + 1) := Nat.mul_le_mul_right _ (by omega)
                rw [Nat.succ_mul] at h'
                omega
              have HTL : Hid ((spread m k x).2.length = k * (m + 1)) := spread_length m x k
              have HO3 : Hid (Own intE 3 wr w.heap.size u7 (spread m k x).2) := HO.out.mono (by rw [HNs.out]; exact HB3.out)
              have hsl : l.length = q := by rw [HL1.out]; omega
              have HE1 : Hid ((spread m (k + 1) x).1 = y) := by
                show (shuf m (spread m k x).1 (upto (m + 1))).1 = y
                rw [HX.out, HR.out]
              have HE2 : Hid ((spread m (k + 1) x).2 = (spread m k x).2 ++ l) := by
                show (spread m k x).2 ++ (shuf m (spread m k x).1 (upto (m + 1))).2 = _
                rw [HX.out, HR.out]
              clear HO
              go_wp2_with (at_builtin; refine wpList_append_own _ rfl _ _ 22 rfl w.heap.size 3 i0 (.int .i64 0) 1 8 Try.underlying22 hi hz0 hz1 hz2 rfl (by decide) _ _ _ rfl HO3.out ⟨N, 0, none⟩ q q (intE.flat l) rfl ?c0 HO1.out.news (intE_one _) ?c3 ?c4 ?c5 ?_)
              case c0 => rw [intE.flat_length, hsl]; rfl
              case c3 => unfold maxLen; rw [HTL.out]; omega
              case c4 => rw [HTL.out]; omega
              case c5 => omega
              intro v' w3 hown' hgrow' _
              have HO4 : Hid (Own intE 3 w3 w.heap.size v' (spread m (k + 1) x).2) := by
                show Own _ _ _ _ _ _
                rw [HE2.out]
                exact own_append (by rw [hsl]; exact hown')
              have HB4 : Hid (Below w.heap.size w w3) := (HB.out.trans (HB3.out.mono hbs)).grown hgrow' (by omega) (fun j hj => (HO3.out.lt j hj).1)
              clear hown' hgrow'
              go_wp2_with fail
              go_roundw
              case rel => exact ⟨k + 1, by rw [HE1.out], by go_num, by omega, HO4.out, HB4.out⟩
              case measure => simp [intOf]; omega
            | succ kk =>
              have hjl := die_lt y (kk + 2) (by omega)
              obtain ⟨j, hj⟩ : ∃ j : Nat, die y (kk + 2) = j := ⟨_, rfl⟩
              have HS2 : Hid (shuf kk (stp y) (swp l (kk + 1) j) = shuf m X (upto (m + 1))) := by rw [← HS1.out, ← hj]; rfl
              have HP2 : Hid (0 ≤ stp y) := stp_pos y
              have hde : wrap64 ((IntKind.u64.wrap ((IntKind.u64.wrap (IntKind.u64.wrap (y * 6364136223846793005) + 1442695040888963407)).tdiv 8589934592)).tmod ((kk : Int) + 1 + 1)) = (j : Int) := by
                rw [← hj, ← die_eq y (kk + 2) (by omega) (by omega)]
                have hs := stp_range y
                show wrap64 ((IntKind.u64.wrap ((stp y).tdiv 8589934592)).tmod ((kk : Int) + 1 + 1)) = _
                rw [Int.tdiv_eq_ediv_of_nonneg hs.1, u64_in (stp y / 8589934592) ⟨by omega, by omega⟩]
                rfl
              rw [hj] at hjl
              have hrl := HL1.out
              have hgk : ∀ i : Nat, i < m + 1 → l[i]? = some (l.getD i 0) := fun i hi => getD_some (by rw [hrl]; exact hi)
              have HO2 : Hid (Own intE 3 wr N (.slice (some ⟨N, 0, none⟩) l.length q) l) := by
                show Own _ _ _ _ _ _
                have e : l.length = q := by omega
                rw [e]
                exact HO1.out
              have hck := Own.cell1 (E := intE) rfl HO2.out (hgk (kk + 1) (by omega)) rfl
              have hcj := Own.cell1 (E := intE) rfl HO2.out (hgk j (by omega)) rfl
              have hfk := Own.frozen1 HO2.out rfl (kk + 1)
              have hfj := Own.frozen1 HO2.out rfl j
              have HO3 : Hid (Own intE 3 ((wr.setCell ⟨N, kk + 1, none⟩ (.int .i64 (l.getD j 0))).setCell ⟨N, j, none⟩ (.int .i64 (l.getD (kk + 1) 0))) N (.slice (some ⟨N, 0, none⟩) q q) (swp l (kk + 1) j)) := by
                have h1 := Own.stored1 (E := intE) rfl HO2.out (kk + 1) (a := l.getD j 0) rfl
                have h2 := Own.stored1 (E := intE) rfl h1 j (a := l.getD (kk + 1) 0) rfl
                rw [List.length_set, List.length_set] at h2
                have e : l.length = q := by omega
                rw [e] at h2
                exact h2
              have HL2 : Hid ((swp l (kk + 1) j).length = m + 1) := by rw [swp_length]; exact hrl
              have HB4 : Hid (Below N wo ((wr.setCell ⟨N, kk + 1, none⟩ (.int .i64 (l.getD j 0))).setCell ⟨N, j, none⟩ (.int .i64 (l.getD (kk + 1) 0)))) := (HB3.out.setCell (Nat.le_refl _) _).setCell (Nat.le_refl _) _
              have HL0 := Lib.hid hrl
              have HJ := Lib.hid hj
              clear hgk hrl hj
              have ew1 : IntKind.i64.wrap ((kk : Int) + 1 - 1) = (kk : Int) := by
                have e : (kk : Int) + 1 - 1 = kk := by omega
                rw [e]
                exact IntWalk.i64_in _ (by omega)
              by_cases hjk : j = kk + 1
              · subst hjk
                generalize l.getD (kk + 1) 0 = xk at *
                have hc2 : (wr.setCell ⟨N, kk + 1, none⟩ (.int .i64 xk)).cell? ⟨N, kk + 1, none⟩ = some (.int .i64 xk) := World.cell?_setCell_same _ _ _ hck
                clear hcj hfj
                go_wp2_with fail
                go_roundw
                case rel => exact ⟨kk, stp y, _, rfl, rfl, by omega, HO3.out, HL2.out, HS2.out, HB4.out⟩
                case measure => simp [intOf]
              · have hne : ¬ kk + 1 = j := fun e => hjk e.symm
                generalize l.getD j 0 = xj at *
                generalize l.getD (kk + 1) 0 = xk at *
                go_wp2_with fail
                go_roundw
                case rel => exact ⟨kk, stp y, _, rfl, rfl, by omega, HO3.out, HL2.out, HS2.out, HB4.out⟩
                case measure => simp [intOf]
    · have e : k = r := by omega
      have HE := Lib.hid e
      clear e
      go_wp2_with fail
      go_ret
      have h8 := HO.out
      rw [HE.out] at h8
      exact ⟨⟨_, rfl, h8⟩, HB.out⟩
end Go.Proofs.Ytdjkefndigijjaa
