/-
  The walk of FairLays.
-/
import Derived.Test.YtdjkefndigijjaaFairE
namespace Go.Proofs.Ytdjkefndigijjaa
open Go.RowKit Go.Lib Go.Maps
set_option linter.unusedVariables false

theorem Own.block {α : Type} {E : Enc α} {t : TypeId} {w : World} {base : Nat} {v : Value} {l : List α} (h : Own E t w base v l) (hn : 0 < l.length) : ∃ g cap, v = .slice (some ⟨g, 0, none⟩) l.length cap := by
  rcases h.2 with h' | ⟨g, cap, cur, h1, h2⟩
  · have := h'.2
    omega
  · exact ⟨g, cap, h1⟩

theorem Blk.sl {n r : Nat} {l : List Int} (h : Blk n r l) (hn : n ≤ 510) (hr : r * n ≤ 100000) {t : TypeId} {w : World} {base : Nat} {v : Value} (ho : Own intE t w base v l) : Sl intE w v l :=
  Sl.of_own (ints_ok _ (h.ok hn)) (by rw [h.length]; omega) ho

set_option maxRecDepth 100000 in
set_option maxHeartbeats 4000000 in
theorem fairLays_walk (x t r : Int) (w : World) (hx : 0 ≤ x ∧ x ≤ 18446744073709551615) (ht : -9223372036854775808 ≤ t ∧ t ≤ 9223372036854775807) (hr : -9223372036854775808 ≤ r ∧ r ≤ 9223372036854775807) :
    Calls Try.prog 5 #[.int .u64 x, .int .i64 t, .int .i64 r] w fun e w' => e = .returned (.bool true) ∧ Below w.heap.size w w' := by
  cases hm : mayB t r with
  | false =>
    have HM := Lib.hid hm
    clear hm
    go_enter Try.func5, Try.ntmps5
    go_wp2_with fail
    refine (round_none _ _ _ HM.out).mono ?_
    rintro e w1 ⟨rfl, rfl⟩
    go_wp2_with fail
    refine (spread_none _ _ _ _ HM.out).mono ?_
    rintro e w1 ⟨rfl, hb⟩
    have HB := Lib.hid hb; clear hb
    go_wp2_with fail
    refine (refMay_any _ _ _).mono ?_
    rintro e w2 ⟨rfl, rfl⟩
    rw [HM.out]
    go_wp2_with fail
    refine (fairAwake_any _).mono ?_
    rintro e w2 ⟨rfl, hb⟩
    have HB2 : Hid (Below w.heap.size w w2) := HB.out.trans (hb.mono HB.out.size)
    clear hb
    go_wp2_with fail
    go_ret
    exact ⟨rfl, HB2.out⟩
  | true =>
    have HM := Lib.hid hm
    simp only [mayB, decide_eq_true_eq] at hm
    obtain ⟨h1, h2, h3, h4, h5⟩ := hm
    obtain ⟨m, hm⟩ := Int.eq_ofNat_of_zero_le (show 0 ≤ t - 1 by omega)
    obtain rfl : t = ((m + 1 : Nat) : Int) := by omega
    obtain ⟨r, rfl⟩ := Int.eq_ofNat_of_zero_le (show 0 ≤ r by omega)
    clear hm ht hr
    have hx0 := hx.1
    clear hx
    have hrn : ((r * (m + 1) : Nat) : Int) = ((m + 1 : Nat) : Int) * r := by rw [Int.natCast_mul, Int.mul_comm]
    have HBa := Lib.hid (blk_turns (m + 1) r)
    have HBb := Lib.hid (blk_spread m x r)
    have HF1 := Lib.hid ((fp.fairB_iff _ _ _).2 (turns_fair (m + 1) r (by omega)))
    have HF2 := Lib.hid ((fp.fairB_iff _ _ _).2 (HBb.out.fair (by omega)))
    have HG := Lib.hid (turnsOf_get (m + 1) r)
    have HC1 := Lib.hid (fun w0 => round_any (m + 1) r w0 HM.out)
    have HC2 := Lib.hid (fun w0 => spread_any x m r w0 HM.out hx0)
    have HC3 := Lib.hid (fun w0 => refSpread_any m r x w0 HM.out hx0)
    have hla := turnsOf_length (m + 1) r
    have hlb := spread_length m x r
    generalize turnsOf (m + 1) r = la at *
    generalize (spread m r x).2 = lb at *
    obtain ⟨n, hn⟩ : ∃ n : Nat, m + 1 = n := ⟨_, rfl⟩
    rw [hn] at h1 h3 h5 HM hrn HBa HF1 HG HC1 hla HBb HF2 HC2 HC3 hlb ⊢
    have hn1 : 1 ≤ n := by omega
    have hn2 : n ≤ 510 := by omega
    clear hn
    obtain ⟨L, hL⟩ : ∃ L : Nat, r * n = L := ⟨_, rfl⟩
    have HLr := Lib.hid hL
    rw [hL] at hla hlb hrn HG
    have hL1 : L ≤ 100000 := by omega
    have hL0 : 0 < L := by rw [← hL]; exact Nat.mul_pos (by omega) hn1
    clear hL h5
    have hw : IntKind.i64.wrap ((n : Int) * (r : Int)) = (la.length : Int) := by
      rw [← hrn, hla]; exact IntWalk.i64_in _ (by omega)
    rw [hla] at hw
    have hbn : ((L : Int) != (L : Int)) = false := by simp
    have HLA := Lib.hid hla
    have HLB := Lib.hid hlb
    have HL1 : Hid (r * n ≤ 100000) := by show r * n ≤ 100000; rw [HLr.out]; exact hL1
    clear hla hlb
    go_enter Try.func5, Try.ntmps5
    go_wp2_with fail
    refine (HC1.out _).mono ?_
    rintro e w1 ⟨⟨v1, rfl, ho1⟩, hb1⟩
    obtain ⟨g1, c1, hv1⟩ := ho1.block (by rw [HLA.out]; exact hL0)
    rw [HLA.out] at hv1
    subst hv1
    have HO1 := Lib.hid ho1
    have HB1 := Lib.hid hb1
    clear ho1 hb1
    go_wp2_with fail
    refine (HC2.out _).mono ?_
    rintro e w2 ⟨⟨v2, rfl, ho2⟩, hb2⟩
    obtain ⟨g2, c2, hv2⟩ := ho2.block (by rw [HLB.out]; exact hL0)
    rw [HLB.out] at hv2
    subst hv2
    have HO1' : Hid (Own intE 3 w2 w.heap.size (.slice (some ⟨g1, 0, none⟩) L c1) la) := HO1.out.mono hb2
    have HO2 := Lib.hid ho2
    have HB2 : Hid (Below w.heap.size w w2) := HB1.out.trans (hb2.mono HB1.out.size)
    clear ho2 hb2 HO1 HB1
    go_wp2_with fail
    refine (refMay_any _ _ _).mono ?_
    rintro e w2' ⟨rfl, rfl⟩
    rw [HM.out]
    go_wp2_with fail
    go_loopw [41] (fun i wr => ∃ k d : Nat, i = .int .i64 k ∧ k ≤ L ∧ wr = w2.drewN d) (fun i _ => L - (intOf i).toNat)
    case atStart => exact ⟨0, 0, rfl, Nat.zero_le _, rfl⟩
    case round =>
      obtain ⟨k, d, rfl, hk, rfl⟩ := hrel
      by_cases h6 : k < L
      · have HO1d : Own intE 3 (w2.drewN d) w.heap.size (.slice (some ⟨g1, 0, none⟩) la.length c1) la := by rw [HLA.out]; exact HO1'.out.drewN d
        have hck := Own.cell1 (E := intE) rfl HO1d (HG.out k (by omega)) rfl
        clear HO1d
        have hne : (((k % n : Nat) : Int) != (k : Int) % (n : Int)) = false := by rw [Int.natCast_emod]; simp
        have hkn := Nat.mod_lt k (show 0 < n by omega)
        obtain ⟨kn, hkn'⟩ : ∃ z, k % n = z := ⟨_, rfl⟩
        rw [hkn'] at hck hne hkn
        clear hkn'
        go_wp2_with fail
        go_roundw
        case rel => exact ⟨k + 1, d, by go_num, by omega, rfl⟩
        case measure => simp [intOf]; omega
      · have HOA : Hid (Own intE 3 (w2.drewN d) w.heap.size (.slice (some ⟨g1, 0, none⟩) L c1) la) := HO1'.out.drewN d
        have HOB : Hid (Own intE 3 (w2.drewN d) w1.heap.size (.slice (some ⟨g2, 0, none⟩) L c2) lb) := HO2.out.drewN d
        have HB3 : Hid (Below w.heap.size w (w2.drewN d)) := below_drewN HB2.out d
        obtain ⟨w3, hw3⟩ : ∃ w3, w3 = w2.drewN d := ⟨_, rfl⟩
        rw [← hw3] at HOA HOB HB3 ⊢
        clear hw3 HO1' HO2 HB2
        go_wp2_with fail
        refine (HC3.out _).mono ?_
        rintro e w4 ⟨⟨v3, rfl, ho3⟩, hb3⟩
        have HOA4 := Lib.hid (HOA.out.mono hb3)
        have HOB4 := Lib.hid (HOB.out.mono hb3)
        have HO3 := Lib.hid ho3
        have HB4 : Hid (Below w.heap.size w w4) := HB3.out.trans (hb3.mono HB3.out.size)
        clear HOA HOB ho3 hb3 HB3
        have HSA := Lib.hid (HBa.out.sl hn2 HL1.out HOA4.out)
        have HSB := Lib.hid (HBb.out.sl hn2 HL1.out HOB4.out)
        have HSC := Lib.hid (HBb.out.sl hn2 HL1.out HO3.out)
        have hs3 : sameI lb lb = true := by simp [sameI]
        go_wp2_with fail
        refine (ints_any _ _ _ _ _ HSB.out HSC.out).mono ?_
        rintro e w5 ⟨rfl, d5, hw5⟩
        rw [hs3]
        have HOA5 : Hid (Own intE 3 w5 w.heap.size (.slice (some ⟨g1, 0, none⟩) L c1) la) := by rw [hw5]; exact HOA4.out.drewN d5
        have HOB5 : Hid (Own intE 3 w5 w1.heap.size (.slice (some ⟨g2, 0, none⟩) L c2) lb) := by rw [hw5]; exact HOB4.out.drewN d5
        have HB5 : Hid (Below w.heap.size w w5) := by rw [hw5]; exact below_drewN HB4.out d5
        clear hw5 HOA4 HOB4 HO3 HB4 HSA HSB HSC
        have HSA5 := Lib.hid (HBa.out.sl hn2 HL1.out HOA5.out)
        go_wp2_with fail
        refine (fair_any _ la n n _ HSA5.out (by omega) (by omega) (by omega) (by omega) (by rw [HLA.out]; omega)).mono ?_
        rintro e w6 ⟨rfl, hb6⟩
        rw [HF1.out]
        have HOA6 := Lib.hid (HOA5.out.mono hb6)
        have HOB6 := Lib.hid (HOB5.out.mono hb6)
        have HB6 : Hid (Below w.heap.size w w6) := HB5.out.trans (hb6.mono HB5.out.size)
        clear HOA5 HOB5 HB5 HSA5 hb6
        have HSB6 := Lib.hid (HBb.out.sl hn2 HL1.out HOB6.out)
        go_wp2_with fail
        refine (fair_any _ lb n (2 * (n : Int) - 1) _ HSB6.out (by omega) (by omega) (by omega) (by omega) (by rw [HLB.out]; omega)).mono ?_
        rintro e w7 ⟨rfl, hb7⟩
        rw [HF2.out]
        have HOA7 := Lib.hid (HOA6.out.mono hb7)
        have HOB7 := Lib.hid (HOB6.out.mono hb7)
        have HB7 : Hid (Below w.heap.size w w7) := HB6.out.trans (hb7.mono HB6.out.size)
        have hs7 : w.heap.size ≤ w7.heap.size := HB7.out.size
        clear HOA6 HOB6 HB6 HSB6 hb7
        have HSA7 := Lib.hid (HBa.out.sl hn2 HL1.out HOA7.out)
        go_wp2_with fail
        refine (turns_any _ la n _ HSA7.out (by omega) (by omega) (by rw [HLA.out]; omega)).mono ?_
        rintro e w8 ⟨⟨v8, rfl, ho8⟩, hb8⟩
        rw [Int.toNat_natCast, HBa.out.counts] at ho8
        obtain ⟨g8, c8, hv8⟩ := ho8.block (by rw [List.length_replicate]; omega)
        rw [List.length_replicate] at hv8
        subst hv8
        have HO8 := Lib.hid ho8
        have HOB8 := Lib.hid (HOB7.out.mono hb8)
        have HB8 : Hid (Below w.heap.size w w8) := HB7.out.trans (hb8.mono HB7.out.size)
        have hs8 : w7.heap.size ≤ w8.heap.size := hb8.size
        clear HOA7 HOB7 HB7 HSA7 hb8 ho8
        have HSB8 := Lib.hid (HBb.out.sl hn2 HL1.out HOB8.out)
        go_wp2_with fail
        refine (turns_any _ lb n _ HSB8.out (by omega) (by omega) (by rw [HLB.out]; omega)).mono ?_
        rintro e w9 ⟨⟨v9, rfl, ho9⟩, hb9⟩
        rw [Int.toNat_natCast, HBb.out.counts] at ho9
        obtain ⟨g9, c9, hv9⟩ := ho9.block (by rw [List.length_replicate]; omega)
        rw [List.length_replicate] at hv9
        subst hv9
        have HO9 := Lib.hid ho9
        have HO8' := Lib.hid (HO8.out.mono hb9)
        have HB9 : Hid (Below w.heap.size w w9) := HB8.out.trans (hb9.mono HB8.out.size)
        have hs9 : w8.heap.size ≤ w9.heap.size := hb9.size
        clear HOB8 HB8 HSB8 hb9 ho9 HO8
        obtain ⟨i0, hi, hz0, hz1, hz2⟩ := info_parts infoInt
        go_wp2_with (at_builtin; refine wpList_append_own _ rfl _ _ 22 rfl w7.heap.size 3 i0 (.int .i64 0) 1 8 Try.underlying22 hi hz0 hz1 hz2 rfl (by decide) _ _ _ rfl HO8'.out ⟨g9, 0, none⟩ n c9 (intE.flat (List.replicate n (r : Int))) rfl ?c0 HO9.out.news (intE_one _) ?c3 ?c4 ?c5 ?_)
        case c0 => rw [intE.flat_length, List.length_replicate]; rfl
        case c3 => unfold maxLen; rw [List.length_replicate]; omega
        case c4 => rw [List.length_replicate]; omega
        case c5 => omega
        intro v' w10 hown' hgrow' _
        have ho10 : Own intE 3 w10 w7.heap.size v' (List.replicate n (r : Int) ++ List.replicate n (r : Int)) := own_append (by rw [List.length_replicate]; exact hown')
        have hB10 : Below w.heap.size w w10 := HB9.out.grown hgrow' (by have := HB9.out.size; omega) (fun j hj => by have := (HO8'.out.lt j hj).1; omega)
        have HB10 := Lib.hid hB10
        rw [List.replicate_append_replicate] at ho10
        obtain ⟨M, hM⟩ : ∃ M, n + n = M := ⟨_, rfl⟩
        rw [hM] at ho10
        obtain ⟨gg, cc, hvv⟩ := ho10.block (by rw [List.length_replicate]; omega)
        have HO10 := Lib.hid ho10
        clear hown' hgrow' ho10 hB10 HO8' HO9 HB9
        subst hvv
        go_wp2_with fail
        go_loopw [83] (fun i wr => ∃ k d : Nat, i = .int .i64 k ∧ k ≤ M ∧ wr = w10.drewN d) (fun i _ => M - (intOf i).toNat)
        case atStart => exact ⟨0, 0, rfl, Nat.zero_le _, rfl⟩
        case round =>
          obtain ⟨k, d, rfl, hk, rfl⟩ := hrel
          by_cases h7 : k < M
          · have hget : (List.replicate M (r : Int))[k]? = some (r : Int) := by simp [h7]
            have hck := Own.cell1 (E := intE) rfl (HO10.out.drewN d) hget rfl
            have hrr : ((r : Int) != (r : Int)) = false := by simp
            clear hget
            go_wp2_with fail
            go_roundw
            case rel => exact ⟨k + 1, d, by go_num, by omega, rfl⟩
            case measure => simp [intOf]; omega
          · go_wp2_with fail
            refine (fairAwake_any _).mono ?_
            rintro e w11 ⟨rfl, hb⟩
            have HB11 : Hid (Below w.heap.size w w11) := (below_drewN HB10.out d).trans (hb.mono (below_drewN HB10.out d).size)
            clear hb
            go_wp2_with fail
            go_ret
            exact ⟨rfl, HB11.out⟩
end Go.Proofs.Ytdjkefndigijjaa
