/-
  The walks of layer 45 (fair), second part: threads in turn ('laid' with the closure that does nothing), the chapter's examples, FairTells.
-/
import Derived.Test.YtdjkefndigijjaaFair
namespace Go.Proofs.Ytdjkefndigijjaa
open Go.RowKit Go.Lib Go.Maps
set_option linter.unusedVariables false

/-- the first k of n numbers are filled in -/
def filled (n k : Nat) : List Int := (List.range n).map fun j : Nat => if j < k then (j : Int) else 0
def upto (n : Nat) : List Int := (List.range n).map fun j : Nat => (j : Int)
theorem filled_length (n k : Nat) : (filled n k).length = n := by simp [filled]
theorem upto_length (n : Nat) : (upto n).length = n := by simp [upto]
theorem filled_zero (n : Nat) : filled n 0 = List.replicate n 0 := by
  apply List.ext_getElem?
  intro i
  by_cases h : i < n
  · simp [filled, h]
  · rw [List.getElem?_eq_none (by rw [filled_length]; omega), List.getElem?_eq_none (by simp; omega)]
theorem filled_all (n k : Nat) (h : n ≤ k) : filled n k = upto n := by
  unfold filled upto
  refine List.map_congr_left fun j hj => ?_
  rw [List.mem_range] at hj
  rw [if_pos (by omega)]
theorem filled_set (n k : Nat) (h : k < n) : (filled n k).set k (k : Int) = filled n (k + 1) := by
  apply List.ext_getElem?
  intro i
  rw [List.getElem?_set]
  by_cases hi : i < n
  · by_cases e : k = i
    · subst e
      rw [if_pos rfl, if_pos (by rw [filled_length]; exact h)]
      simp [filled, hi]
    · rw [if_neg e]
      simp only [filled, List.getElem?_map, List.getElem?_range hi, Option.map_some]
      by_cases h2 : i < k
      · rw [if_pos h2, if_pos (by omega)]
      · rw [if_neg h2, if_neg (by omega)]
  · rw [List.getElem?_eq_none (by rw [filled_length]; omega)]
    split
    · omega
    · rw [List.getElem?_eq_none (by rw [filled_length]; omega)]
theorem filled_get (n k i : Nat) (h : i < n) : (filled n k)[i]? = some (if i < k then (i : Int) else 0) := by simp [filled, h]

/-- so many rounds of all -/
def turnsOf (n : Nat) : Nat → List Int
  | 0 => []
  | r + 1 => turnsOf n r ++ upto n
theorem turnsOf_length (n r : Nat) : (turnsOf n r).length = r * n := by
  induction r with
  | zero => simp [turnsOf]
  | succ r ih => simp [turnsOf, ih, upto_length, Nat.succ_mul]

theorem own_append {α : Type} {E : Enc α} {t : TypeId} {w : World} {base : Nat} {v : Value} {l m : List α} (h : w.ownsRow base t E.size v (l.length + m.length) (E.flat l ++ E.flat m)) : Own E t w base v (l ++ m) := by
  show w.ownsRow base t E.size v (l ++ m).length (E.flat (l ++ m))
  rw [E.flat_append, List.length_append]; exact h

theorem Own.news {α : Type} {E : Enc α} {t : TypeId} {w : World} {base g cap n : Nat} {l : List α} (h : Own E t w base (.slice (some ⟨g, 0, none⟩) n cap) l) :
    ∀ (j : Nat) (u : Value), (E.flat l)[j]? = some u → w.cell? ((⟨g, 0, none⟩ : Addr).add j) = some u := World.ownsRow.cells h rfl

theorem intE_one (l : List Int) : ∀ u ∈ intE.flat l, u.oneCell' = true := intE.flat_oneCell l

theorem nothing_any (v : Value) (w : World) : Calls Try.prog 78 #[v] w fun e w' => e = .returned (.tuple #[]) ∧ w = w' := by
  go_enter Try.func78, Try.ntmps78
  go_wp2_with fail
  go_end0
  exact ⟨rfl, rfl⟩

set_option maxRecDepth 100000 in
set_option maxHeartbeats 2000000 in
theorem laidRound_any (n r : Nat) (w : World) (h : mayB n r = true) :
    Calls Try.prog 77 #[.int .i64 n, .int .i64 r, .func (.func 78) #[] #[]] w fun e w' => (∃ v', e = .returned v' ∧ Own intE 3 w' w.heap.size v' (turnsOf n r)) ∧ Below w.heap.size w w' := by
  have hm := h
  simp only [mayB, decide_eq_true_eq] at hm
  obtain ⟨h1, h2, h3, h4, h5⟩ := hm
  obtain ⟨i0, hi, hz0, hz1, hz2⟩ := info_parts infoInt
  have hrn : r * n ≤ 100000 := by
    have e : ((r * n : Nat) : Int) = (n : Int) * r := by rw [Int.natCast_mul, Int.mul_comm]
    omega
  have HRN := Lib.hid hrn
  clear h5 hrn
  go_enter Try.func77, Try.ntmps77
  go_wp2_with fail
  refine (may_any _ _ _).mono ?_
  rintro e w' ⟨rfl, rfl⟩
  rw [h]
  go_wp2_with fail
  go_loopw [7, 15] (fun o i wr => ∃ k : Nat, i = .int .i64 k ∧ k ≤ r ∧ Hid (Own intE 3 wr w.heap.size o (turnsOf n k)) ∧ Hid (Below w.heap.size w wr)) (fun _ i _ => r - (intOf i).toNat)
  case atStart => exact ⟨0, rfl, Nat.zero_le _, World.ownsRow_nil _ _ _ _, Below.refl _ _⟩
  case round =>
    obtain ⟨k, rfl, hk, HO, HB⟩ := hrel
    have hbs : w.heap.size ≤ wr.heap.size := HB.out.size
    by_cases h6 : k < r
    · go_wp2_with (at_make; refine wpList_make_full _ rfl _ _ 22 rfl wr.heap.size 3 i0 (.int .i64 0) 1 Try.underlying22 hi hz0 hz1 .i64 .i64 n n n rfl rfl rfl rfl ?b1 ?b2 ?b3 ?_)
      case b1 => rw [hz2]; omega
      case b2 => unfold maxLen; omega
      case b3 => exact Nat.le_refl _
      intro w1 hown hgrow
      have HM : Hid (Own intE 3 w1 wr.heap.size (.slice (some ⟨wr.heap.size, 0, none⟩) n n) (filled n 0)) := by
        show Own _ _ _ _ _ _
        rw [filled_zero]; exact Own.made_int hown
      have HB1 : Hid (Below wr.heap.size wr w1) := (Below.refl _ _).grown hgrow (Nat.le_refl _) (by simp)
      obtain ⟨N, hN⟩ : ∃ N : Nat, wr.heap.size = N := ⟨_, rfl⟩
      obtain ⟨wo, hwo⟩ : ∃ wo : World, wo = wr := ⟨_, rfl⟩
      have HNs := Lib.hid hN
      rw [hN] at HM HB1 hbs
      rw [hN]
      rw [← hwo] at HB1 HO HB HNs
      have HWO := Lib.hid hwo
      clear hown hgrow hN hwo
      go_wp2_with fail
      go_loopw [21] (fun i wi => ∃ m : Nat, i = .int .i64 m ∧ m ≤ n ∧ Hid (Own intE 3 wi N (.slice (some ⟨N, 0, none⟩) n n) (filled n m)) ∧ Hid (Below N wo wi)) (fun i _ => n - (intOf i).toNat)
      case atStart => exact ⟨0, rfl, Nat.zero_le _, HM.out, HB1.out⟩
      case round =>
        obtain ⟨m, rfl, hmn, HM1, HB2⟩ := hrel
        clear HM HB1
        by_cases h7 : m < n
        · have hl := filled_length n m
          have ho1 : Own intE 3 wr N (.slice (some ⟨N, 0, none⟩) (filled n m).length n) (filled n m) := by rw [hl]; exact HM1.out
          have hcm := Own.cell1 (E := intE) rfl ho1 (filled_get n m m h7) rfl
          have hfm := Own.frozen1 ho1 rfl m
          have HN1 : Hid (Own intE 3 (wr.setCell ⟨N, m, none⟩ (.int .i64 m)) N (.slice (some ⟨N, 0, none⟩) n n) (filled n (m + 1))) := by
            have h := Own.stored1 (E := intE) rfl ho1 m (a := (m : Int)) rfl
            rw [List.length_set, hl, filled_set n m h7] at h
            exact h
          have HB3 : Hid (Below N wo (wr.setCell ⟨N, m, none⟩ (.int .i64 m))) := HB2.out.setCell (Nat.le_refl _) _
          clear ho1 hl
          go_wp2_with fail
          go_roundw
          case rel => exact ⟨m + 1, by go_num, by omega, HN1.out, HB3.out⟩
          case measure => simp [intOf]; omega
        · have HM2 : Hid (Own intE 3 wr N (.slice (some ⟨N, 0, none⟩) n n) (upto n)) := by
            have h := HM1.out
            rw [filled_all n m (by omega)] at h
            exact h
          have HO2 : Hid (Own intE 3 wr w.heap.size u7 (turnsOf n k)) := HO.out.mono (by rw [HNs.out]; exact HB2.out)
          have hbw : N ≤ wr.heap.size := by have := HB2.out.size; rw [HNs.out] at this; exact this
          clear HM1
          have hkn : k * n + n ≤ 100000 := by
            have h := HRN.out
            have h' : (k + 1) * n ≤ r * n := Nat.mul_le_mul_right _ (by omega)
            rw [Nat.succ_mul] at h'
            omega
          have hul := upto_length n
          have HTL : Hid ((turnsOf n k).length = k * n) := turnsOf_length n k
          go_wp2_with fail
          refine (nothing_any _ _).mono ?_
          rintro e w' ⟨rfl, rfl⟩
          go_wp2_with (at_builtin; refine wpList_append_own _ rfl _ _ 22 rfl w.heap.size 3 i0 (.int .i64 0) 1 8 Try.underlying22 hi hz0 hz1 hz2 rfl (by decide) _ _ _ rfl HO2.out ⟨N, 0, none⟩ n n (intE.flat (upto n)) rfl ?c0 HM2.out.news (intE_one _) ?c3 ?c4 ?c5 ?_)
          case c0 => rw [intE.flat_length, hul]; rfl
          case c3 => unfold maxLen; rw [HTL.out]; omega
          case c4 => rw [HTL.out]; omega
          case c5 => omega
          intro v' w1 hown' hgrow' _
          have HO3 : Hid (Own intE 3 w1 w.heap.size v' (turnsOf n (k + 1))) := own_append (by rw [hul]; exact hown')
          have HB4 : Hid (Below w.heap.size w w1) := (HB.out.trans (HB2.out.mono hbs)).grown hgrow' (by omega) (fun j hj => (HO2.out.lt j hj).1)
          go_wp2_with fail
          go_roundw
          case rel => exact ⟨k + 1, by go_num, by omega, HO3.out, HB4.out⟩
          case measure => simp [intOf]; omega
    · have e : k = r := by omega
      have HE := Lib.hid e
      clear e
      go_wp2_with fail
      go_ret
      have h8 := HO.out
      rw [HE.out] at h8
      exact ⟨⟨_, rfl, h8⟩, HB.out⟩

set_option maxRecDepth 100000 in
theorem round_any (n r : Nat) (w : World) (h : mayB n r = true) :
    Calls Try.prog 22 #[.int .i64 n, .int .i64 r] w fun e w' => (∃ v', e = .returned v' ∧ Own intE 3 w' w.heap.size v' (turnsOf n r)) ∧ Below w.heap.size w w' := by
  go_enter Try.func22, Try.ntmps22
  go_wp2_with fail
  refine (laidRound_any n r _ h).mono ?_
  rintro e w' ⟨⟨v', rfl, ho⟩, hb⟩
  go_wp2_with fail
  go_ret
  exact ⟨⟨v', rfl, ho⟩, hb⟩

/-- a slice that is written out in the text -/
theorem Sl.lit {α : Type} {E : Enc α} {t : TypeId} (w : World) (cs : Array Value) (l : List α) (hl : cs.toList = E.flat l) (hok : ∀ (i : Nat) (a : α), l[i]? = some a → E.ok a) (hL : l.length ≤ 281474976710656) :
    Sl E (w.alloc (.cells cs t)) (.slice (some ⟨w.heap.size, 0, none⟩) l.length l.length) l := by
  refine Sl.of_own (t := t) (base := w.heap.size) hok hL ?_
  have hs : cs.size = l.length * E.size := by rw [← E.flat_length, ← hl, Array.length_toList]
  have := World.ownsRow_lit (base := w.heap.size) (e := t) (size := E.size) w cs l.length (Nat.le_refl _) (Nat.le_trans hL (by decide)) hs
  rw [hl] at this
  exact this

theorem ints_ok (l : List Int) (h : ∀ x ∈ l, -9223372036854775808 ≤ x ∧ x ≤ 9223372036854775807) : ∀ (i : Nat) (a : Int), l[i]? = some a → intE.ok a := fun i a ha => h a (List.mem_of_getElem? ha)

theorem fair_ex1 : fp.FairProp [0, 1, 0, 1] 2 2 := by
  intro i hi n hn
  have hi' : i ≤ 2 := by simp at hi; omega
  have hn' : n ≤ 1 := by omega
  match i, n, hi', hn' with
  | 0, 0, _, _ => exact ⟨0, by omega, by omega, rfl⟩
  | 0, 1, _, _ => exact ⟨1, by omega, by omega, rfl⟩
  | 1, 0, _, _ => exact ⟨2, by omega, by omega, rfl⟩
  | 1, 1, _, _ => exact ⟨1, by omega, by omega, rfl⟩
  | 2, 0, _, _ => exact ⟨2, by omega, by omega, rfl⟩
  | 2, 1, _, _ => exact ⟨3, by omega, by omega, rfl⟩
theorem fair_ex2 : ¬ fp.FairProp [0, 0, 1] 2 2 := by
  intro h
  obtain ⟨j, h1, h2, h3⟩ := h 0 (by decide) 1 (by decide)
  have : j ≤ 1 := by omega
  match j, this with
  | 0, _ => simp at h3
  | 1, _ => simp at h3

set_option maxRecDepth 100000 in
set_option maxHeartbeats 1000000 in
theorem fairAwake_any (w : World) : Calls Try.prog 11 #[] w fun e w' => e = .returned (.bool true) ∧ Below w.heap.size w w' := by
  have e1 : turnsOf 2 2 = [0, 1, 0, 1] := by decide
  have HE1 := Lib.hid e1
  have e2 : sameI [0, 1, 0, 1] [0, 1, 0, 1] = true := by decide
  have e3 : fp.fairB [0, 1, 0, 1] 2 2 = true := (fp.fairB_iff _ _ _).2 fair_ex1
  have e4 : fp.fairB [0, 0, 1] 2 2 = false := fp.fairB_not fair_ex2
  clear e1
  go_enter Try.func11, Try.ntmps11
  go_wp2_with fail
  refine (round_any 2 2 _ (by decide)).mono ?_
  rintro e w1 ⟨⟨v1, rfl, ho⟩, hb⟩
  rw [HE1.out] at ho
  have HS1 : Hid (Sl intE w1 v1 [0, 1, 0, 1]) := Sl.of_own (ints_ok _ (by decide)) (by decide) ho
  have HB := Lib.hid hb
  clear ho hb
  go_wp2_with fail
  refine (ints_any v1 _ [0, 1, 0, 1] [0, 1, 0, 1] _ (HS1.out.mono ((Below.refl _ _).alloc (Nat.le_refl _) _) (Nat.le_refl _)) (Sl.lit w1 _ [0, 1, 0, 1] rfl (ints_ok _ (by decide)) (by decide))).mono ?_
  rintro e w2 ⟨rfl, d, hw2⟩
  rw [e2]
  have HB2 : Hid (Below w.heap.size w w2) := by rw [hw2]; exact below_drewN (HB.out.alloc HB.out.size _) d
  clear hw2
  go_wp2_with fail
  refine (fair_any _ [0, 1, 0, 1] 2 2 _ (Sl.lit w2 #[.int .i64 0, .int .i64 1, .int .i64 0, .int .i64 1] [0, 1, 0, 1] rfl (ints_ok _ (by decide)) (by decide)) (by decide) (by decide) (by decide) (by decide) (by decide)).mono ?_
  rintro e w3 ⟨rfl, hb3⟩
  rw [e3]
  have HB3 : Hid (Below w.heap.size w w3) := (HB2.out.alloc HB2.out.size _).trans (hb3.mono (by simp; have := HB2.out.size; omega))
  clear hb3
  go_wp2_with fail
  refine (fair_any _ [0, 0, 1] 2 2 _ (Sl.lit w3 #[.int .i64 0, .int .i64 0, .int .i64 1] [0, 0, 1] rfl (ints_ok _ (by decide)) (by decide)) (by decide) (by decide) (by decide) (by decide) (by decide)).mono ?_
  rintro e w4 ⟨rfl, hb4⟩
  rw [e4]
  have HB4 : Hid (Below w.heap.size w w4) := (HB3.out.alloc HB3.out.size _).trans (hb4.mono (by simp; have := HB3.out.size; omega))
  clear hb4
  go_wp2_with fail
  go_ret
  exact ⟨rfl, HB4.out⟩

theorem counts_same (l : List Int) (n : Nat) : sameI (fp.counts l n) (fp.counts l n) = true := by simp [sameI]

set_option maxRecDepth 100000 in
set_option maxHeartbeats 4000000 in
theorem fairTells_walk (v : Value) (l : List Int) (t wd : Int) (w : World) (h : Sl intE w v l) (ht : -9223372036854775808 ≤ t ∧ t ≤ 9223372036854775807) (hw : -9223372036854775808 ≤ wd ∧ wd ≤ 9223372036854775807) :
    Calls Try.prog 3 #[v, .int .i64 t, .int .i64 wd] w fun e w' => e = .returned (.bool true) ∧ Below w.heap.size w w' := by
  have HS := Lib.hid h
  obtain ⟨A, cap, rfl, hcap, hmax, hL, hok, hA⟩ := h
  clear hok hA
  obtain ⟨ht1, ht2⟩ := ht
  obtain ⟨hw1, hw2⟩ := hw
  by_cases c1 : 300 < l.length
  · go_enter Try.func3, Try.ntmps3
    go_wp2_with fail
    refine (fairAwake_any _).mono ?_
    rintro e w1 ⟨rfl, hb⟩
    have HB := Lib.hid hb; clear hb
    go_wp2_with fail
    go_ret
    exact ⟨rfl, HB.out⟩
  by_cases c2 : t < 1
  · go_enter Try.func3, Try.ntmps3
    go_wp2_with fail
    refine (turns_none _ l t _ HS.out (.inl c2)).mono ?_
    rintro e w1 ⟨rfl, rfl⟩
    go_wp2_with fail
    refine (fair_small _ l t wd _ HS.out c2).mono ?_
    rintro e w1 ⟨rfl, rfl⟩
    go_wp2_with fail
    refine (fairAwake_any _).mono ?_
    rintro e w1 ⟨rfl, hb⟩
    have HB := Lib.hid hb; clear hb
    go_wp2_with fail
    go_ret
    exact ⟨rfl, HB.out⟩
  by_cases c3 : 510 < t
  · go_enter Try.func3, Try.ntmps3
    go_wp2_with fail
    refine (turns_none _ l t _ HS.out (.inr c3)).mono ?_
    rintro e w1 ⟨rfl, rfl⟩
    go_wp2_with fail
    refine (fairAwake_any _).mono ?_
    rintro e w1 ⟨rfl, hb⟩
    have HB := Lib.hid hb; clear hb
    go_wp2_with fail
    go_ret
    exact ⟨rfl, HB.out⟩
  obtain ⟨n, rfl⟩ := Int.eq_ofNat_of_zero_le (show 0 ≤ t by omega)
  obtain ⟨i0, hi, hz0, hz1, hz2⟩ := info_parts infoInt
  go_enter Try.func3, Try.ntmps3
  go_wp2_with fail
  refine (turns_any _ l n _ HS.out (by omega) (by omega) (by omega)).mono ?_
  rintro e w1 ⟨⟨v1, rfl, ho1⟩, hb1⟩
  rw [Int.toNat_natCast] at ho1
  have hv1 := ho1.shape
  have HO1 := Lib.hid ho1
  have HB1 := Lib.hid hb1
  have hs1 : w.heap.size ≤ w1.heap.size := hb1.size
  obtain ⟨A1, cap1, rfl⟩ := hv1
  clear ho1 hb1
  go_wp2_with (at_make; refine wpList_make_full _ rfl _ _ 22 rfl w1.heap.size 3 i0 (.int .i64 0) 1 Try.underlying22 hi hz0 hz1 .i64 .i64 n n n rfl rfl rfl rfl ?b1 ?b2 ?b3 ?_)
  case b1 => rw [hz2]; omega
  case b2 => unfold maxLen; omega
  case b3 => exact Nat.le_refl _
  intro w2 hown hgrow
  obtain ⟨N, hN⟩ : ∃ N : Nat, w1.heap.size = N := ⟨_, rfl⟩
  have HO := Lib.hid (Own.made_int hown); clear hown
  have HB := Lib.hid ((Below.refl w1.heap.size w1).grown hgrow (Nat.le_refl _) (by simp)); clear hgrow
  have HNN := Lib.hid hN
  rw [hN] at HO HB hs1
  rw [hN]
  have HSP : Hid (∀ wr : World, Below N w1 wr → Sl intE wr (.slice A l.length cap) l) := fun wr hb => (HS.out.mono HB1.out (Nat.le_refl _)).mono hb (by rw [HNN.out]; exact Nat.le_refl _)
  clear hN
  go_wp2_with fail
  go_loopw [45] (fun i wr => ∃ k : Nat, i = .int .i64 k ∧ k ≤ l.length ∧ Hid (Own intE 3 wr N (.slice (some ⟨N, 0, none⟩) n n) (fp.counts (l.take k) n)) ∧ Hid (Below N w1 wr)) (fun i _ => l.length - (intOf i).toNat)
  case atStart => exact ⟨0, rfl, Nat.zero_le _, by rw [List.take_zero, counts_nil]; exact HO.out, HB.out⟩
  case round =>
    obtain ⟨k, rfl, hkl, HO2, HB2⟩ := hrel
    clear HO HB
    by_cases h3 : k < l.length
    · obtain ⟨A', cap', eA, -, -, -, hok', hA'⟩ := HSP.out wr HB2.out
      obtain ⟨b, off, e', hb, hc⟩ := hA' (by omega)
      have eAA : A = some ⟨b, off, none⟩ := by injection eA with e1 e2 e3; rw [e1, e']
      clear eA e' hA'
      subst eAA
      have hx : l[k]? = some l[k] := List.getElem?_eq_getElem h3
      have hck := Sl.cell1 (E := intE) rfl hc hx rfl
      obtain ⟨hx1, hx2⟩ := hok' k _ hx
      generalize l[k] = x at *
      have HX := Lib.hid hx
      clear hx hc hok'
      have HT1 := Lib.hid (take_succ_get HX.out)
      have hbd : ∀ m : Nat, (l.take k).countP (fun y => y == (m : Int)) ≤ 300 := by
        intro m
        have h1 := List.countP_le_length (p := fun x => x == (m : Int)) (l := l.take k)
        have h2 := List.length_take_le k l
        omega
      have HBD := Lib.hid hbd
      clear hbd
      have HM0 : Hid (Own intE 3 wr N (.slice (some ⟨N, 0, none⟩) n n) (fp.mixed (l.take k) x n 0)) := by
        show Own _ _ _ _ _ _
        rw [fp.mixed_zero]; exact HO2.out
      go_wp2_with fail
      go_loopw [51] (fun i wi => ∃ m : Nat, i = .int .i64 m ∧ m ≤ n ∧ Hid (Own intE 3 wi N (.slice (some ⟨N, 0, none⟩) n n) (fp.mixed (l.take k) x n m)) ∧ Hid (Below N w1 wi)) (fun i _ => n - (intOf i).toNat)
      case atStart => exact ⟨0, rfl, Nat.zero_le _, HM0.out, HB2.out⟩
      case round =>
        obtain ⟨m, rfl, hmn, HM1, HB3⟩ := hrel
        clear HM0 HO2 HB2
        by_cases h7 : m < n
        · by_cases h8 : x = (m : Int)
          · subst h8
            have hbdm := HBD.out m
            have hget := fp.mixed_get (l.take k) (m : Int) n m m h7
            rw [if_neg (by omega), Int.add_zero] at hget
            have hl := fp.mixed_length (l.take k) (m : Int) n m
            have ho1 : Own intE 3 wr N (.slice (some ⟨N, 0, none⟩) (fp.mixed (l.take k) (m : Int) n m).length n) (fp.mixed (l.take k) (m : Int) n m) := by rw [hl]; exact HM1.out
            have hcm := Own.cell1 (E := intE) rfl ho1 hget rfl
            have hfm := Own.frozen1 ho1 rfl m
            have HM2 : Hid (Own intE 3 (wr.setCell ⟨N, m, none⟩ (.int .i64 (((l.take k).countP (fun y => y == (m : Int)) : Nat) + 1))) N (.slice (some ⟨N, 0, none⟩) n n) (fp.mixed (l.take k) (m : Int) n (m + 1))) := by
              have h := Own.stored1 (E := intE) rfl ho1 m (a := ((l.take k).countP (fun y => y == (m : Int)) : Nat) + 1) rfl
              rw [List.length_set, hl, fp.mixed_hit _ _ _ h7] at h
              exact h
            have HB4 : Hid (Below N w1 (wr.setCell ⟨N, m, none⟩ (.int .i64 (((l.take k).countP (fun y => y == (m : Int)) : Nat) + 1)))) := HB3.out.setCell (Nat.le_refl _) _
            generalize (l.take k).countP (fun y => y == (m : Int)) = c at *
            clear hget ho1 hl
            go_wp2_with fail
            go_roundw
            case rel => exact ⟨m + 1, by go_num, by omega, HM2.out, HB4.out⟩
            case measure => simp [intOf]; omega
          · have h8' : (x == (m : Int)) = false := by simpa using h8
            have HM2 : Hid (fp.mixed (l.take k) x n (m + 1) = fp.mixed (l.take k) x n m) := fp.mixed_miss _ _ _ _ h8
            clear h8
            go_wp2_with fail
            go_roundw
            case rel => exact ⟨m + 1, by go_num, by omega, by rw [HM2.out]; exact HM1.out, HB3.out⟩
            case measure => simp [intOf]; omega
        · have HO3 : Hid (Own intE 3 wr N (.slice (some ⟨N, 0, none⟩) n n) (fp.counts (l.take (k + 1)) n)) := by
            have h := HM1.out
            rw [fp.mixed_all _ _ _ _ (by omega), ← HT1.out] at h
            exact h
          go_wp2_with fail
          go_roundw
          case rel => exact ⟨k + 1, by go_num, by omega, HO3.out, HB3.out⟩
          case measure => simp [intOf]; omega
    · have HE : Hid (l.take k = l) := List.take_of_length_le (by omega)
      have HO3 : Hid (Sl intE wr (.slice (some ⟨N, 0, none⟩) n n) (fp.counts l n)) := by
        have h := HO2.out
        rw [HE.out] at h
        refine Sl.of_own (fun i a ha => ?_) (by rw [fp.counts_length]; omega) h
        have hi : i < n := by have := (List.getElem?_eq_some_iff.1 ha).1; rwa [fp.counts_length] at this
        rw [fp.counts_get _ _ _ hi] at ha
        simp at ha
        have := List.countP_le_length (p := fun x => x == (i : Int)) (l := l)
        subst ha
        exact ⟨by omega, by omega⟩
      have HO4 : Hid (Sl intE wr (.slice A1 (fp.counts l n).length cap1) (fp.counts l n)) := by
        refine Sl.of_own (fun i a ha => ?_) (by rw [fp.counts_length]; omega) (HO1.out.mono (by rw [HNN.out]; exact HB2.out))
        have hi : i < n := by have := (List.getElem?_eq_some_iff.1 ha).1; rwa [fp.counts_length] at this
        rw [fp.counts_get _ _ _ hi] at ha
        simp at ha
        have := List.countP_le_length (p := fun x => x == (i : Int)) (l := l)
        subst ha
        exact ⟨by omega, by omega⟩
      have hcs := counts_same l n
      have HBW : Hid (Below w.heap.size w wr) := HB1.out.trans (HB2.out.mono hs1)
      clear HO2
      go_wp2_with fail
      refine (ints_any _ _ _ _ _ HO4.out HO3.out).mono ?_
      rintro e w3 ⟨rfl, d, hw3⟩
      rw [hcs]
      have HB5 : Hid (Below w.heap.size w w3) := by rw [hw3]; exact below_drewN HBW.out d
      clear hw3
      by_cases c4 : 1 ≤ wd
      · have hff : (fp.fairB l n wd == fp.fairB l n wd) = true := by simp
        go_wp2_with fail
        refine (fair_any _ l n wd _ (HS.out.mono HB5.out (Nat.le_refl _)) (by omega) (by omega) (by omega) (by omega) (by omega)).mono ?_
        rintro e w4 ⟨rfl, hb4⟩
        have HB6 : Hid (Below w.heap.size w w4) := HB5.out.trans (hb4.mono HB5.out.size)
        clear hb4
        go_wp2_with fail
        refine (refFair_any _ l n wd _ (HS.out.mono HB6.out (Nat.le_refl _)) (by omega) (by omega) (by omega) (by omega) (by omega)).mono ?_
        rintro e w5 ⟨rfl, rfl⟩
        go_wp2_with fail
        refine (fairAwake_any _).mono ?_
        rintro e w6 ⟨rfl, hb6⟩
        have HB7 : Hid (Below w.heap.size w w6) := HB6.out.trans (hb6.mono HB6.out.size)
        clear hb6
        go_wp2_with fail
        go_ret
        exact ⟨rfl, HB7.out⟩
      · have c4' : wd < 1 := by omega
        go_wp2_with fail
        refine (fair_narrow _ l n wd _ (HS.out.mono HB5.out (Nat.le_refl _)) (by omega) c4').mono ?_
        rintro e w4 ⟨rfl, rfl⟩
        go_wp2_with fail
        refine (refFair_narrow _ l n wd _ (HS.out.mono HB5.out (Nat.le_refl _)) (by omega) c4').mono ?_
        rintro e w5 ⟨rfl, rfl⟩
        go_wp2_with fail
        refine (fairAwake_any _).mono ?_
        rintro e w6 ⟨rfl, hb6⟩
        have HB7 : Hid (Below w.heap.size w w6) := HB5.out.trans (hb6.mono HB5.out.size)
        clear hb6
        go_wp2_with fail
        go_ret
        exact ⟨rfl, HB7.out⟩
end Go.Proofs.Ytdjkefndigijjaa
