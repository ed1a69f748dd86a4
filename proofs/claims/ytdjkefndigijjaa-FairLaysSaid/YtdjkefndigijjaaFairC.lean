/-
  The walks of layer 45 (fair), third part: the dice, the shuffle, threads in spread orders, and FairLays.
-/
import Derived.Test.YtdjkefndigijjaaFairB
import Derived.RegionTactic
import Derived.BigRegion
import Derived.OneCell
namespace Go.Proofs.Ytdjkefndigijjaa
open Go.RowKit Go.Lib Go.Maps
set_option linter.unusedVariables false

/-- the next number of the dice, and what it says below n -/
def stp (x : Int) : Int := IntKind.u64.wrap (IntKind.u64.wrap (x * 6364136223846793005) + 1442695040888963407)
def die (x : Int) (n : Nat) : Nat := ((stp x / 8589934592) % (n : Int)).toNat

theorem u64_pos (n : Int) : 0 ≤ IntKind.u64.wrap n := by
  simp only [IntKind.wrap, IntKind.bits, IntKind.signed, Bool.false_and, Bool.false_eq_true, if_false]
  exact Int.emod_nonneg _ (by decide)
theorem stp_pos (x : Int) : 0 ≤ stp x := u64_pos _

theorem die_lt (x : Int) (n : Nat) (h : 1 ≤ n) : die x n < n := by
  unfold die
  have h1 : 0 ≤ (stp x / 8589934592) % (n : Int) := Int.emod_nonneg _ (by omega)
  have h2 : (stp x / 8589934592) % (n : Int) < n := Int.emod_lt_of_pos _ (by omega)
  omega

theorem die_eq (x : Int) (n : Nat) (h : 1 ≤ n) (h' : n ≤ 1000000) : wrap64 ((stp x / 8589934592).tmod (n : Int)) = (die x n : Int) := by
  have h0 : 0 ≤ stp x / 8589934592 := Int.ediv_nonneg (stp_pos x) (by decide)
  rw [Int.tmod_eq_emod_of_nonneg h0]
  have h1 : 0 ≤ (stp x / 8589934592) % (n : Int) := Int.emod_nonneg _ (by omega)
  have h2 : (stp x / 8589934592) % (n : Int) < n := Int.emod_lt_of_pos _ (by omega)
  have h3 : (die x n : Int) = (stp x / 8589934592) % (n : Int) := by unfold die; omega
  rw [h3]
  exact IntWalk.wrap64_in _ ⟨by omega, by omega⟩

set_option maxRecDepth 100000 in
set_option maxHeartbeats 1000000 in
theorem below_die (b o : Nat) (x : Int) (nI : Int) (n : Nat) (w : World) (hI : nI = n) (hc : w.cell? ⟨b, o, none⟩ = some (.int .u64 x)) (hf : w.frozen? ⟨b, o, none⟩ = false) (hx : 0 ≤ x) (hn : 1 ≤ n) (hn' : n ≤ 1000000) :
    Calls Try.prog 115 #[.pointer (some ⟨b, o, none⟩), .int .i64 nI] w fun e w' => e = .returned (.int .i64 (die x n)) ∧ w' = w.setCell ⟨b, o, none⟩ (.int .u64 (stp x)) := by
  subst hI
  have H := Lib.hid (die_eq x n hn hn')
  go_enter Try.func115, Try.ntmps115
  go_wp2_with fail
  go_ret
  exact ⟨by rw [← H.out]; rfl, rfl⟩

/-- two places of a list exchanged -/
def swp (l : List Int) (i j : Nat) : List Int := (l.set i (l.getD j 0)).set j (l.getD i 0)
theorem swp_length (l : List Int) (i j : Nat) : (swp l i j).length = l.length := by simp [swp]

/-- the shuffle, from place i down -/
def shuf : Nat → Int → List Int → Int × List Int
  | 0, x, l => (x, l)
  | i + 1, x, l => shuf i (stp x) (swp l (i + 1) (die x (i + 2)))

theorem getD_some {l : List Int} {i : Nat} (h : i < l.length) : l[i]? = some (l.getD i 0) := by simp [List.getD, List.getElem?_eq_getElem h]

/-- two blocks alone may have turned -/
structure Only (b g : Nat) (w w' : World) : Prop where
  os : w'.os = w.os
  tape : w'.tape = w.tape
  output : w'.output = w.output
  size : w.heap.size ≤ w'.heap.size
  block : ∀ k, k < w.heap.size → k ≠ b → k ≠ g → w'.heap[k]? = w.heap[k]?
theorem Only.refl (b g : Nat) (w : World) : Only b g w w := ⟨rfl, rfl, rfl, Nat.le_refl _, fun _ _ _ _ => rfl⟩
theorem Only.setCell {b g : Nat} {a w : World} (h : Only b g a w) {p : Addr} (hp : p.block = b ∨ p.block = g) (u : Value) : Only b g a (w.setCell p u) :=
  ⟨h.os, h.tape, h.output, by simpa [World.setCell] using h.size, fun k hk h1 h2 => (Below.heap_setCell w p u k (by rcases hp with hp | hp <;> omega)).trans (h.block k hk h1 h2)⟩
theorem Only.drew {b g : Nat} {a w : World} (h : Only b g a w) : Only b g a w.drew := ⟨h.os, h.tape, h.output, h.size, h.block⟩
theorem Only.below {b g B : Nat} {a w : World} (h : Only b g a w) (hb : B ≤ b) (hg : B ≤ g) (hB : B ≤ a.heap.size) : Below B a w :=
  ⟨h.os, h.tape, h.output, h.size, fun k hk => h.block k (by omega) (by omega) (by omega)⟩
theorem Only.own {α : Type} {E : Enc α} {t : TypeId} {b g : Nat} {a w : World} (h : Only b g a w) {base : Nat} {v : Value} {l : List α} (ho : Own E t a base v l) (hb : v.ownBlock ≠ some b) (hg : v.ownBlock ≠ some g) : Own E t w base v l := by
  refine ⟨ho.1, ?_⟩
  rcases ho.2 with h' | ⟨g', cap, cur, h1, h2, h3, h4⟩
  · exact .inl h'
  · subst h1
    refine .inr ⟨g', cap, cur, rfl, h2, ?_, h4⟩
    have hlt : g' < a.heap.size := by
      rcases Nat.lt_or_ge g' a.heap.size with h | h
      · exact h
      · rw [Array.getElem?_eq_none h] at h3; cases h3
    rw [h.block g' hlt (fun e => hb (by rw [← e]; rfl)) (fun e => hg (by rw [← e]; rfl))]
    exact h3

set_option maxRecDepth 100000 in
set_option maxHeartbeats 2000000 in
theorem shuffle_any (b g base m : Nat) (x : Int) (l : List Int) (w : World) (hc : w.cell? ⟨b, 0, none⟩ = some (.int .u64 x)) (hf : w.frozen? ⟨b, 0, none⟩ = false) (hx : 0 ≤ x)
    (ho : Own intE 3 w base (.slice (some ⟨g, 0, none⟩) (m + 1) (m + 1)) l) (hl : l.length = m + 1) (hbg : b ≠ g) (hn : m ≤ 1000) :
    Calls Try.prog 79 #[.pointer (some ⟨b, 0, none⟩), .slice (some ⟨g, 0, none⟩) (m + 1) (m + 1)] w fun e w' => e = .returned (.tuple #[]) ∧
      (w'.cell? ⟨b, 0, none⟩ = some (.int .u64 (shuf m x l).1) ∧ w'.frozen? ⟨b, 0, none⟩ = false ∧ 0 ≤ (shuf m x l).1 ∧ Own intE 3 w' base (.slice (some ⟨g, 0, none⟩) (m + 1) (m + 1)) (shuf m x l).2) ∧ Only b g w w' := by
  have HC := Lib.hid hc
  have HF := Lib.hid hf
  have HO := Lib.hid ho
  have HL := Lib.hid hl
  have HX := Lib.hid hx
  clear hc hf ho hl hx
  go_enter Try.func79, Try.ntmps79
  go_wp2_with fail
  go_loopw [4] (fun i wr => ∃ (k : Nat) (y : Int) (r : List Int), i = .int .i64 k ∧ k ≤ m ∧ Hid (wr.cell? ⟨b, 0, none⟩ = some (.int .u64 y)) ∧ Hid (wr.frozen? ⟨b, 0, none⟩ = false) ∧ Hid (0 ≤ y) ∧
    Hid (Own intE 3 wr base (.slice (some ⟨g, 0, none⟩) (m + 1) (m + 1)) r) ∧ Hid (r.length = m + 1) ∧ Hid (shuf k y r = shuf m x l) ∧ Hid (Only b g w wr)) (fun i _ => (intOf i).toNat)
  case atStart => exact ⟨m, x, l, rfl, Nat.le_refl _, HC.out, HF.out, HX.out, HO.out, HL.out, rfl, Only.refl _ _ _⟩
  case round =>
    obtain ⟨k, y, r, rfl, hk, HC1, HF1, HX1, HO1, HL1, HS1, HB1⟩ := hrel
    clear HC HF HO HX HL
    cases k with
    | zero =>
      have HR : Hid (shuf m x l = (y, r)) := HS1.out.symm
      go_wp2_with fail
      go_end0
      have e := HR.out
      exact ⟨rfl, ⟨by rw [e]; exact HC1.out, HF1.out, by rw [e]; exact HX1.out, by rw [e]; exact HO1.out⟩, HB1.out⟩
    | succ k =>
      have hjl := die_lt y (k + 2) (by omega)
      obtain ⟨j, hj⟩ : ∃ j : Nat, die y (k + 2) = j := ⟨_, rfl⟩
      have HS2 : Hid (shuf k (stp y) (swp r (k + 1) j) = shuf m x l) := by rw [← HS1.out, ← hj]; rfl
      have HP2 : Hid (0 ≤ stp y) := stp_pos y
      go_wp2_with fail
      refine (below_die b 0 y _ (k + 2) _ (by omega) HC1.out HF1.out HX1.out (by omega) (by omega)).mono ?_
      rintro e w1 ⟨rfl, hw1⟩
      rw [hj] at hjl ⊢
      have hrl := HL1.out
      have hgk : ∀ i : Nat, i < m + 1 → r[i]? = some (r.getD i 0) := fun i hi => getD_some (by rw [hrl]; exact hi)
      have HO2 : Hid (Own intE 3 w1 base (.slice (some ⟨g, 0, none⟩) r.length (m + 1)) r) := by
        show Own _ _ _ _ _ _
        rw [hrl, hw1]
        exact ownsRow_setCell_other HO1.out (by simp [Value.ownBlock]; exact fun e => hbg e.symm) _
      have HC2 : Hid (w1.cell? ⟨b, 0, none⟩ = some (.int .u64 (stp y))) := by
        show _ = _
        rw [hw1]; exact World.cell?_setCell_same _ _ _ HC1.out
      have HF2 : Hid (w1.frozen? ⟨b, 0, none⟩ = false) := by
        show _ = _
        rw [hw1, World.frozen?_setCell]; exact HF1.out
      have HB2 : Hid (Only b g w w1) := by rw [hw1]; exact HB1.out.setCell (.inl rfl) _
      clear hw1
      have hck := Own.cell1 (E := intE) rfl HO2.out (hgk (k + 1) (by omega)) rfl
      have hcj := Own.cell1 (E := intE) rfl HO2.out (hgk j (by omega)) rfl
      have hfk := Own.frozen1 HO2.out rfl (k + 1)
      have hfj := Own.frozen1 HO2.out rfl j
      have HO3 : Hid (Own intE 3 ((w1.setCell ⟨g, k + 1, none⟩ (.int .i64 (r.getD j 0))).setCell ⟨g, j, none⟩ (.int .i64 (r.getD (k + 1) 0))) base (.slice (some ⟨g, 0, none⟩) (m + 1) (m + 1)) (swp r (k + 1) j)) := by
        have h1 := Own.stored1 (E := intE) rfl HO2.out (k + 1) (a := r.getD j 0) rfl
        have h2 := Own.stored1 (E := intE) rfl h1 j (a := r.getD (k + 1) 0) rfl
        rw [List.length_set, List.length_set, hrl] at h2
        exact h2
      have HL2 : Hid ((swp r (k + 1) j).length = m + 1) := by rw [swp_length]; exact hrl
      have HL0 := Lib.hid hrl
      have HJ := Lib.hid hj
      clear hgk hrl hj
      by_cases hjk : j = k + 1
      · subst hjk
        generalize r.getD (k + 1) 0 = xk at *
        have hc2 : (w1.setCell ⟨g, k + 1, none⟩ (.int .i64 xk)).cell? ⟨g, k + 1, none⟩ = some (.int .i64 xk) := World.cell?_setCell_same _ _ _ hck
        have ew1 : IntKind.i64.wrap ((k : Int) + 1) = (k : Int) + 1 := IntWalk.i64_in _ (by omega)
        clear hcj hfj
        go_wp2_with fail
        go_region
        go_wp2_with fail
        go_roundw
        case rel =>
          refine ⟨k, stp y, swp r (k + 1) (k + 1), rfl, by omega, ?_, ?_, HP2.out, HO3.out, HL2.out, HS2.out, ((HB2.out.setCell (.inr rfl) _).setCell (.inr rfl) _).drew⟩
          · exact (World.cell?_setCell_other _ _ _ _ (fun e => hbg (by injection e with e1; exact e1.symm))).trans ((World.cell?_setCell_other _ _ _ _ (fun e => hbg (by injection e with e1; exact e1.symm))).trans HC2.out)
          · exact (World.frozen?_setCell _ _ _ _).trans ((World.frozen?_setCell _ _ _ _).trans HF2.out)
        case measure => simp [intOf]
      · have hne : ¬ k + 1 = j := fun e => hjk e.symm
        generalize r.getD j 0 = xj at *
        generalize r.getD (k + 1) 0 = xk at *
        have ew1 : IntKind.i64.wrap ((k : Int) + 1) = (k : Int) + 1 := IntWalk.i64_in _ (by omega)
        go_wp2_with fail
        go_region
        go_wp2_with fail
        go_roundw
        case rel =>
          refine ⟨k, stp y, swp r (k + 1) j, rfl, by omega, ?_, ?_, HP2.out, HO3.out, HL2.out, HS2.out, ((HB2.out.setCell (.inr rfl) _).setCell (.inr rfl) _).drew⟩
          · exact (World.cell?_setCell_other _ _ _ _ (fun e => hbg (by injection e with e1; exact e1.symm))).trans ((World.cell?_setCell_other _ _ _ _ (fun e => hbg (by injection e with e1; exact e1.symm))).trans HC2.out)
          · exact (World.frozen?_setCell _ _ _ _).trans ((World.frozen?_setCell _ _ _ _).trans HF2.out)
        case measure => simp [intOf]

/-- rounds in spread orders: the dice behind them, and the threads -/
def spread (m : Nat) : Nat → Int → Int × List Int
  | 0, x => (x, [])
  | r + 1, x => ((shuf m (spread m r x).1 (upto (m + 1))).1, (spread m r x).2 ++ (shuf m (spread m r x).1 (upto (m + 1))).2)

theorem shuf_length : ∀ (k : Nat) (x : Int) (l : List Int), (shuf k x l).2.length = l.length
  | 0, _, _ => rfl
  | k + 1, x, l => by show (shuf k _ _).2.length = _; rw [shuf_length k, swp_length]
theorem spread_length (m : Nat) (x : Int) : ∀ r, (spread m r x).2.length = r * (m + 1)
  | 0 => by simp [spread]
  | r + 1 => by simp only [spread, List.length_append, spread_length m x r, shuf_length, upto_length, Nat.succ_mul]

set_option maxRecDepth 100000 in
set_option maxHeartbeats 4000000 in
theorem laidSpread_any (m r b : Nat) (x : Int) (w : World) (h : mayB ((m + 1 : Nat) : Int) r = true) (hc : w.cell? ⟨b, 0, none⟩ = some (.int .u64 x)) (hf : w.frozen? ⟨b, 0, none⟩ = false) (hx : 0 ≤ x) (hb : b < w.heap.size) :
    Calls Try.prog 77 #[.int .i64 ((m + 1 : Nat) : Int), .int .i64 r, .func (.func 79) #[.pointer (some ⟨b, 0, none⟩)] #[]] w fun e w' => (∃ v', e = .returned v' ∧ Own intE 3 w' w.heap.size v' (spread m r x).2) ∧ Below b w w' := by
  have hm := h
  simp only [mayB, decide_eq_true_eq] at hm
  obtain ⟨h1, h2, h3, h4, h5⟩ := hm
  obtain ⟨i0, hi, hz0, hz1, hz2⟩ := info_parts infoInt
  have hrn : r * (m + 1) ≤ 100000 := by
    have e : ((r * (m + 1) : Nat) : Int) = ((m + 1 : Nat) : Int) * r := by rw [Int.natCast_mul, Int.mul_comm]
    omega
  have HRN := Lib.hid hrn
  have HC := Lib.hid hc
  have HF := Lib.hid hf
  have HX := Lib.hid hx
  clear h5 hrn hc hf hx
  obtain ⟨n, hn⟩ : ∃ n : Nat, m + 1 = n := ⟨_, rfl⟩
  rw [hn] at h h1 h3 ⊢
  have hmn : m + 1 ≤ n := by omega
  have hnm : n ≤ m + 1 := by omega
  have HN := Lib.hid hn
  clear hn
  go_enter Try.func77, Try.ntmps77
  go_wp2_with fail
  refine (may_any _ _ _).mono ?_
  rintro e w' ⟨rfl, rfl⟩
  rw [h]
  go_wp2_with fail
  go_loopw [7, 15] (fun o i wr => ∃ k : Nat, i = .int .i64 k ∧ k ≤ r ∧ Hid (Own intE 3 wr w.heap.size o (spread m k x).2) ∧ Hid (Below b w wr) ∧ Hid (wr.cell? ⟨b, 0, none⟩ = some (.int .u64 (spread m k x).1)) ∧ Hid (wr.frozen? ⟨b, 0, none⟩ = false) ∧ Hid (0 ≤ (spread m k x).1)) (fun _ i _ => r - (intOf i).toNat)
  case atStart => exact ⟨0, rfl, Nat.zero_le _, World.ownsRow_nil _ _ _ _, Below.refl _ _, HC.out, HF.out, HX.out⟩
  case round =>
    obtain ⟨k, rfl, hk, HO, HB, HC1, HF1, HX1⟩ := hrel
    have hbs : w.heap.size ≤ wr.heap.size := HB.out.size
    by_cases h6 : k < r
    · go_wp2_with (at_make; refine wpList_make_full _ rfl _ _ 22 rfl wr.heap.size 3 i0 (.int .i64 0) 1 Try.underlying22 hi hz0 hz1 .i64 .i64 n n n rfl rfl rfl rfl ?b1 ?b2 ?b3 ?_)
      case b1 => rw [hz2]; omega
      case b2 => unfold maxLen; omega
      case b3 => exact Nat.le_refl _
      intro w1 hown hgrow
      have HM : Hid (Own intE 3 w1 wr.heap.size (.slice (some ⟨wr.heap.size, 0, none⟩) n n) (filled n 0)) := by
        show Own _ _ _ _ _ _
        rw [filled_zero]; exact Own.made_int hown
      have HB1 : Hid (Below wr.heap.size wr w1) := (Below.refl _ _).grown hgrow (Nat.le_refl _) (by simp)
      obtain ⟨N, hN⟩ : ∃ N : Nat, wr.heap.size = N := ⟨_, rfl⟩
      obtain ⟨wo, hwo⟩ : ∃ wo : World, wo = wr := ⟨_, rfl⟩
      have HNs := Lib.hid hN
      rw [hN] at HM HB1 hbs
      rw [hN]
      rw [← hwo] at HB1 HO HB HNs HC1 HF1
      have HWO := Lib.hid hwo
      clear hown hgrow hN hwo
      go_wp2_with fail
      go_loopw [21] (fun i wi => ∃ q : Nat, i = .int .i64 q ∧ q ≤ n ∧ Hid (Own intE 3 wi N (.slice (some ⟨N, 0, none⟩) n n) (filled n q)) ∧ Hid (Below N wo wi)) (fun i _ => n - (intOf i).toNat)
      case atStart => exact ⟨0, rfl, Nat.zero_le _, HM.out, HB1.out⟩
      case round =>
        obtain ⟨q, rfl, hqn, HM1, HB2⟩ := hrel
        clear HM HB1
        by_cases h7 : q < n
        · have hl := filled_length n q
          have ho1 : Own intE 3 wr N (.slice (some ⟨N, 0, none⟩) (filled n q).length n) (filled n q) := by rw [hl]; exact HM1.out
          have hcm := Own.cell1 (E := intE) rfl ho1 (filled_get n q q h7) rfl
          have hfm := Own.frozen1 ho1 rfl q
          have HN1 : Hid (Own intE 3 (wr.setCell ⟨N, q, none⟩ (.int .i64 q)) N (.slice (some ⟨N, 0, none⟩) n n) (filled n (q + 1))) := by
            have h := Own.stored1 (E := intE) rfl ho1 q (a := (q : Int)) rfl
            rw [List.length_set, hl, filled_set n q h7] at h
            exact h
          have HB3 : Hid (Below N wo (wr.setCell ⟨N, q, none⟩ (.int .i64 q))) := HB2.out.setCell (Nat.le_refl _) _
          clear ho1 hl
          go_wp2_with fail
          go_roundw
          case rel => exact ⟨q + 1, by go_num, by omega, HN1.out, HB3.out⟩
          case measure => simp [intOf]; omega
        · have HM2 : Hid (Own intE 3 wr N (.slice (some ⟨N, 0, none⟩) (m + 1) (m + 1)) (upto (m + 1))) := by
            have h := HM1.out
            rw [filled_all n q (by omega), ← HN.out] at h
            exact h
          have HO2 : Hid (Own intE 3 wr w.heap.size u7 (spread m k x).2) := HO.out.mono (by rw [HNs.out]; exact HB2.out)
          have hbw : N ≤ wr.heap.size := by have := HB2.out.size; rw [HNs.out] at this; exact this
          have HC2 : Hid (wr.cell? ⟨b, 0, none⟩ = some (.int .u64 (spread m k x).1)) := (HB2.out.cell (p := ⟨b, 0, none⟩) (show b < N by omega)).trans HC1.out
          have HF2 : Hid (wr.frozen? ⟨b, 0, none⟩ = false) := (HB2.out.frozen (p := ⟨b, 0, none⟩) (show b < N by omega)).trans HF1.out
          have hul := upto_length (m + 1)
          have hknm : k * (m + 1) + (m + 1) ≤ 100000 := by
            have h := HRN.out
            have h' : (k + 1) * (m + 1) ≤ r * (m + 1) := Nat.mul_le_mul_right _ (by omega)
            rw [Nat.succ_mul] at h'
            omega
          have HTL : Hid ((spread m k x).2.length = k * (m + 1)) := spread_length m x k
          have hsh := shuffle_any b N N m (spread m k x).1 (upto (m + 1)) wr HC2.out HF2.out HX1.out HM2.out hul (by omega) (by omega)
          have hsh2 : Calls Try.prog 79 #[.pointer (some ⟨b, 0, none⟩), .slice (some ⟨N, 0, none⟩) n n] wr fun e w' => e = .returned (.tuple #[]) ∧
      (w'.cell? ⟨b, 0, none⟩ = some (.int .u64 (shuf m (spread m k x).1 (upto (m + 1))).1) ∧ w'.frozen? ⟨b, 0, none⟩ = false ∧ 0 ≤ (shuf m (spread m k x).1 (upto (m + 1))).1 ∧ Own intE 3 w' N (.slice (some ⟨N, 0, none⟩) n n) (shuf m (spread m k x).1 (upto (m + 1))).2) ∧ Only b N wr w' := by
            obtain ⟨n', hn'⟩ : ∃ n', n' = n := ⟨_, rfl⟩
            rw [← hn']
            have e : n' = m + 1 := by omega
            rw [e]
            exact hsh
          have HSH := Lib.hid hsh2
          clear HM1 hsh hsh2
          go_wp2_with fail
          refine HSH.out.mono ?_
          rintro e w2 ⟨rfl, ⟨hc2, hf2, hx2, ho2⟩, hon⟩
          have hbb : ∀ k, u7.ownBlock = some k → k ≠ b ∧ k ≠ N ∧ k < wr.heap.size := by
            intro k hk
            have h := HO.out.lt k hk
            rw [HNs.out] at h
            omega
          have HO3 : Hid (Own intE 3 w2 w.heap.size u7 (spread m k x).2) := hon.own HO2.out (fun e => (hbb b e).1 rfl) (fun e => (hbb N e).2.1 rfl)
          have HSH2 : Hid (Own intE 3 w2 N (.slice (some ⟨N, 0, none⟩) n n) (shuf m (spread m k x).1 (upto (m + 1))).2) := by
            show Own _ _ _ _ _ _
            exact ho2
          have hsl : (shuf m (spread m k x).1 (upto (m + 1))).2.length = n := by rw [shuf_length, hul]; omega
          have HB5 : Hid (Below b w w2) := (HB.out.trans (HB2.out.mono (by omega))).trans (hon.below (Nat.le_refl _) (by omega) (by omega))
          have hsz2 : wr.heap.size ≤ w2.heap.size := hon.size
          have hsw : b < w2.heap.size := by omega
          have HC3 := Lib.hid hc2
          have HF3 := Lib.hid hf2
          have HX3 := Lib.hid hx2
          clear hc2 hf2 hx2 ho2 hon hbb HSH HC2 HF2 HO2 HM2
          go_wp2_with (at_builtin; refine wpList_append_own _ rfl _ _ 22 rfl w.heap.size 3 i0 (.int .i64 0) 1 8 Try.underlying22 hi hz0 hz1 hz2 rfl (by decide) _ _ _ rfl HO3.out ⟨N, 0, none⟩ n n (intE.flat (shuf m (spread m k x).1 (upto (m + 1))).2) rfl ?c0 HSH2.out.news (intE_one _) ?c3 ?c4 ?c5 ?_)
          case c0 => rw [intE.flat_length, hsl]; rfl
          case c3 => unfold maxLen; rw [HTL.out]; omega
          case c4 => rw [HTL.out]; omega
          case c5 => omega
          intro v' w3 hown' hgrow' _
          have HO4 : Hid (Own intE 3 w3 w.heap.size v' (spread m (k + 1) x).2) := own_append (by rw [hsl]; exact hown')
          have hne : ∀ j, u7.ownBlock = some j → b + 1 ≤ j := fun j hj => by have := (HO3.out.lt j hj).1; omega
          have HBw : Hid (Below (b + 1) w2 w3) := (Below.refl _ _).grown hgrow' (by omega) hne
          have HB6 : Hid (Below b w w3) := HB5.out.trans (HBw.out.mono (by omega))
          have HC4 : Hid (w3.cell? ⟨b, 0, none⟩ = some (.int .u64 (spread m (k + 1) x).1)) := (HBw.out.cell (p := ⟨b, 0, none⟩) (show b < b + 1 by omega)).trans HC3.out
          have HF4 : Hid (w3.frozen? ⟨b, 0, none⟩ = false) := (HBw.out.frozen (p := ⟨b, 0, none⟩) (show b < b + 1 by omega)).trans HF3.out
          clear hown' hgrow' hne
          go_wp2_with fail
          go_roundw
          case rel => exact ⟨k + 1, by go_num, by omega, HO4.out, HB6.out, HC4.out, HF4.out, HX3.out⟩
          case measure => simp [intOf]; omega
    · have e : k = r := by omega
      have HE := Lib.hid e
      clear e
      go_wp2_with fail
      go_ret
      have h8 := HO.out
      rw [HE.out] at h8
      exact ⟨⟨_, rfl, h8⟩, HB.out⟩
end Go.Proofs.Ytdjkefndigijjaa
