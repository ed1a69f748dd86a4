/-
  The plain facts of FairLays: rounds in any order, and how fair they are.
-/
import Derived.Test.YtdjkefndigijjaaFairD
namespace Go.Proofs.Ytdjkefndigijjaa
open Go.RowKit Go.Lib Go.Maps
set_option linter.unusedVariables false

/-- so many rounds of the first n numbers, each in some order -/
inductive Blk (n : Nat) : Nat → List Int → Prop
  | nil : Blk n 0 []
  | snoc {r : Nat} {l b : List Int} : Blk n r l → b.Perm (upto n) → Blk n (r + 1) (l ++ b)

theorem Blk.length {n r : Nat} {l : List Int} (h : Blk n r l) : l.length = r * n := by
  induction h with
  | nil => simp
  | snoc h hb ih => rw [List.length_append, ih, hb.length_eq, upto_length, Nat.succ_mul]

theorem blk_turns (n : Nat) : ∀ r, Blk n r (turnsOf n r)
  | 0 => .nil
  | r + 1 => .snoc (blk_turns n r) (List.Perm.refl _)

theorem swp_perm (l : List Int) (i j : Nat) (hi : i < l.length) (hj : j < l.length) : (swp l i j).Perm l := by
  have h := List.set_set_perm hi hj
  unfold swp
  have e1 : l.getD j 0 = l[j] := by simp [List.getD, hj]
  have e2 : l.getD i 0 = l[i] := by simp [List.getD, hi]
  rw [e1, e2]
  exact h

theorem shuf_perm : ∀ (k : Nat) (x : Int) (l : List Int), k < l.length → (shuf k x l).2.Perm l
  | 0, _, _, _ => List.Perm.refl _
  | k + 1, x, l, h => by
    have hd := die_lt x (k + 2) (by omega)
    exact (shuf_perm k _ _ (by rw [swp_length]; omega)).trans (swp_perm l (k + 1) _ h (by omega))

theorem blk_spread (m : Nat) (x : Int) : ∀ r, Blk (m + 1) r (spread m r x).2
  | 0 => .nil
  | r + 1 => .snoc (blk_spread m x r) (shuf_perm m _ _ (by rw [upto_length]; omega))

theorem upto_mem {n k : Nat} (h : k < n) : (k : Int) ∈ upto n := by
  unfold upto
  exact List.mem_map.2 ⟨k, List.mem_range.2 h, rfl⟩

theorem Blk.has {n r : Nat} {l : List Int} (h : Blk n r l) : ∀ (q k : Nat), q < r → k < n → ∃ j, q * n ≤ j ∧ j < q * n + n ∧ l[j]? = some (k : Int) := by
  induction h with
  | nil => intro q k hq; omega
  | @snoc r l b h hb ih =>
    intro q k hq hk
    by_cases hr : q < r
    · obtain ⟨j, h1, h2, h3⟩ := ih q k hr hk
      refine ⟨j, h1, h2, ?_⟩
      have hlt : j < l.length := by
        rcases Nat.lt_or_ge j l.length with h | h
        · exact h
        · rw [List.getElem?_eq_none h] at h3; cases h3
      rw [List.getElem?_append_left hlt]; exact h3
    · have e : q = r := by omega
      subst e
      have hm : (k : Int) ∈ b := hb.mem_iff.2 (upto_mem hk)
      obtain ⟨j, hj, hjk⟩ := List.getElem_of_mem hm
      have hbl : b.length = n := by rw [hb.length_eq, upto_length]
      have hl := h.length
      refine ⟨q * n + j, by omega, by omega, ?_⟩
      rw [List.getElem?_append_right (by omega), hl, Nat.add_sub_cancel_left, List.getElem?_eq_getElem hj, hjk]

theorem Blk.fair {n r : Nat} {l : List Int} (h : Blk n r l) (hn : 1 ≤ n) : fp.FairProp l n (2 * (n : Int) - 1) := by
  intro i hi k hk
  have hl := h.length
  have hd := Nat.div_add_mod (i + n - 1) n
  have hm := Nat.mod_lt (i + n - 1) (show 0 < n by omega)
  obtain ⟨q, hq⟩ : ∃ q, (i + n - 1) / n = q := ⟨_, rfl⟩
  rw [hq] at hd
  obtain ⟨s, hs⟩ : ∃ s, n * q = s := ⟨_, rfl⟩
  have hs' : q * n = s := by rw [Nat.mul_comm]; exact hs
  rw [hs] at hd
  have hqr : q < r := by
    rcases Nat.lt_or_ge q r with h' | h'
    · exact h'
    · have : r * n ≤ q * n := Nat.mul_le_mul_right _ h'
      omega
  obtain ⟨j, h1, h2, h3⟩ := h.has q k hqr (by omega)
  exact ⟨j, by omega, by omega, h3⟩

theorem upto_get {n j : Nat} (h : j < n) : (upto n)[j]? = some (j : Int) := by simp [upto, h]

theorem turnsOf_get (n : Nat) : ∀ (r i : Nat), i < r * n → (turnsOf n r)[i]? = some ((i % n : Nat) : Int)
  | 0, i, h => by simp at h
  | r + 1, i, h => by
    have hl := turnsOf_length n r
    rw [Nat.succ_mul] at h
    show (turnsOf n r ++ upto n)[i]? = _
    by_cases hi : i < r * n
    · rw [List.getElem?_append_left (by omega)]; exact turnsOf_get n r i hi
    · rw [List.getElem?_append_right (by omega), hl, upto_get (by omega)]
      have e : i = (i - r * n) + r * n := by omega
      have e2 : i % n = i - r * n := by
        conv => lhs; rw [e]
        rw [Nat.add_mul_mod_self_right, Nat.mod_eq_of_lt (by omega)]
      rw [e2]

theorem turns_fair (n r : Nat) (hn : 1 ≤ n) : fp.FairProp (turnsOf n r) n n := by
  intro i hi k hk
  rw [turnsOf_length] at hi
  have hkn : k < n := by omega
  have hm := Nat.mod_lt i (show 0 < n by omega)
  have hd := Nat.div_add_mod i n
  obtain ⟨q, hq⟩ : ∃ q, i / n = q := ⟨_, rfl⟩
  obtain ⟨p, hp⟩ : ∃ p, i % n = p := ⟨_, rfl⟩
  rw [hq, hp] at hd
  rw [hp] at hm
  by_cases hc : p ≤ k
  · refine ⟨n * q + k, by omega, by omega, ?_⟩
    rw [turnsOf_get n r _ (by omega), Nat.add_comm, Nat.add_mul_mod_self_left, Nat.mod_eq_of_lt hkn]
  · refine ⟨n * q + n + k, by omega, by omega, ?_⟩
    rw [turnsOf_get n r _ (by omega)]
    have e : n * q + n + k = k + n * (q + 1) := by rw [Nat.mul_succ]; omega
    rw [e, Nat.add_mul_mod_self_left, Nat.mod_eq_of_lt hkn]

theorem count_upto {n k : Nat} (h : k < n) : (upto n).countP (fun x => x == (k : Int)) = 1 := by
  induction n with
  | zero => omega
  | succ n ih =>
    have e : upto (n + 1) = upto n ++ [(n : Int)] := by simp [upto, List.range_succ]
    rw [e, List.countP_append]
    by_cases hk : k < n
    · rw [ih hk]
      have : ((n : Int) == (k : Int)) = false := by simp; omega
      simp [this]
    · have e2 : k = n := by omega
      subst e2
      have h0 : (upto k).countP (fun x => x == (k : Int)) = 0 := by
        rw [List.countP_eq_zero]
        intro x hx
        simp [upto] at hx
        obtain ⟨a, ha, rfl⟩ := hx
        simp; omega
      rw [h0]
      simp

theorem Blk.count {n r : Nat} {l : List Int} (h : Blk n r l) {k : Nat} (hk : k < n) : l.countP (fun x => x == (k : Int)) = r := by
  induction h with
  | nil => rfl
  | snoc h hb ih => rw [List.countP_append, ih, hb.countP_eq, count_upto hk]

theorem Blk.counts {n r : Nat} {l : List Int} (h : Blk n r l) : fp.counts l n = List.replicate n (r : Int) := by
  apply List.ext_getElem?
  intro i
  by_cases hi : i < n
  · rw [fp.counts_get l n i hi, h.count hi]
    simp [hi]
  · rw [List.getElem?_eq_none (by rw [fp.counts_length]; omega), List.getElem?_eq_none (by simp; omega)]

theorem Blk.ok {n r : Nat} {l : List Int} (h : Blk n r l) (hn : n ≤ 510) : ∀ x ∈ l, -9223372036854775808 ≤ x ∧ x ≤ 9223372036854775807 := by
  induction h with
  | nil => intro x hx; cases hx
  | snoc h hb ih =>
    intro x hx
    rcases List.mem_append.1 hx with hx | hx
    · exact ih x hx
    · have := hb.mem_iff.1 hx
      simp [upto] at this
      obtain ⟨a, ha, rfl⟩ := this
      omega
end Go.Proofs.Ytdjkefndigijjaa
