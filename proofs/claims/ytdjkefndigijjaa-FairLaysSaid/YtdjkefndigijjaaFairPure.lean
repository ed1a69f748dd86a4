/-
  Plain facts about picks (lists of numbers): how often each is met, whether any window has all. No program, no world.
-/
namespace Go.Proofs.Ytdjkefndigijjaa.fp
set_option linter.unusedVariables false

/-- as many holes as pigeons -/
theorem pigeon : ∀ (m : Nat) (L : List Int), (∀ n : Nat, n < m → (n : Int) ∈ L) → m ≤ L.length
  | 0, _, _ => Nat.zero_le _
  | m + 1, L, h => by
    have hm : (m : Int) ∈ L := h m (Nat.lt_succ_self m)
    have := pigeon m (L.erase (m : Int)) (fun n hn => (List.mem_erase_of_ne (by omega)).2 (h n (by omega)))
    rw [List.length_erase_of_mem hm] at this
    have : 0 < L.length := List.length_pos_of_mem hm
    omega

/-- each window of w picks has all of the first t numbers -/
def FairProp (l : List Int) (t w : Int) : Prop :=
  ∀ i : Nat, (i : Int) + w ≤ l.length → ∀ n : Nat, (n : Int) < t → ∃ j : Nat, i ≤ j ∧ (j : Int) < i + w ∧ l[j]? = some (n : Int)

/-- the window that ends at i has all -/
def EndProp (l : List Int) (t w : Int) (i : Nat) : Prop :=
  t ≤ w ∧ ∀ n : Nat, (n : Int) < t → ∃ j : Nat, (i : Int) - w < j ∧ j ≤ i ∧ l[j]? = some (n : Int)

theorem fair_ends {l : List Int} {t w : Int} (hw : 1 ≤ w) : FairProp l t w ↔ ∀ i : Nat, i < l.length → w ≤ i + 1 → EndProp l t w i := by
  constructor
  · intro h i hi hwi
    have hi' : ((i + 1 - w.toNat : Nat) : Int) + w ≤ l.length := by omega
    have key : ∀ n : Nat, (n : Int) < t → ∃ j : Nat, (i : Int) - w < j ∧ j ≤ i ∧ l[j]? = some (n : Int) := by
      intro n hn
      obtain ⟨j, h1, h2, h3⟩ := h (i + 1 - w.toNat) hi' n hn
      exact ⟨j, by omega, by omega, h3⟩
    refine ⟨?_, key⟩
    have := pigeon t.toNat ((l.drop (i + 1 - w.toNat)).take w.toNat) (fun n hn => by
      obtain ⟨j, h1, h2, h3⟩ := key n (by omega)
      refine List.mem_iff_getElem?.2 ⟨j - (i + 1 - w.toNat), ?_⟩
      rw [List.getElem?_take, if_pos (by omega), List.getElem?_drop, show i + 1 - w.toNat + (j - (i + 1 - w.toNat)) = j by omega]
      exact h3)
    rw [List.length_take] at this
    omega
  · intro h i hi n hn
    obtain ⟨_, h2⟩ := h (i + w.toNat - 1) (by omega) (by omega)
    obtain ⟨j, h3, h4, h5⟩ := h2 n hn
    exact ⟨j, by omega, by omega, h5⟩

/-- where a number was met last among the first i; -1: nowhere -/
def lastAt (l : List Int) (k : Int) : Nat → Int
  | 0 => -1
  | i + 1 => if l[i]? = some k then i else lastAt l k i

theorem lastAt_lt (l : List Int) (k : Int) : ∀ i : Nat, -1 ≤ lastAt l k i ∧ lastAt l k i < i
  | 0 => by simp [lastAt]
  | i + 1 => by
    have := lastAt_lt l k i
    simp only [lastAt]; split <;> omega

theorem lastAt_gt (l : List Int) (k : Int) (m : Int) (hm : -1 ≤ m) : ∀ i : Nat, m < lastAt l k i ↔ ∃ j : Nat, m < j ∧ j < i ∧ l[j]? = some k
  | 0 => by
    constructor
    · intro h; simp [lastAt] at h; omega
    · rintro ⟨j, _, h, _⟩; omega
  | i + 1 => by
    have ih := lastAt_gt l k m hm i
    have hl := lastAt_lt l k i
    simp only [lastAt]
    split
    · rename_i h
      constructor
      · intro h'; exact ⟨i, h', by omega, h⟩
      · rintro ⟨j, h1, h2, h3⟩; omega
    · rename_i h
      rw [ih]
      constructor
      · rintro ⟨j, h1, h2, h3⟩; exact ⟨j, h1, by omega, h3⟩
      · rintro ⟨j, h1, h2, h3⟩
        refine ⟨j, h1, ?_, h3⟩
        rcases Nat.lt_or_ge j i with h4 | h4
        · exact h4
        · rw [show j = i by omega] at h3; exact absurd h3 h

theorem end_last {l : List Int} {t w : Int} {i : Nat} (hwi : w ≤ i + 1) : EndProp l t w i ↔ t ≤ w ∧ ∀ n : Nat, (n : Int) < t → ¬ lastAt l (n : Int) (i + 1) ≤ i - w := by
  unfold EndProp
  refine and_congr_right fun _ => forall_congr' fun n => imp_congr_right fun _ => ?_
  rw [Int.not_le, lastAt_gt l n (i - w) (by omega) (i + 1)]
  constructor
  · rintro ⟨j, h1, h2, h3⟩; exact ⟨j, h1, by omega, h3⟩
  · rintro ⟨j, h1, h2, h3⟩; exact ⟨j, h1, by omega, h3⟩

/-- how often each of the first t numbers stands among the first i -/
def counts (l : List Int) (t : Nat) : List Int := (List.range t).map fun k : Nat => ((l.countP (fun x => x == (k : Int)) : Nat) : Int)

theorem counts_length (l : List Int) (t : Nat) : (counts l t).length = t := by simp [counts]
theorem counts_get (l : List Int) (t k : Nat) (h : k < t) : (counts l t)[k]? = some ((l.countP (fun x => x == (k : Int)) : Nat) : Int) := by
  simp [counts, h]

theorem counts_out (l : List Int) (t : Nat) (n : Int) (h : n < 0 ∨ (t : Int) ≤ n) : counts (l ++ [n]) t = counts l t := by
  unfold counts
  refine List.map_congr_left fun k hk => ?_
  rw [List.mem_range] at hk
  have : (n == (k : Int)) = false := by rw [beq_eq_false_iff_ne]; omega
  simp [List.countP_append, this]

theorem counts_in (l : List Int) (t k : Nat) (h : k < t) : counts (l ++ [(k : Int)]) t = (counts l t).set k (((l.countP (fun x => x == (k : Int)) : Nat) : Int) + 1) := by
  apply List.ext_getElem?
  intro j
  rw [List.getElem?_set]
  by_cases hj : j < t
  · rw [counts_get _ _ _ hj]
    by_cases e : k = j
    · subst e
      rw [if_pos rfl, if_pos (by rw [counts_length]; exact h)]
      simp [List.countP_append]
    · rw [if_neg e, counts_get _ _ _ hj]
      have : ((k : Int) == (j : Int)) = false := by rw [beq_eq_false_iff_ne]; omega
      simp [List.countP_append, this]
  · have e1 : (counts (l ++ [(k : Int)]) t)[j]? = none := List.getElem?_eq_none (by rw [counts_length]; omega)
    have e2 : (counts l t)[j]? = none := List.getElem?_eq_none (by rw [counts_length]; omega)
    rw [e1, e2]
    split
    · omega
    · rfl

open Classical in
noncomputable def fairB (l : List Int) (t w : Int) : Bool := decide (FairProp l t w)
theorem fairB_iff (l : List Int) (t w : Int) : fairB l t w = true ↔ FairProp l t w := by simp [fairB]
theorem fairB_not {l : List Int} {t w : Int} (h : ¬ FairProp l t w) : fairB l t w = false := by rw [← Bool.not_eq_true, fairB_iff]; exact h

/-- one window has all -/
def WinProp (l : List Int) (t w : Int) (i : Nat) : Prop := ∀ n : Nat, (n : Int) < t → ∃ j : Nat, i ≤ j ∧ (j : Int) < i + w ∧ l[j]? = some (n : Int)

/-- the counts of a, those of the first m numbers of x too -/
def mixed (a : List Int) (x : Int) (t m : Nat) : List Int := (List.range t).map fun j : Nat => ((a.countP (fun y => y == (j : Int)) : Nat) : Int) + if j < m ∧ x = (j : Int) then 1 else 0
theorem mixed_length (a : List Int) (x : Int) (t m : Nat) : (mixed a x t m).length = t := by simp [mixed]
theorem mixed_get (a : List Int) (x : Int) (t m j : Nat) (h : j < t) : (mixed a x t m)[j]? = some (((a.countP (fun y => y == (j : Int)) : Nat) : Int) + if j < m ∧ x = (j : Int) then 1 else 0) := by simp [mixed, h]
theorem mixed_zero (a : List Int) (x : Int) (t : Nat) : mixed a x t 0 = counts a t := by
  unfold mixed counts
  refine List.map_congr_left fun j _ => ?_
  simp
theorem mixed_all (a : List Int) (x : Int) (t m : Nat) (h : t ≤ m) : mixed a x t m = counts (a ++ [x]) t := by
  unfold mixed counts
  refine List.map_congr_left fun j hj => ?_
  rw [List.mem_range] at hj
  by_cases e : x = (j : Int)
  · rw [if_pos ⟨by omega, e⟩]; subst e; simp [List.countP_append]
  · rw [if_neg (fun h => e h.2)]
    have : (x == (j : Int)) = false := by simpa using e
    simp [List.countP_append, this]
theorem mixed_miss (a : List Int) (x : Int) (t m : Nat) (h : x ≠ (m : Int)) : mixed a x t (m + 1) = mixed a x t m := by
  unfold mixed
  refine List.map_congr_left fun j _ => ?_
  congr 1
  by_cases h1 : j < m ∧ x = (j : Int)
  · rw [if_pos h1, if_pos ⟨by omega, h1.2⟩]
  · rw [if_neg h1, if_neg]
    rintro ⟨h2, h3⟩
    rcases Nat.lt_or_ge j m with h4 | h4
    · exact h1 ⟨h4, h3⟩
    · exact h (by rw [h3]; omega)
theorem mixed_hit (a : List Int) (t m : Nat) (h : m < t) : (mixed a (m : Int) t m).set m (((a.countP (fun y => y == (m : Int)) : Nat) : Int) + 1) = mixed a (m : Int) t (m + 1) := by
  apply List.ext_getElem?
  intro i
  rw [List.getElem?_set]
  by_cases hi : i < t
  · rw [mixed_get a (m : Int) t (m + 1) i hi, mixed_get a (m : Int) t m i hi]
    by_cases e : m = i
    · subst e
      rw [if_pos rfl, if_pos (by rw [mixed_length]; exact h), if_pos ⟨by omega, rfl⟩]
    · rw [if_neg e]
      rw [if_neg (fun h => e (by omega)), if_neg (fun h => e (by omega))]
  · rw [List.getElem?_eq_none (by rw [mixed_length]; omega)]
    split
    · omega
    · rw [List.getElem?_eq_none (by rw [mixed_length]; omega)]

end Go.Proofs.Ytdjkefndigijjaa.fp
