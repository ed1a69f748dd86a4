/-
  Plain facts about lists of texts that rise: what a strictly rising list with just these members is, there is one.
-/
import Derived.Test.YtdjkefndigijjaaKeyPure
import Derived.Laws.Strings
namespace Go.Proofs.Ytdjkefndigijjaa.kp
open Go.Op (bytesLess)
set_option linter.unusedVariables false

def ltS (a b : ByteArray) : Prop := bytesLess a.toList b.toList = true

theorem ba_ext {a b : ByteArray} (h : a.toList = b.toList) : a = b := by
  rw [ByteArray.toList_eq, ByteArray.toList_eq] at h
  obtain ⟨⟨x⟩⟩ := a
  obtain ⟨⟨y⟩⟩ := b
  simp at h
  rw [h]

instance : DecidableEq ByteArray := fun a b => decidable_of_iff (a.data = b.data) ⟨fun h => by cases a; cases b; simp at h; rw [h], fun h => by rw [h]⟩

theorem ltS_irrefl (a : ByteArray) : ¬ ltS a a := by simp [ltS, less_irrefl]
theorem ltS_trans {a b c : ByteArray} (h : ltS a b) (h' : ltS b c) : ltS a c := less_trans _ _ _ h h'
theorem ltS_asymm {a b : ByteArray} (h : ltS a b) (h' : ltS b a) : False := ltS_irrefl a (ltS_trans h h')
theorem ltS_total {a b : ByteArray} (h : ¬ ltS a b) (h' : ¬ ltS b a) : a = b := by
  simp only [ltS, Bool.not_eq_true] at h h'
  exact ba_ext (less_total _ _ h h')

/-- each is greater than the one ahead -/
def Rising (l : List ByteArray) : Prop := ∀ (i : Nat) (x y : ByteArray), l[i]? = some x → l[i + 1]? = some y → ltS x y

theorem Rising.tail {a : ByteArray} {l : List ByteArray} (h : Rising (a :: l)) : Rising l := fun i x y hx hy => h (i + 1) x y (by simpa using hx) (by simpa using hy)

theorem Rising.head_lt : ∀ {l : List ByteArray} {a : ByteArray}, Rising (a :: l) → ∀ x ∈ l, ltS a x
  | [], _, _, x, hx => by cases hx
  | b :: l, a, h, x, hx => by
    have hab : ltS a b := h 0 a b rfl rfl
    rcases List.mem_cons.1 hx with rfl | hx
    · exact hab
    · exact ltS_trans hab (Rising.head_lt h.tail x hx)

theorem Rising.snoc {l : List ByteArray} {a : ByteArray} (h : Rising l) (ha : ∀ x ∈ l, ltS x a) : Rising (l ++ [a]) := by
  intro i x y hx hy
  rcases Nat.lt_trichotomy (i + 1) l.length with hi | hi | hi
  · rw [List.getElem?_append_left (by omega)] at hx hy
    exact h i x y hx hy
  · rw [List.getElem?_append_left (by omega)] at hx
    rw [List.getElem?_append_right (by omega)] at hy
    simp [hi] at hy
    subst hy
    exact ha x (List.mem_of_getElem? hx)
  · rw [List.getElem?_append_right (by omega)] at hy
    rw [List.getElem?_eq_none (by simp; omega)] at hy
    cases hy

theorem Rising.nodup : ∀ {l : List ByteArray}, Rising l → l.Nodup
  | [], _ => List.nodup_nil
  | a :: l, h => List.nodup_cons.2 ⟨fun hm => ltS_irrefl a (h.head_lt a hm), Rising.nodup h.tail⟩

/-- two rising lists of the same members are one -/
theorem Rising.unique : ∀ {l m : List ByteArray}, Rising l → Rising m → (∀ x, x ∈ l ↔ x ∈ m) → l = m
  | [], [], _, _, _ => rfl
  | [], b :: m, _, _, h => absurd ((h b).2 (by simp)) (by simp)
  | a :: l, [], _, _, h => absurd ((h a).1 (by simp)) (by simp)
  | a :: l, b :: m, h1, h2, h => by
    have hab : a = b := by
      refine ltS_total (fun hlt => ?_) (fun hlt => ?_)
      · rcases List.mem_cons.1 ((h a).1 (by simp)) with rfl | hm
        · exact ltS_irrefl _ hlt
        · exact ltS_asymm hlt (h2.head_lt a hm)
      · rcases List.mem_cons.1 ((h b).2 (by simp)) with rfl | hm
        · exact ltS_irrefl _ hlt
        · exact ltS_asymm hlt (h1.head_lt b hm)
    subst hab
    rw [Rising.unique h1.tail h2.tail (fun x => ?_)]
    constructor
    · intro hx
      rcases List.mem_cons.1 ((h x).1 (List.mem_cons_of_mem _ hx)) with rfl | hm
      · exact absurd (h1.head_lt x hx) (ltS_irrefl x)
      · exact hm
    · intro hx
      rcases List.mem_cons.1 ((h x).2 (List.mem_cons_of_mem _ hx)) with rfl | hm
      · exact absurd (h2.head_lt x hx) (ltS_irrefl x)
      · exact hm

/-- a list without repeats of members of another is no longer -/
theorem nodup_le {α : Type} [DecidableEq α] : ∀ {l m : List α}, l.Nodup → (∀ x ∈ l, x ∈ m) → l.length ≤ m.length
  | [], _, _, _ => Nat.zero_le _
  | a :: l, m, h, hm => by
    have h' := List.nodup_cons.1 h
    have := nodup_le (m := m.erase a) h'.2 (fun x hx => (List.mem_erase_of_ne (fun (e : x = a) => h'.1 (by rw [← e]; exact hx))).2 (hm x (List.mem_cons_of_mem _ hx)))
    rw [List.length_erase_of_mem (hm a (by simp))] at this
    have : 0 < m.length := List.length_pos_of_mem (hm a (by simp))
    simp; omega

open Classical in
noncomputable def risingB (l : List ByteArray) : Bool := decide (Rising l)
theorem risingB_iff (l : List ByteArray) : risingB l = true ↔ Rising l := by simp [risingB]


/-- of the texts l those of O have been picked, from the least on -/
structure Picked (l O : List ByteArray) : Prop where
  rise : Rising O
  sub : ∀ x ∈ O, x ∈ l
  low : ∀ x ∈ l, x ∉ O → ∀ y ∈ O, ltS y x

theorem Picked.start (l : List ByteArray) : Picked l [] := ⟨fun i x y h => by simp at h, by simp, by simp⟩
theorem Picked.le {l O : List ByteArray} (h : Picked l O) : O.length ≤ l.length := nodup_le h.rise.nodup h.sub
theorem Picked.snoc {l O : List ByteArray} (h : Picked l O) {a : ByteArray} (ha : a ∈ l) (hO : a ∉ O) (hl : ∀ x ∈ l, x ∈ O ∨ ¬ ltS x a) : Picked l (O ++ [a]) where
  rise := h.rise.snoc (h.low a ha hO)
  sub x hx := by
    rcases List.mem_append.1 hx with hx | hx
    · exact h.sub x hx
    · simp at hx; subst hx; exact ha
  low x hx hn y hy := by
    have hx1 : x ∉ O := fun hm => hn (List.mem_append_left _ hm)
    rcases List.mem_append.1 hy with hy | hy
    · exact h.low x hx hx1 y hy
    · simp at hy; subst hy
      rcases hl x hx with hm | hm
      · exact absurd hm hx1
      · by_cases h1 : ltS y x
        · exact h1
        · exact absurd (List.mem_append_right O (by simp [ltS_total hm h1])) hn

/-- which of the first k is the least that is not picked yet -/
def Best (l O : List ByteArray) (k : Nat) (best : Int) : Prop :=
  (best = -1 ∧ ∀ (j : Nat) (x : ByteArray), j < k → l[j]? = some x → x ∈ O) ∨
  ∃ (b : Nat) (y : ByteArray), best = b ∧ b < k ∧ l[b]? = some y ∧ y ∉ O ∧ ∀ (j : Nat) (x : ByteArray), j < k → l[j]? = some x → x ∈ O ∨ ¬ ltS x y

theorem best_in {l O : List ByteArray} {k : Nat} {best : Int} (h : Best l O k best) {x : ByteArray} (hx : l[k]? = some x) (hm : x ∈ O) : Best l O (k + 1) best := by
  rcases h with ⟨h1, h2⟩ | ⟨b, y, h1, h2, h3, h4, h5⟩
  · refine .inl ⟨h1, fun j z hj hz => ?_⟩
    rcases Nat.lt_or_ge j k with h | h
    · exact h2 j z h hz
    · rw [show j = k by omega, hx] at hz; simp at hz; subst hz; exact hm
  · refine .inr ⟨b, y, h1, by omega, h3, h4, fun j z hj hz => ?_⟩
    rcases Nat.lt_or_ge j k with h | h
    · exact h5 j z h hz
    · rw [show j = k by omega, hx] at hz; simp at hz; subst hz; exact .inl hm

theorem best_first {l O : List ByteArray} {k : Nat} (h : Best l O k (-1)) {x : ByteArray} (hx : l[k]? = some x) (hm : x ∉ O) : Best l O (k + 1) k := by
  rcases h with ⟨h1, h2⟩ | ⟨b, y, h1, _⟩
  · refine .inr ⟨k, x, rfl, by omega, hx, hm, fun j z hj hz => ?_⟩
    rcases Nat.lt_or_ge j k with h | h
    · exact .inl (h2 j z h hz)
    · rw [show j = k by omega, hx] at hz; simp at hz; subst hz; exact .inr (ltS_irrefl _)
  · omega

theorem best_less {l O : List ByteArray} {k b : Nat} (h : Best l O k b) {x y : ByteArray} (hx : l[k]? = some x) (hy : l[b]? = some y) (hm : x ∉ O) (hl : ltS x y) : Best l O (k + 1) k := by
  rcases h with ⟨h1, h2⟩ | ⟨b', y', h1, h2, h3, h4, h5⟩
  · omega
  · have e : b' = b := by omega
    subst e
    rw [hy] at h3; simp at h3; subst h3
    refine .inr ⟨k, x, rfl, by omega, hx, hm, fun j z hj hz => ?_⟩
    rcases Nat.lt_or_ge j k with h | h
    · rcases h5 j z h hz with h6 | h6
      · exact .inl h6
      · refine .inr (fun hzx => h6 (ltS_trans hzx hl))
    · rw [show j = k by omega, hx] at hz; simp at hz; subst hz; exact .inr (ltS_irrefl _)

theorem best_not {l O : List ByteArray} {k b : Nat} (h : Best l O k b) {x y : ByteArray} (hx : l[k]? = some x) (hy : l[b]? = some y) (hl : ¬ ltS x y) : Best l O (k + 1) b := by
  rcases h with ⟨h1, h2⟩ | ⟨b', y', h1, h2, h3, h4, h5⟩
  · omega
  · have e : b' = b := by omega
    subst e
    rw [hy] at h3; simp at h3; subst h3
    refine .inr ⟨b', y, rfl, by omega, hy, h4, fun j z hj hz => ?_⟩
    rcases Nat.lt_or_ge j k with h | h
    · exact h5 j z h hz
    · rw [show j = k by omega, hx] at hz; simp at hz; subst hz; exact .inr hl

theorem best_form {l O : List ByteArray} {k : Nat} {best : Int} (h : Best l O k best) : best = -1 ∨ ∃ b : Nat, best = b ∧ b < k := by
  rcases h with ⟨h1, _⟩ | ⟨b, _, h1, h2, _⟩
  · exact .inl h1
  · exact .inr ⟨b, h1, h2⟩

theorem best_none {l O : List ByteArray} {k : Nat} (h : Best l O k (-1)) (hk : l.length ≤ k) : ∀ x ∈ l, x ∈ O := by
  rcases h with ⟨_, h2⟩ | ⟨b, y, h1, _⟩
  · intro x hx
    obtain ⟨j, hj⟩ := List.mem_iff_getElem?.1 hx
    exact h2 j x (by have := (List.getElem?_eq_some_iff.1 hj).1; omega) hj
  · omega

theorem best_some {l O : List ByteArray} {k b : Nat} (h : Best l O k b) (hk : l.length ≤ k) (hP : Picked l O) {y : ByteArray} (hy : l[b]? = some y) : Picked l (O ++ [y]) := by
  rcases h with ⟨h1, _⟩ | ⟨b', y', h1, h2, h3, h4, h5⟩
  · omega
  · have e : b' = b := by omega
    subst e
    rw [hy] at h3; simp at h3; subst h3
    refine hP.snoc (List.mem_iff_getElem?.2 ⟨b', hy⟩) h4 (fun x hx => ?_)
    obtain ⟨j, hj⟩ := List.mem_iff_getElem?.1 hx
    exact h5 j x (by have := (List.getElem?_eq_some_iff.1 hj).1; omega) hj

/-- the texts of a list in order, each once: the one rising list of its members -/
structure SortedOf (l R : List ByteArray) : Prop where
  rise : Rising R
  mem : ∀ x, x ∈ R ↔ x ∈ l
theorem SortedOf.unique {l R R' : List ByteArray} (h : SortedOf l R) (h' : SortedOf l R') : R = R' := h.rise.unique h'.rise (fun x => (h.mem x).trans (h'.mem x).symm)

end Go.Proofs.Ytdjkefndigijjaa.kp
