/-
  Plain facts about texts as lists of bytes: the order 'bytesLess', the common front, what parts two texts. No program, no world.
-/
import GoSem.Op.String
namespace Go.Proofs.YtgpoglaojklfbaaDoor.kp
open Go.Op (bytesLess)

def common : List UInt8 → List UInt8 → Nat
  | a :: x, b :: y => if a = b then common x y + 1 else 0
  | _, _ => 0

theorem less_cons (a b : UInt8) (x y : List UInt8) : bytesLess (a :: x) (b :: y) = (decide (a < b) || (a == b && bytesLess x y)) := rfl
theorem less_nil (x : List UInt8) : bytesLess x [] = false := by cases x <;> rfl
theorem nil_less (b : UInt8) (y : List UInt8) : bytesLess [] (b :: y) = true := rfl

theorem u8_lt_irrefl (a : UInt8) : ¬ a < a := by simp
theorem u8_eq_of_le {a b : UInt8} (h1 : ¬ a < b) (h2 : ¬ b < a) : a = b := by
  apply UInt8.toNat.inj; simp [UInt8.lt_iff_toNat_lt] at h1 h2; omega
theorem u8_lt_trans {a b c : UInt8} (h1 : a < b) (h2 : b < c) : a < c := by simp [UInt8.lt_iff_toNat_lt] at *; omega

theorem less_irrefl : ∀ x : List UInt8, bytesLess x x = false
  | [] => rfl
  | a :: x => by simp [less_cons, less_irrefl x]

theorem less_total : ∀ x y : List UInt8, bytesLess x y = false → bytesLess y x = false → x = y
  | [], [], _, _ => rfl
  | [], _ :: _, h, _ => by simp [nil_less] at h
  | _ :: _, [], _, h => by simp [nil_less] at h
  | a :: x, b :: y, h1, h2 => by
    simp only [less_cons, Bool.or_eq_false_iff, decide_eq_false_iff_not, Bool.and_eq_false_iff] at h1 h2
    have e := u8_eq_of_le h1.1 h2.1
    subst e
    simp at h1 h2
    rw [less_total x y h1 h2]

theorem less_asymm : ∀ x y : List UInt8, bytesLess x y = true → bytesLess y x = false
  | _, [], h => by simp [less_nil] at h
  | [], b :: y, _ => by simp [less_nil]
  | a :: x, b :: y, h => by
    simp only [less_cons, Bool.or_eq_true, decide_eq_true_eq, Bool.and_eq_true, beq_iff_eq] at h
    simp only [less_cons, Bool.or_eq_false_iff, decide_eq_false_iff_not, Bool.and_eq_false_iff]
    rcases h with h | ⟨rfl, h⟩
    · refine ⟨fun h' => u8_lt_irrefl _ (u8_lt_trans h h'), .inl ?_⟩
      simp only [beq_eq_false_iff_ne]
      intro e; subst e; exact u8_lt_irrefl _ h
    · exact ⟨u8_lt_irrefl _, .inr (less_asymm x y h)⟩

theorem less_trans : ∀ x y z : List UInt8, bytesLess x y = true → bytesLess y z = true → bytesLess x z = true
  | _, [], _, h, _ => by simp [less_nil] at h
  | _, _ :: _, [], _, h => by simp [less_nil] at h
  | [], _ :: _, _ :: _, _, _ => rfl
  | a :: x, b :: y, c :: z, h1, h2 => by
    simp only [less_cons, Bool.or_eq_true, decide_eq_true_eq, Bool.and_eq_true, beq_iff_eq] at *
    rcases h1 with h1 | ⟨rfl, h1⟩ <;> rcases h2 with h2 | ⟨rfl, h2⟩
    · exact .inl (u8_lt_trans h1 h2)
    · exact .inl h1
    · exact .inl h2
    · exact .inr ⟨rfl, less_trans x y z h1 h2⟩

/-- how 'bytesLess' goes on behind a front that both have -/
theorem less_step {a b : List UInt8} {i : Nat} (ha : i < a.length) (hb : i < b.length) :
    bytesLess (a.drop i) (b.drop i) = (decide (a[i] < b[i]) || (a[i] == b[i] && bytesLess (a.drop (i + 1)) (b.drop (i + 1)))) := by
  rw [List.drop_eq_getElem_cons ha, List.drop_eq_getElem_cons hb]; rfl

theorem common_step {a b : List UInt8} {i : Nat} (ha : i < a.length) (hb : i < b.length) :
    common (a.drop i) (b.drop i) = if a[i] = b[i] then common (a.drop (i + 1)) (b.drop (i + 1)) + 1 else 0 := by
  rw [List.drop_eq_getElem_cons ha, List.drop_eq_getElem_cons hb]; rfl

theorem common_end {a b : List UInt8} {i : Nat} (h : a.length ≤ i ∨ b.length ≤ i) : common (a.drop i) (b.drop i) = 0 := by
  rcases h with h | h
  · rw [List.drop_eq_nil_of_le h]; simp [common]
  · rw [List.drop_eq_nil_of_le h]; cases a.drop i <;> simp [common]

theorem less_end {a b : List UInt8} {i : Nat} (h : a.length ≤ i ∨ b.length ≤ i) (ha : i ≤ a.length) (hb : i ≤ b.length) :
    bytesLess (a.drop i) (b.drop i) = decide (a.length < b.length) := by
  rcases Nat.lt_or_ge i b.length with hl | hl
  · have : a.length = i := by omega
    rw [List.drop_eq_nil_of_le (by omega), List.drop_eq_getElem_cons hl, nil_less]; simp; omega
  · rw [List.drop_eq_nil_of_le hl, less_nil]; simp; omega

theorem common_le : ∀ a b : List UInt8, common a b ≤ a.length ∧ common a b ≤ b.length
  | [], _ => by simp [common]
  | _ :: _, [] => by simp [common]
  | a :: x, b :: y => by
    have := common_le x y
    simp only [common]; split <;> simp <;> omega

theorem common_lt : ∀ a b : List UInt8, bytesLess a b = true → common a b < b.length
  | _, [], h => by simp [less_nil] at h
  | [], _ :: _, _ => by simp [common]
  | a :: x, b :: y, h => by
    simp only [less_cons, Bool.or_eq_true, decide_eq_true_eq, Bool.and_eq_true, beq_iff_eq] at h
    simp only [common]
    split
    · rename_i e; subst e
      have := common_lt x y (by rcases h with h | h; exact absurd h (u8_lt_irrefl _); exact h.2)
      simp; omega
    · simp

/-- the fronts of b that are greater than a: just those longer than what both have in common -/
theorem less_take : ∀ (a b : List UInt8) (i : Nat), i ≤ b.length → bytesLess a (b.take i) = (bytesLess a b && decide (common a b < i))
  | a, [], i, _ => by simp [less_nil]
  | a, b :: y, 0, _ => by simp [less_nil]
  | [], b :: y, i + 1, _ => by simp [nil_less, common]
  | a :: x, b :: y, i + 1, h => by
    simp only [List.take_succ_cons, less_cons, common]
    have := less_take x y i (by simpa using h)
    by_cases e : a = b
    · subst e; simp [this]
    · have e' : (a == b) = false := by simpa using e
      simp [e, e']

/-- every text between a and b is as long as the one that parts them, and none as long is less -/
theorem between_least : ∀ (a b x : List UInt8), bytesLess a b = true → bytesLess a x = true → bytesLess b x = false →
    common a b + 1 ≤ x.length ∧ (x.length = common a b + 1 → bytesLess (b.take (common a b + 1)) x = false)
  | _, [], _, h, _, _ => by simp [less_nil] at h
  | _, _ :: _, [], _, h, _ => by simp [less_nil] at h
  | [], b :: y, c :: z, _, _, h3 => by
    simp only [less_cons, Bool.or_eq_false_iff, decide_eq_false_iff_not] at h3
    simp only [common, Nat.zero_add, List.length_cons, List.take_succ_cons, List.take_zero]
    refine ⟨by omega, fun hl => ?_⟩
    have : z = [] := List.length_eq_zero_iff.1 (by omega)
    subst this
    simp [less_cons, less_nil, h3.1]
  | a :: x, b :: y, c :: z, h1, h2, h3 => by
    simp only [less_cons, Bool.or_eq_true, decide_eq_true_eq, Bool.and_eq_true, beq_iff_eq] at h1 h2
    simp only [less_cons, Bool.or_eq_false_iff, decide_eq_false_iff_not] at h3
    simp only [common]
    by_cases e : a = b
    · subst e
      simp only [if_true]
      have hc : a = c := by
        refine u8_eq_of_le (fun h => h3.1 h) (fun h => ?_)
        rcases h2 with h2 | h2
        · exact u8_lt_irrefl _ (u8_lt_trans h h2)
        · exact u8_lt_irrefl _ (h2.1 ▸ h)
      subst hc
      simp at h1 h2 h3
      have := between_least x y z h1 h2 h3
      refine ⟨by simp; omega, fun hl => ?_⟩
      have := this.2 (by simp at hl; omega)
      simp [less_cons, this]
    · simp only [e, if_false, Nat.zero_add, List.length_cons, List.take_succ_cons, List.take_zero]
      refine ⟨by omega, fun hl => ?_⟩
      have : z = [] := List.length_eq_zero_iff.1 (by omega)
      subst this
      simp [less_cons, less_nil, h3.1]

theorem less_next : ∀ a : List UInt8, bytesLess a (a ++ [0]) = true
  | [] => rfl
  | a :: x => by simp [less_cons, less_next x]

/-- nothing lies between a text and the one right behind it -/
theorem next_least : ∀ a b : List UInt8, bytesLess b (a ++ [0]) = true → bytesLess a b = false
  | [], [], _ => rfl
  | [], b :: y, h => by
    simp [less_cons, less_nil] at h
  | a :: x, [], _ => by simp [less_nil]
  | a :: x, b :: y, h => by
    simp only [List.cons_append, less_cons, Bool.or_eq_true, decide_eq_true_eq, Bool.and_eq_true, beq_iff_eq] at h
    simp only [less_cons, Bool.or_eq_false_iff, decide_eq_false_iff_not, Bool.and_eq_false_iff]
    rcases h with h | ⟨rfl, h⟩
    · refine ⟨fun h' => u8_lt_irrefl _ (u8_lt_trans h h'), .inl ?_⟩
      simp only [beq_eq_false_iff_ne]
      intro e; subst e; exact u8_lt_irrefl _ h
    · exact ⟨u8_lt_irrefl _, .inr (next_least x y h)⟩

end Go.Proofs.YtgpoglaojklfbaaDoor.kp
