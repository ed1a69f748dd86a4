/-
  The plain machine, twelfth part: a region whose order is drawn.
-/
import Derived.Test.YtkdbphhekpdmhaaDoorAmK
import Derived.Orders
namespace Go.Proofs.YtkdbphhekpdmhaaDoor
open Go.RowKit
set_option linter.unusedVariables false
set_option linter.unusedSimpArgs false

/-! ### Whatever order is drawn -/

def direct (o : Oper) : List Nat := o.after.toList.filterMap fun e => if Region.binds .any e then some e.on else none

section
variable {P : Program} {ops : Array Oper} {Q : Exit → Act → World → Prop}

def unlisted (n : Nat) (S : Nat → Bool) : Nat := (List.range n).countP fun i => !S i

theorem unlisted_zero {n : Nat} {S : Nat → Bool} (h : unlisted n S = 0) : ∀ i, i < n → S i = true := by
  intro i hi
  unfold unlisted at h
  rw [List.countP_eq_zero] at h
  have := h i (by simpa using hi)
  simpa using this

theorem unlisted_step {n : Nat} {S : Nat → Bool} {i : Nat} (hi : i < n) (hS : S i = false) : unlisted n (fun j => decide (j = i) || S j) + 1 = unlisted n S := by
  unfold unlisted
  induction n with
  | zero => omega
  | succ n ih =>
    rw [List.range_succ, List.countP_append, List.countP_append, List.countP_singleton, List.countP_singleton]
    by_cases e : i = n
    · subst e
      have : (List.range i).countP (fun j => !(decide (j = i) || S j)) = (List.range i).countP (fun j => !S j) := by
        apply List.countP_congr
        intro j hj
        have : j ≠ i := by have := List.mem_range.1 hj; omega
        simp [this]
      rw [this]
      simp [hS]
    · have := ih (by omega)
      have h2 : (decide (n = i) || S n) = S n := by simp [show n ≠ i from fun q => e q.symm]
      simp only [h2]
      simp only at this
      omega

theorem mem_direct {o : Oper} {j : Nat} : j ∈ direct o ↔ ∃ e ∈ o.after, Region.binds .any e = true ∧ e.on = j := by
  unfold direct
  rw [List.mem_filterMap]
  constructor
  · rintro ⟨e, he, h⟩
    split at h
    · rename_i hb; cases h; exact ⟨e, Array.mem_toList_iff.1 he, hb, rfl⟩
    · cases h
  · rintro ⟨e, he, hb, rfl⟩
    exact ⟨e, Array.mem_toList_iff.2 he, by rw [if_pos hb]⟩

theorem mem_ready' {listed : Array Bool} {i : Nat} : i ∈ Region.ready .any ops listed ↔ i < ops.size ∧ listed.getD i true = false ∧ ∀ o, ops[i]? = some o → ∀ j, j ∈ direct o → listed.getD j false = true := by
  unfold Region.ready
  rw [List.mem_filter]
  simp only [List.mem_range, Bool.and_eq_true, Bool.not_eq_true']
  constructor
  · rintro ⟨h1, h2, h3⟩
    refine ⟨h1, h2, fun o ho j hj => ?_⟩
    rw [ho] at h3
    simp only [Option.map_some, Option.getD_some, Array.all_eq_true_iff_forall_mem] at h3
    obtain ⟨e, he, hb, rfl⟩ := mem_direct.1 hj
    have := h3 e he
    simpa [hb] using this
  · rintro ⟨h1, h2, h3⟩
    refine ⟨h1, h2, ?_⟩
    obtain ⟨o, ho⟩ : ∃ o, ops[i]? = some o := ⟨_, Array.getElem?_eq_getElem h1⟩
    rw [ho]
    simp only [Option.map_some, Option.getD_some, Array.all_eq_true_iff_forall_mem]
    intro e he
    by_cases hb : Region.binds .any e = true
    · have := h3 o ho e.on (mem_direct.2 ⟨e, he, hb, rfl⟩)
      simp [this]
    · simp [hb]

/-- whatever is ready is done next, until all is done -/
theorem wpAny_run (hedge : ∀ i o, ops[i]? = some o → ∀ j, j ∈ direct o → j < i) (I : (Nat → Bool) → Act → World → Prop)
    (hstep : ∀ S a w i o, I S a w → ops[i]? = some o → S i = false → (∀ j, j ∈ direct o → S j = true) → wpOp P ops Q i (I fun j => decide (j = i) || S j) a w)
    (hend : ∀ S a w, I S a w → (∀ i, i < ops.size → S i = true) → Q .normal a w) :
    ∀ (fuel : Nat) (listed : Array Bool) (a : Act) (w : World), listed.size = ops.size → unlisted ops.size (fun i => listed.getD i false) = fuel → I (fun i => listed.getD i false) a w → wpAny P .any ops Q fuel listed a w := by
  have hready : ∀ (listed : Array Bool), listed.size = ops.size → Region.ready .any ops listed = [] → ∀ i, i < ops.size → listed.getD i false = true := by
    intro listed hs hr i
    induction i using Nat.strongRecOn with
    | ind i ih =>
      intro hi
      cases hl : listed.getD i false with
      | true => rfl
      | false =>
        have hm : i ∈ Region.ready .any ops listed := by
          rw [mem_ready']
          refine ⟨hi, ?_, fun o ho j hj => ih j (hedge i o ho j hj) (by have := hedge i o ho j hj; omega)⟩
          rw [Array.getD_eq_getD_getElem?, Array.getElem?_eq_getElem (by omega)] at hl ⊢
          exact hl
        rw [hr] at hm; cases hm
  intro fuel
  induction fuel with
  | zero =>
    intro listed a w hs hu hI
    have hall := unlisted_zero hu
    refine ⟨?_, hend _ a w hI hall⟩
    cases hr : Region.ready .any ops listed with
    | nil => rfl
    | cons x xs =>
      have : x ∈ Region.ready .any ops listed := by rw [hr]; simp
      obtain ⟨h1, h2, _⟩ := mem_ready'.1 this
      have h3 := hall x h1
      rw [Array.getD_eq_getD_getElem?, Array.getElem?_eq_getElem (by omega)] at h2 h3
      simp at h2 h3
      rw [h2] at h3; cases h3
  | succ fuel ih =>
    intro listed a w hs hu hI
    refine ⟨fun hr => hend _ a w hI (hready listed hs hr), fun i hi => ?_⟩
    obtain ⟨h1, h2, h3⟩ := mem_ready'.1 hi
    obtain ⟨o, ho⟩ : ∃ o, ops[i]? = some o := ⟨_, Array.getElem?_eq_getElem h1⟩
    have hSi : listed.getD i false = false := by
      rw [Array.getD_eq_getD_getElem?, Array.getElem?_eq_getElem (by omega)] at h2 ⊢
      exact h2
    refine wpOp_mono ?_ (hstep _ a w i o hI ho hSi (fun j hj => h3 o ho j hj))
    intro a' w' hI'
    have e : (fun j => (listed.setIfInBounds i true).getD j false) = fun j => decide (j = i) || listed.getD j false := by
      funext j
      rw [Array.getD_eq_getD_getElem?, Array.getElem?_setIfInBounds]
      by_cases e : i = j
      · subst e; simp [hs, h1]
      · rw [if_neg e]
        simp [show ¬ j = i from fun q => e q.symm]
    refine ih _ a' w' (by simpa using hs) ?_ (by rw [e]; exact hI')
    rw [e]
    have := unlisted_step (S := fun j => listed.getD j false) h1 hSi
    omega

theorem region_run {id : Nat} {a : Act} {w : World} (hm : P.follows .mixedOrders = true) (hedge : ∀ i o, ops[i]? = some o → ∀ j, j ∈ direct o → j < i) (I : (Nat → Bool) → Act → World → Prop)
    (hstep : ∀ S a w i o, I S a w → ops[i]? = some o → S i = false → (∀ j, j ∈ direct o → S j = true) → wpOp P ops Q i (I fun j => decide (j = i) || S j) a w)
    (hend : ∀ S a w, I S a w → (∀ i, i < ops.size → S i = true) → Q .normal a w) (h0 : I (fun _ => false) a { w with drawn := w.drawn + 1 }) : (Code.region id ops true).wp P Q a w := by
  refine wp_region_any hm ?_
  have e : (fun j => (Array.replicate ops.size false).getD j false) = fun _ => false := by
    funext j
    rw [Array.getD_eq_getD_getElem?, Array.getElem?_replicate]
    split <;> rfl
  refine wpAny_run hedge I hstep hend ops.size _ a _ (by simp) ?_ (by rw [e]; exact h0)
  rw [e]
  unfold unlisted
  rw [show (List.range ops.size).countP (fun i => !false) = (List.range ops.size).length from List.countP_eq_length.2 (fun _ _ => rfl), List.length_range]

/-! ### What each operation waits for -/

def depTab (l : List Oper) : List (List Nat) :=
  l.foldl (fun t o => t ++ [(direct o ++ (direct o).flatMap fun j => t.getD j []).eraseDups]) []

theorem depTab_snoc (l : List Oper) (o : Oper) : depTab (l ++ [o]) = depTab l ++ [(direct o ++ (direct o).flatMap fun j => (depTab l).getD j []).eraseDups] := by
  simp [depTab, List.foldl_append]

theorem snoc_ind {α : Type} {p : List α → Prop} (h0 : p []) (h1 : ∀ l a, p l → p (l ++ [a])) (l : List α) : p l := by
  have : ∀ l : List α, p l.reverse := by
    intro l
    induction l with
    | nil => exact h0
    | cons a l ih => rw [List.reverse_cons]; exact h1 _ _ ih
  have h := this l.reverse
  rwa [List.reverse_reverse] at h

theorem depTab_length (l : List Oper) : (depTab l).length = l.length := by
  refine snoc_ind (p := fun l => (depTab l).length = l.length) rfl (fun l o ih => ?_) l
  rw [depTab_snoc]; simp [ih]

/-- what is listed is closed under 'waits for' -/
theorem depTab_closed {S : Nat → Bool} : ∀ (l : List Oper), (∀ i o, l[i]? = some o → S i = true → ∀ j, j ∈ direct o → S j = true) →
    ∀ i o, l[i]? = some o → (∀ j, j ∈ direct o → S j = true) → ∀ j, j ∈ (depTab l).getD i [] → S j = true := by
  intro l
  refine snoc_ind (p := fun l => (∀ i o, l[i]? = some o → S i = true → ∀ j, j ∈ direct o → S j = true) →
    ∀ i o, l[i]? = some o → (∀ j, j ∈ direct o → S j = true) → ∀ j, j ∈ (depTab l).getD i [] → S j = true) ?_ ?_ l
  · intro _ i o h; simp at h
  · intro l o' ih hc i o hi hd j hj
    have hcl : ∀ i o, l[i]? = some o → S i = true → ∀ j, j ∈ direct o → S j = true := fun i o h => hc i o (by rw [List.getElem?_append_left (List.getElem?_eq_some_iff.1 h).1]; exact h)
    rw [depTab_snoc] at hj
    rcases Nat.lt_or_ge i l.length with h1 | h1
    · rw [List.getElem?_append_left h1] at hi
      rw [List.getD_eq_getElem?_getD, List.getElem?_append_left (by rw [depTab_length]; exact h1), ← List.getD_eq_getElem?_getD] at hj
      exact ih hcl i o hi hd j hj
    · have hil := (List.getElem?_eq_some_iff.1 hi).1
      have e : i = l.length := by simp at hil; omega
      subst e
      rw [List.getElem?_append_right (Nat.le_refl _)] at hi
      simp at hi; subst hi
      rw [List.getD_eq_getElem?_getD, List.getElem?_append_right (by rw [depTab_length]; exact Nat.le_refl _), depTab_length] at hj
      simp only [Nat.sub_self, List.getElem?_cons_zero, Option.getD_some, List.mem_eraseDups, List.mem_append, List.mem_flatMap] at hj
      rcases hj with hj | ⟨k, hk, hj⟩
      · exact hd j hj
      · cases hok : l[k]? with
        | none =>
          rw [List.getD_eq_getElem?_getD, List.getElem?_eq_none (by rw [depTab_length]; have := List.getElem?_eq_none_iff.1 hok; omega)] at hj
          simp at hj
        | some ok => exact ih hcl k ok hok (hcl k ok hok (hd k hk)) j hj
end
end Go.Proofs.YtkdbphhekpdmhaaDoor
