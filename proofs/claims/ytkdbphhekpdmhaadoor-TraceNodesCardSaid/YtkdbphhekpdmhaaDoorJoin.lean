/-
  Words with blanks between them: the library's Join; how long words are.
-/
import Derived.Test.YtkdbphhekpdmhaaDoorPkJ
namespace Go.Proofs.YtkdbphhekpdmhaaDoor
open Go.RowKit
set_option linter.unusedVariables false
set_option linter.unusedSimpArgs false
set_option maxRecDepth 100000
theorem ba_assoc (a b c : ByteArray) : a ++ b ++ c = a ++ (b ++ c) := by
  apply ba_ext
  simp only [ByteArray.data_append, Array.toList_append, List.append_assoc]
theorem ba_nil (a : ByteArray) : a ++ (⟨#[]⟩ : ByteArray) = a := by
  apply ba_ext
  simp only [ByteArray.data_append, Array.toList_append]
  exact List.append_nil _
def joinB (l : List ByteArray) (sep : ByteArray) : ByteArray := ⟨(Lib.join (l.map (·.data.toList)) sep.data.toList).toArray⟩
theorem join_ok (l : List ByteArray) (sep : ByteArray) (hl : l.length ≤ 140737488355328) (hj : (Lib.join (l.map (·.data.toList)) sep.data.toList).length ≤ 140737488355328) : AFn Tryd.prog 57 [.sl (l.map .str), .str sep] (.str (joinB l sep)) := by
  refine ⟨by kernel_rfl, fun w Pr vs hG hPr hlen hvs => ?_⟩
  obtain ⟨a, b, rfl⟩ : ∃ a b, vs = [a, b] := by
    match vs, hlen with
    | [a, b], _ => exact ⟨a, b, rfl⟩
  have h1 := hvs 0 _ a rfl rfl
  have h2 := hvs 1 _ b rfl rfl
  obtain rfl := h2.str_of
  have fin : ∀ {v : Value}, (Calls Tryd.prog 57 #[v, .string sep] w fun e w' => e = .returned (.string (joinB l sep)) ∧ Below w.heap.size w w') → Calls Tryd.prog 57 [v, .string sep].toArray w fun e w' => ∃ u, e = .returned u ∧ Below w.heap.size w w' ∧ RR (fun b o => Pr b o ∨ w.heap.size ≤ b) w.heap.size w' (.str (joinB l sep)) u := fun hc =>
    hc.mono fun e w' ⟨he, hb⟩ => ⟨_, he, hb, .str _⟩
  generalize hq : l.map AV.str = q at h1
  cases h1 with
  | sl _ A cap z u hcap hmax hA h =>
    subst hq
    rw [List.length_map] at hcap hA ⊢
    refine fin ?_
    by_cases h0 : l.length = 0
    · have e0 : l = [] := List.length_eq_zero_iff.1 h0
      subst e0
      refine (Tryd.strings_Join_none A cap sep w).mono fun e w' ⟨he, hw⟩ => ⟨?_, by rw [hw]; exact Below.refl _ _⟩
      rw [he]; rfl
    · obtain ⟨b, off, rfl, hlies⟩ := hA (by omega)
      have hz : z = 1 := by
        obtain ⟨x, hx⟩ : ∃ x, l[0]? = some x := ⟨_, List.getElem?_eq_getElem (by omega)⟩
        exact (hlies.len (.str x) (List.mem_map.2 ⟨x, List.mem_of_getElem? hx, rfl⟩)).symm
      subst hz
      refine (Tryd.strings_Join b off cap l sep w (fun j x hx => ?_) hlies.lt hl hcap hj).mono fun e w' ⟨he, hb⟩ => ⟨he, hb⟩
      have hjl := (List.getElem?_eq_some_iff.1 hx).1
      have := (hlies.at_ j 0 (by rw [List.length_map]; exact hjl) (by omega)).2
      rw [Nat.mul_one, Nat.add_zero] at this
      rw [this]
      have hv := h j (.str x) 0 (.str x) (by rw [List.getElem?_map, hx]; rfl) rfl
      rw [hv.str_of]
/-- few short words, with blanks between them -/
theorem join_len (sep : List UInt8) : ∀ l : List (List UInt8), (Lib.join l sep).length ≤ (l.map fun x => x.length + sep.length).sum
  | [] => by simp [Lib.join_nil]
  | x :: r => by
    rw [Lib.join_cons]
    have : ∀ r : List (List UInt8), (Lib.joinTail sep r).length = (r.map fun x => x.length + sep.length).sum := by
      intro r
      induction r with
      | nil => rfl
      | cons y r ih =>
        show ((sep ++ y) ++ Lib.joinTail sep r).length = _
        rw [List.length_append, ih, List.length_append, List.map_cons, List.sum_cons]; omega
    rw [List.length_append, this, List.map_cons, List.sum_cons]; omega
theorem joined_small (l : List ByteArray) (h4 : l.length ≤ 4) (h : ∀ x, x ∈ l → x.size ≤ 1000000) : (Lib.join (l.map (·.data.toList)) (⟨#[32]⟩ : ByteArray).data.toList).length ≤ 140737488355328 := by
  have h1 := join_len (⟨#[32]⟩ : ByteArray).data.toList (l.map (·.data.toList))
  have h2 : ∀ l : List ByteArray, (∀ x, x ∈ l → x.size ≤ 1000000) → ((l.map (·.data.toList)).map fun x => x.length + 1).sum ≤ l.length * 1000001 := by
    intro l
    induction l with
    | nil => intro _; simp
    | cons y r ih =>
      intro hx
      have a := ih (fun x hxm => hx x (List.mem_cons_of_mem _ hxm))
      have b := hx y (List.mem_cons_self ..)
      have c : y.data.toList.length = y.size := by rw [Array.length_toList]; rfl
      simp only [List.map_cons, List.sum_cons, List.length_cons]
      rw [c]
      omega
  have h3 := h2 l h
  have e : (fun x : List UInt8 => x.length + (⟨#[32]⟩ : ByteArray).data.toList.length) = fun x => x.length + 1 := rfl
  rw [e] at h1
  have : l.length * 1000001 ≤ 4 * 1000001 := Nat.mul_le_mul_right _ h4
  omega
theorem quoteF_size (s : ByteArray) : (quoteF s).size ≤ 3 * s.size + 1 := by
  have h := congrArg List.length (quoteF_list s)
  have hL : s.data.toList.length = s.size := by rw [Array.length_toList]; rfl
  have e : (quoteF s).data.toList.length = (quoteF s).size := by rw [Array.length_toList]; rfl
  have := quoteL_len s.data.toList
  rw [e] at h
  rw [h]
  split
  · simp
  · omega
theorem joinB2 (a b s : ByteArray) : joinB [a, b] s = a ++ s ++ b := by
  apply ba_ext
  show Lib.join _ _ = _
  rw [List.map_cons, Lib.join_cons]; simp [Lib.joinTail]
theorem joinB3 (a b c s : ByteArray) : joinB [a, b, c] s = a ++ s ++ b ++ (s ++ c) := by
  apply ba_ext
  show Lib.join _ _ = _
  rw [List.map_cons, Lib.join_cons]; simp [Lib.joinTail]
theorem joinB4 (a b c d s : ByteArray) : joinB [a, b, c, d] s = a ++ s ++ b ++ (s ++ c) ++ (s ++ d) := by
  apply ba_ext
  show Lib.join _ _ = _
  rw [List.map_cons, Lib.join_cons]; simp [Lib.joinTail]
/-- what is joined has so many bytes -/
theorem joinB_len (sep : ByteArray) (n : Nat) (l : List ByteArray) (h : ∀ x, x ∈ l → x.size + sep.size ≤ n) : (Lib.join (l.map (·.data.toList)) sep.data.toList).length ≤ l.length * n := by
  refine Nat.le_trans (join_len _ _) ?_
  induction l with
  | nil => simp
  | cons y r ih =>
    have a := ih (fun x hx => h x (List.mem_cons_of_mem _ hx))
    have b := h y (List.mem_cons_self ..)
    have c : y.data.toList.length = y.size := by rw [Array.length_toList]; rfl
    have d : sep.data.toList.length = sep.size := by rw [Array.length_toList]; rfl
    simp only [List.map_cons, List.sum_cons, List.length_cons]
    rw [c, d, Nat.add_mul, Nat.one_mul]
    rw [d] at a
    omega
theorem joinB_size (sep : ByteArray) (n : Nat) (l : List ByteArray) (h : ∀ x, x ∈ l → x.size + sep.size ≤ n) : (joinB l sep).size ≤ l.length * n := joinB_len sep n l h
end Go.Proofs.YtkdbphhekpdmhaaDoor
