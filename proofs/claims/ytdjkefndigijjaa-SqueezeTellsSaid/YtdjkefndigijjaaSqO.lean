/-
  Contracts that are proved over the model itself, for the plain machine: lists of texts in order.
-/
import Derived.Test.YtdjkefndigijjaaSqN
import Derived.Test.YtdjkefndigijjaaKeySortsB
namespace Go.Proofs.Ytdjkefndigijjaa
open Go.RowKit
set_option linter.unusedVariables false
set_option linter.unusedSimpArgs false
set_option maxRecDepth 100000

theorem Sl.of_vr_str {Pr : Nat → Nat → Prop} {w : World} {l : List ByteArray} {v : Value} (h : VR Pr w (.sl (l.map .str)) v) (hl : l.length ≤ 281474976710656) (hs : ∀ x, x ∈ l → x.size ≤ 281474976710656) : Sl strE w v l := by
  generalize hd : AV.sl (l.map .str) = d at h
  cases h with
  | sl l' A cap z u hcap hmax hA h =>
    injection hd with hd
    subst hd
    rw [List.length_map] at hcap hA
    refine ⟨A, cap, by rw [List.length_map], hcap, hmax, hl, fun i a ha => hs a (List.mem_of_getElem? ha), fun h0 => ?_⟩
    obtain ⟨b, off, e, hL⟩ := hA h0
    have hz : z = 1 := by
      obtain ⟨x, hx⟩ : ∃ x, l[0]? = some x := ⟨_, List.getElem?_eq_getElem h0⟩
      have := hL.len (.str x) (List.mem_map.2 ⟨x, List.mem_of_getElem? hx, rfl⟩)
      exact this.symm
    subst hz
    refine ⟨b, off, e, hL.lt, fun j c hj => ?_⟩
    rw [strE_flat, List.getElem?_map] at hj
    obtain ⟨s, hs, rfl⟩ := Option.map_eq_some_iff.1 hj
    have hjl := (List.getElem?_eq_some_iff.1 hs).1
    have h1 := (hL.at_ j 0 (by rw [List.length_map]; exact hjl) (by omega)).2
    have h2 := h j (.str s) 0 (.str s) (by rw [List.getElem?_map, hs]; rfl) rfl
    rw [Nat.mul_one, Nat.add_zero] at h1
    rw [h1]
    congr 1
    generalize u j 0 = q at h2
    cases h2; rfl
  | _ => cases hd
theorem VR.of_str {Q : Nat → Nat → Prop} {w : World} {l : List ByteArray} {v : Value} {base : Nat} (h : Sl strE w v l) (hf : ∀ p n c, v = .slice (some p) n c → base ≤ p.block) (hQ : ∀ b o, base ≤ b → Q b o) : VR Q w (.sl (l.map .str)) v := by
  obtain ⟨A, cap, rfl, h2, h3, _, _, h5⟩ := h
  have hlen : (l.map AV.str).length = l.length := List.length_map _
  rw [← hlen]
  refine .sl _ A cap 1 (fun i j => ((l[i]?).map fun m => Value.string m).getD (.bool false)) (by rw [hlen]; exact h2) h3 (fun h0 => ?_) (fun i d j c hi hj => ?_)
  · rw [hlen] at h0
    obtain ⟨b, off, e, hb, hc⟩ := h5 h0
    refine ⟨b, off, e, hb, fun d hd => ?_, fun i j hi hj => ⟨hQ _ _ (hf _ _ _ (by rw [e])), ?_⟩⟩
    · obtain ⟨m, _, rfl⟩ := List.mem_map.1 hd; rfl
    · rw [hlen] at hi
      have hm : l[i]? = some (l[i]) := List.getElem?_eq_getElem hi
      have hj0 : j = 0 := by omega
      subst hj0
      simp only [hm, Option.map_some, Option.getD_some, Nat.mul_one, Nat.add_zero]
      exact hc i _ (by rw [strE_flat, List.getElem?_map, hm]; rfl)
  · rw [List.getElem?_map, Option.map_eq_some_iff] at hi
    obtain ⟨m, hm, rfl⟩ := hi
    cases j with
    | succ j => simp [AV.cells] at hj
    | zero =>
      cases hj
      simp only [hm, Option.map_some, Option.getD_some]
      exact .str _
theorem OwnRes.of_str {Pr : Nat → Nat → Prop} {w : World} {l : List ByteArray} {v : Value} {base : Nat} {ty : TypeId} (h : Own strE ty w base v l) : OwnRes Pr base w 1 ty (l.map .str) v := by
  refine ⟨by omega, fun d hd => ?_, ?_⟩
  · obtain ⟨m, _, rfl⟩ := List.mem_map.1 hd
    exact ⟨rfl, fun c hc => by simp [AV.cells] at hc; subst hc; rfl⟩
  · rcases h.2 with ⟨e, h0⟩ | ⟨g, cap, cur, e, hg, hw, h1, h2, h3, h4⟩
    · exact .inl ⟨by rw [List.length_eq_zero_iff.1 h0]; rfl, e⟩
    · refine .inr ⟨g, cap, cur, by rw [List.length_map]; exact e, hg, hw, by rw [h3]; rfl, by rw [List.length_map]; exact h1, h2, fun i d j c hi hj => ?_⟩
      rw [List.getElem?_map, Option.map_eq_some_iff] at hi
      obtain ⟨m, hm, rfl⟩ := hi
      cases j with
      | succ j => simp [AV.cells] at hj
      | zero =>
        cases hj
        refine ⟨.string m, ?_, .str _⟩
        have hi := (List.getElem?_eq_some_iff.1 hm).1
        have : (cur.toList.take (l.length * 1))[i]? = some (.string m) := by
          show (cur.toList.take (l.length * strE.size))[i]? = _
          rw [h4, strE_flat, List.getElem?_map, hm]; rfl
        rw [List.getElem?_take_of_lt (by omega)] at this
        rw [Nat.mul_one, Nat.add_zero, ← Array.getElem?_toList]
        exact this

open Classical in
noncomputable def sortedL (l : List ByteArray) : List ByteArray := if h : ∃ R, kp.SortedOf l R then h.choose else []
theorem sortedL_eq {l R : List ByteArray} (h : kp.SortedOf l R) : sortedL l = R := by
  have hx : ∃ R, kp.SortedOf l R := ⟨R, h⟩
  unfold sortedL
  rw [dif_pos hx]
  exact hx.choose_spec.unique h
theorem sortedL_len (l : List ByteArray) : (sortedL l).length ≤ l.length := by
  unfold sortedL
  split
  · rename_i h
    have := h.choose_spec
    exact kp.nodup_le this.rise.nodup (fun x hx => (this.mem x).1 hx)
  · exact Nat.zero_le _
theorem keySorted (l : List ByteArray) (hl : l.length ≤ 1000000) (hs : ∀ x, x ∈ l → x.size ≤ 281474976710656) : AFn Try.prog 56 [.sl (l.map .str)] (.sl ((sortedL l).map .str)) := by
  refine ⟨by kernel_rfl, fun w Pr vs hPr hlen hvs => ?_⟩
  obtain ⟨v, rfl⟩ : ∃ v, vs = [v] := by
    match vs, hlen with
    | [v], _ => exact ⟨v, rfl⟩
  have hv := Sl.of_vr_str (hvs 0 _ v rfl rfl) (by omega) hs
  refine (sorted_any v l w hv hl).mono ?_
  rintro e w' ⟨⟨v', R, rfl, hS, hso, hf⟩, hb⟩
  refine ⟨v', rfl, hb, ?_⟩
  rw [sortedL_eq hso]
  exact VR.of_str hS hf fun b o h => .inr h
theorem refSorted (l : List ByteArray) (hl : l.length ≤ 1000000) (hs : ∀ x, x ∈ l → x.size ≤ 281474976710656) : AFn Try.prog 60 [.sl (l.map .str)] (.own 1 9 ((sortedL l).map .str)) := by
  refine ⟨by kernel_rfl, fun w Pr vs hPr hlen hvs => ?_⟩
  obtain ⟨v, rfl⟩ : ∃ v, vs = [v] := by
    match vs, hlen with
    | [v], _ => exact ⟨v, rfl⟩
  have hv := Sl.of_vr_str (hvs 0 _ v rfl rfl) (by omega) hs
  refine (refSorted_any v l w hv hl).mono ?_
  rintro e w' ⟨⟨v', R, rfl, hO, hso⟩, hb⟩
  refine ⟨v', rfl, hb, ?_⟩
  rw [sortedL_eq hso]
  exact OwnRes.of_str hO
end Go.Proofs.Ytdjkefndigijjaa
