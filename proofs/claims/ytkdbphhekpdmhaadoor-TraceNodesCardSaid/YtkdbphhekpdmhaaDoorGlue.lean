/-
  Data that came in, of whatever type of ints, bools, texts, slices, structs and arrays, reads on the plain machine.
-/
import Derived.Test.YtkdbphhekpdmhaaDoorAmA
import Derived.SizedLaws
import Derived.OpenShut
namespace Go.Proofs.YtkdbphhekpdmhaaDoor
open Go.ChangeShapes Go.WideShapes Go.ChangeAt Go.RowKit Go.Deep
set_option linter.unusedVariables false
set_option linter.unusedSimpArgs false

/-- types of plain data -/
inductive Ty where
  | int (k : IntKind)
  | str
  | bool
  | sl (e : Ty)
  | st (fs : List Ty)

/-- places one behind the other -/
def laidAt (P : Program) : List (Nat × TypeId) → Nat → Option Nat
  | [], o => some o
  | (f, t) :: l, o => if f = o then laidAt P l (o + P.cellsOf t) else none
def optAll {α β : Type} (f : α → Option β) : List α → Option (List β)
  | [] => some []
  | a :: l => match f a, optAll f l with
    | some b, some r => some (b :: r)
    | _, _ => none
def placesOf (m z : Nat) (e : TypeId) : Nat → List (Nat × TypeId)
  | 0 => []
  | k + 1 => ((m - (k + 1)) * z, e) :: placesOf m z e k

def dtyOf (P : Program) : Nat → TypeId → Option Ty
  | 0, _ => none
  | n + 1, t => match P.underlying t with
    | some (.int k) => some (.int k)
    | some .string => some .str
    | some .bool => some .bool
    | some (.slice e) => if 1 ≤ P.bytesOf e ∧ 1 ≤ P.cellsOf e then (dtyOf P n e).map .sl else none
    | some (.struct fs) => if laidAt P (fs.toList.map fun f => (f.offset, f.type)) 0 = some (P.cellsOf t) then (optAll (dtyOf P n) (fs.toList.map (·.type))).map .st else none
    | some (.array m e) => if laidAt P (placesOf m (P.cellsOf e) e m) 0 = some (P.cellsOf t) then (optAll (dtyOf P n) (List.replicate m e)).map .st else none
    | _ => none

def packT : Ty → List AV → AV
  | .st _, cs => .agg cs
  | _, cs => cs.headD .und

/-- cells that are of a type -/
inductive TypedC : Ty → List AV → Prop
  | int (k : IntKind) (n : Int) (h : (Lit.int k n).wf = true) : TypedC (.int k) [.int k n]
  | str (s : ByteArray) (h : s.size ≤ 281474976710656) : TypedC .str [.str s]
  | bool (b : Bool) : TypedC .bool [.bool b]
  | sl (T : Ty) (ls : List (List AV)) (hlen : ls.length ≤ 281474976710656) (h : ∀ c, c ∈ ls → TypedC T c) : TypedC (.sl T) [.sl (ls.map (packT T))]
  | nil : TypedC (.st []) []
  | cons {T : Ty} {fs : List Ty} {c r : List AV} (h : TypedC T c) (hr : TypedC (.st fs) r) : TypedC (.st (T :: fs)) (c ++ r)

theorem packT_cells {T : Ty} {c : List AV} (h : TypedC T c) : (packT T c).cells = c := by
  cases h <;> rfl

theorem laidAt_le {P : Program} : ∀ {l : List (Nat × TypeId)} {o tot : Nat}, laidAt P l o = some tot → o ≤ tot
  | [], o, tot, h => by cases h; exact Nat.le_refl _
  | (f, t) :: l, o, tot, h => by
    rw [laidAt] at h
    split at h
    · have := laidAt_le h; omega
    · cases h

section
variable {H : Type} {enc : TypeId × Value → H} {P : Program} {w : World} {sp : Nat → Bool} {held : Bool}

/-- it reads, and is of the type -/
def ReadsAs (w : World) (T : Ty) (cs : List Value) (ds : List AV) : Prop :=
  TypedC T ds ∧ ds.length = cs.length ∧ ∀ (j : Nat) (d : AV) (v : Value), ds[j]? = some d → cs[j]? = some v → VR (fun b _ => b < w.heap.size) w d v

theorem typed_parts {n m : Nat} (ih : ∀ {t : TypeId} {T : Ty} {fuel : Nat} {cs : List Value} {x : DataW H × List MemPlace}, dtyOf P n t = some T → (x.1.weights P t).all (· ≤ reachBytes) = true → DataW.trod enc P w 0 sp held fuel t cs = some x → ∃ ds, ReadsAs w T cs ds)
    {cs : List Value} : ∀ (pl : List (Nat × TypeId)) (o : Nat) (Ts : List Ty) (xs : List (DataW H × List MemPlace)), laidAt P pl o = some cs.length → optAll (dtyOf P n) (pl.map (·.2)) = some Ts → xs.length = pl.length →
      (∀ (i : Nat) (f : Nat × TypeId), pl[i]? = some f → DataW.trod enc P w 0 sp held m f.2 ((cs.drop f.1).take (P.cellsOf f.2)) = xs[i]?) →
      (DataW.weightsEach P (pl.map (·.2)) (xs.map (·.1))).all (· ≤ reachBytes) = true → ∃ ds, ReadsAs w (.st Ts) (cs.drop o) ds
  | [], o, Ts, xs, hl, ho, hx, ht, hw => by
    cases hl; cases ho
    exact ⟨[], .nil, by simp, fun j d v h => by simp at h⟩
  | (f, t) :: pl, o, Ts, xs, hl, ho, hx, ht, hw => by
    rw [laidAt] at hl
    split at hl
    case isFalse => cases hl
    rename_i hf
    subst hf
    rw [List.map_cons, optAll] at ho
    split at ho
    case h_2 => cases ho
    rename_i T Ts' h1 h2
    cases ho
    cases xs with
    | nil => simp at hx
    | cons x xs =>
      rw [List.map_cons, List.map_cons, DataW.weightsEach, List.all_append, Bool.and_eq_true] at hw
      obtain ⟨d0, t0, l0, v0⟩ := ih h1 hw.1 (ht 0 _ rfl)
      obtain ⟨dr, tr, lr, vr⟩ := typed_parts ih pl (f + P.cellsOf t) Ts' xs hl h2 (by simpa using hx) (fun i g hg => ht (i + 1) g (by simpa using hg)) hw.2
      have hle := laidAt_le hl
      have hz : d0.length = P.cellsOf t := by
        rw [l0, List.length_take, List.length_drop]; show min (P.cellsOf t) (cs.length - f) = _; omega
      refine ⟨d0 ++ dr, .cons t0 tr, ?_, fun j d v hd hv => ?_⟩
      · rw [List.length_append, hz, lr, List.length_drop, List.length_drop]; omega
      · rw [List.getElem?_drop] at hv
        rcases Nat.lt_or_ge j d0.length with hj | hj
        · rw [List.getElem?_append_left hj] at hd
          refine v0 j d v hd ?_
          show (List.take (P.cellsOf t) (List.drop f cs))[j]? = _
          rw [List.getElem?_take, if_pos (by omega), List.getElem?_drop]
          exact hv
        · rw [List.getElem?_append_right hj] at hd
          refine vr _ d v hd ?_
          rw [List.getElem?_drop, hz, show f + P.cellsOf t + (j - P.cellsOf t) = f + j by omega]
          exact hv

theorem weights_rep {e : TypeId} : ∀ {m : Nat} {l : List (DataW H)}, l.length = m → (DataW.weightsAll P e l).all (· ≤ reachBytes) = true → (DataW.weightsEach P (List.replicate m e) l).all (· ≤ reachBytes) = true
  | 0, [], _, _ => rfl
  | m + 1, x :: l, hl, h => by
    simp only [DataW.weightsAll, List.all_append, Bool.and_eq_true] at h
    rw [List.replicate_succ, DataW.weightsEach, List.all_append, Bool.and_eq_true]
    exact ⟨h.1, weights_rep (by simpa using hl) h.2⟩
theorem placesOf_get (m z : Nat) (e : TypeId) : ∀ (k i : Nat) (f : Nat × TypeId), k ≤ m → (placesOf m z e k)[i]? = some f → i < k ∧ f = ((m - k + i) * z, e) := by
  intro k
  induction k with
  | zero => intro i f _ h; simp [placesOf] at h
  | succ k ih =>
    intro i f hk h
    cases i with
    | zero => simp [placesOf] at h; exact ⟨by omega, h.symm⟩
    | succ i =>
      obtain ⟨h1, rfl⟩ := ih i f (by omega) (by simpa [placesOf] using h)
      exact ⟨by omega, by rw [show m - k + i = m - (k + 1) + (i + 1) by omega]⟩

theorem typed_in : ∀ (n : Nat) {t : TypeId} {T : Ty} {fuel : Nat} {cs : List Value} {x : DataW H × List MemPlace}, dtyOf P n t = some T → (x.1.weights P t).all (· ≤ reachBytes) = true → DataW.trod enc P w 0 sp held fuel t cs = some x → ∃ ds, ReadsAs w T cs ds
  | 0, t, T, fuel, cs, x, ht, hw, h => by cases ht
  | n + 1, t, T, fuel, cs, x, ht, hw, h => by
    rw [dtyOf] at ht
    split at ht
    · rename_i k hu
      cases ht
      obtain ⟨m, rfl, rfl, hb⟩ := DataW.trod_int hu h
      exact ⟨[.int k m], .int k m hb, rfl, fun j d v hd hv => by
        cases j with
        | zero => cases hd; cases hv; exact .int _ _
        | succ j => simp at hd⟩
    · rename_i hu
      cases ht
      obtain ⟨s, rfl, rfl, hb⟩ := DataW.trod_string hu h
      exact ⟨[.str s], .str s (str_reach hw), rfl, fun j d v hd hv => by
        cases j with
        | zero => cases hd; cases hv; exact .str _
        | succ j => simp at hd⟩
    · rename_i hu
      cases ht
      obtain ⟨b, rfl, rfl⟩ := DataW.trod_bool hu h
      exact ⟨[.bool b], .bool b, rfl, fun j d v hd hv => by
        cases j with
        | zero => cases hd; cases hv; exact .bool _
        | succ j => simp at hd⟩
    · rename_i e hu
      split at ht
      case isFalse => cases ht
      rename_i hz
      obtain ⟨Te, hTe, rfl⟩ := Option.map_eq_some_iff.1 ht
      rcases open_slice hu h with ⟨hv, _⟩ | ⟨a, len, cap, m, n', D, Pl, hv, _, hl, hm, hmm, hx, hi⟩
      · subst hv
        refine ⟨[.sl []], .sl Te [] (by simp) (fun c hc => by cases hc), rfl, fun j d v hd hv => ?_⟩
        cases j with
        | zero =>
          cases hd; cases hv
          exact .sl [] none 0 1 (fun _ _ => .bool false) (by simp) (by simp) (fun h => by simp at h) (fun i d j c hi => by simp at hi)
        | succ j => simp at hd
      · subst hv
        have hlm : len ≤ m := by rw [hmm]; split <;> omega
        rw [hx] at hw
        simp only [DataW.weights, hu, List.all_cons, Bool.and_eq_true, decide_eq_true_eq, List.length_map, List.length_range, List.all_append] at hw
        have hlr : len ≤ reachBytes := Nat.le_trans (Nat.le_trans (Nat.le_add_right len (m - len)) (Nat.le_mul_of_pos_right _ hz.1)) hw.1
        have hwi : ∀ i, i < len → ((D i).weights P e).all (· ≤ reachBytes) = true := fun i hil => weightsAll_mem hw.2.1 (List.mem_map.2 ⟨i, List.mem_range.2 hil, rfl⟩)
        have each : ∀ i, i < len → ∃ y : List Value × List AV, w.cells? 0 (a.add (i * P.cellsOf e)) (P.cellsOf e) = some y.1 ∧ ReadsAs w Te y.1 y.2 := fun i him => by
          obtain ⟨cs', h1, h2⟩ := hi i (by omega)
          obtain ⟨ds, hd⟩ := typed_in n hTe (hwi i him) h2
          exact ⟨(cs', ds), h1, hd⟩
        obtain ⟨S, hS⟩ := choose_lt each
        have hL : ((List.range len).map fun i => (S i).2).length = len := by simp
        have hcell : ∀ i, i < len → ∀ (j : Nat) (u : Value), ((S i).1)[j]? = some u → w.cell? (a.add (i * P.cellsOf e + j)) = some u := by
          intro i hil j u hj
          obtain ⟨_, hlen, hat⟩ := World.cells?_some (hS i hil).1
          have hjl : j < P.cellsOf e := by rw [← hlen]; exact (List.getElem?_eq_some_iff.1 hj).1
          rw [← Go.Deep.add_add, hat j hjl, hj]
        refine ⟨[.sl (((List.range len).map fun i => (S i).2).map (packT Te))], .sl Te _ (by rw [hL]; exact Nat.le_trans hlr (by decide)) (fun c hc => ?_), rfl, fun j d v hd hv => ?_⟩
        · obtain ⟨i, hir, rfl⟩ := List.mem_map.1 hc
          exact (hS i (List.mem_range.1 hir)).2.1
        · cases j with
          | succ j => simp at hd
          | zero =>
            cases hd; cases hv
            have hL2 : (((List.range len).map fun i => (S i).2).map (packT Te)).length = len := by simp
            have hget : ∀ (i : Nat) (d : AV), (((List.range len).map fun i => (S i).2).map (packT Te))[i]? = some d → i < len ∧ d = packT Te (S i).2 := by
              intro i d hd
              rw [List.getElem?_map, List.getElem?_map] at hd
              by_cases hlt : i < len
              · rw [List.getElem?_range hlt] at hd; simp at hd
                exact ⟨hlt, hd.symm⟩
              · rw [List.getElem?_eq_none (by simp; omega)] at hd; cases hd
            have key : VR (fun b _ => b < w.heap.size) w (.sl (((List.range len).map fun i => (S i).2).map (packT Te))) (.slice (some a) (((List.range len).map fun i => (S i).2).map (packT Te)).length cap) := by
              refine .sl _ (some a) cap (P.cellsOf e) (fun i j => ((S i).1).getD j (.bool false)) (by rw [hL2]; omega) hm (fun h0 => ?_) (fun i d j c hi hj => ?_)
              · rw [hL2] at h0
                obtain ⟨ab, ao, asp⟩ := a
                obtain ⟨_, hlen, _⟩ := World.cells?_some (hS 0 h0).1
                have hu0 : ((S 0).1)[0]? = some (((S 0).1)[0]'(by omega)) := List.getElem?_eq_getElem _
                have hc0 := hcell 0 h0 0 _ hu0
                have e0 : (⟨ab, ao, asp⟩ : Addr).add (0 * P.cellsOf e + 0) = ⟨ab, ao, asp⟩ := by simp [Addr.add]
                rw [e0] at hc0
                have hsp : asp = none := by
                  cases asp with
                  | none => rfl
                  | some k =>
                    simp only [World.cell?] at hc0
                    split at hc0
                    · simp at hc0
                    · cases hc0
                subst hsp
                have hlt := block_lt_of_cell hc0
                refine ⟨ab, ao, rfl, hlt, fun d hd => ?_, fun i j hi hj => ⟨hlt, ?_⟩⟩
                · obtain ⟨c, hc, rfl⟩ := List.mem_map.1 hd
                  obtain ⟨i, hir, rfl⟩ := List.mem_map.1 hc
                  have h2 := (hS i (List.mem_range.1 hir)).2
                  obtain ⟨_, hlen, _⟩ := World.cells?_some (hS i (List.mem_range.1 hir)).1
                  rw [packT_cells h2.1, h2.2.1, hlen]
                · rw [hL2] at hi
                  obtain ⟨_, hlen, _⟩ := World.cells?_some (hS i hi).1
                  have hv : ((S i).1)[j]? = some (((S i).1).getD j (.bool false)) := by
                    rw [List.getD_eq_getElem?_getD, List.getElem?_eq_getElem (by omega)]; rfl
                  have := hcell i hi j _ hv
                  have e : (⟨ab, ao, none⟩ : Addr).add (i * P.cellsOf e + j) = ⟨ab, ao + (i * P.cellsOf e + j), none⟩ := by
                    unfold Addr.add; split
                    · rename_i h; rw [h]; rfl
                    · rfl
                  rwa [e] at this
              · obtain ⟨hlt, rfl⟩ := hget i d hi
                obtain ⟨q1, q2, q3⟩ := (hS i hlt).2
                rw [packT_cells q1] at hj
                have hjl := (List.getElem?_eq_some_iff.1 hj).1
                refine q3 j c _ hj ?_
                rw [List.getD_eq_getElem?_getD, List.getElem?_eq_getElem (by omega)]; rfl
            rw [hL2] at key
            exact key
    · rename_i fs hu
      split at ht
      case isFalse => cases ht
      rename_i hoff
      obtain ⟨Ts, hTs, rfl⟩ := Option.map_eq_some_iff.1 ht
      obtain ⟨xs, m, _, rfl, hl, hxs, hf⟩ := DataW.trod_struct hu h
      simp only [DataW.weights, hu] at hw
      have := typed_parts (n := n) (m := m) (fun h1 h2 h3 => typed_in n h1 h2 h3) (cs := cs) (fs.toList.map fun f => (f.offset, f.type)) 0 Ts xs (by rw [hl]; exact hoff) (by rw [List.map_map]; exact hTs) (by simpa using hxs)
        (fun i f hfi => by
          rw [List.getElem?_map, Option.map_eq_some_iff] at hfi
          obtain ⟨g, hg, rfl⟩ := hfi
          exact hf i g (by simpa using hg)) (by rw [List.map_map]; exact hw)
      simpa using this
    · rename_i k e hu
      split at ht
      case isFalse => cases ht
      rename_i hoff
      obtain ⟨Ts, hTs, rfl⟩ := Option.map_eq_some_iff.1 ht
      obtain ⟨xs, m, _, rfl, hl, hxs, hf⟩ := DataW.trod_array hu h
      simp only [DataW.weights, hu] at hw
      have hm : (placesOf k (P.cellsOf e) e k).map (·.2) = List.replicate k e := by
        have : ∀ j, (placesOf k (P.cellsOf e) e j).map (·.2) = List.replicate j e := by
          intro j
          induction j with
          | zero => rfl
          | succ j ih => rw [placesOf, List.map_cons, ih, List.replicate_succ]
        exact this k
      have hlen : (placesOf k (P.cellsOf e) e k).length = k := by
        have := congrArg List.length hm
        simpa using this
      have := typed_parts (n := n) (m := m) (fun h1 h2 h3 => typed_in n h1 h2 h3) (cs := cs) (placesOf k (P.cellsOf e) e k) 0 Ts xs (by rw [hl]; exact hoff) (by rw [hm]; exact hTs) (by rw [hlen, hxs])
        (fun i f hfi => by
          obtain ⟨h1, rfl⟩ := placesOf_get _ _ _ _ _ _ (Nat.le_refl _) hfi
          rw [Nat.sub_self, Nat.zero_add]
          exact hf i h1) (by rw [hm]; exact weights_rep (by rw [List.length_map, hxs]) hw)
      simpa using this
    · cases ht
end
end Go.Proofs.YtkdbphhekpdmhaaDoor
