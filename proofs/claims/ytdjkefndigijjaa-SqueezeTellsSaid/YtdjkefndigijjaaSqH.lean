/-
  What Squeeze leaves: of each key at most one behind the last Wipe that has it. No program.
-/
import Derived.Test.YtdjkefndigijjaaSqG
namespace Go.Proofs.Ytdjkefndigijjaa
open Go.RowKit
set_option linter.unusedVariables false
set_option linter.unusedSimpArgs false

theorem maxS_comm (a b : ByteArray) : maxS a b = maxS b a := by
  unfold maxS
  cases h : lt a b <;> cases h2 : lt b a
  · have := kp.less_total _ _ h h2
    rw [ByteArray.toList_eq, ByteArray.toList_eq] at this
    simp only [Bool.false_eq_true, if_false]
    cases a; cases b; congr 1; exact Array.ext' this
  · simp
  · simp
  · rw [show lt b a = false from kp.less_asymm _ _ h] at h2; cases h2
theorem minS_comm (a b : ByteArray) : minS a b = minS b a := by
  unfold minS
  cases h : lt a b <;> cases h2 : lt b a
  · have := kp.less_total _ _ h h2
    rw [ByteArray.toList_eq, ByteArray.toList_eq] at this
    simp only [Bool.false_eq_true, if_false]
    cases a; cases b; congr 1; exact Array.ext' this
  · simp
  · simp
  · rw [show lt b a = false from kp.less_asymm _ _ h] at h2; cases h2
theorem meet_comm (a b : Spn) : a.meet b = b.meet a := by
  unfold Spn.meet Spn.cut
  rw [maxS_comm a.lo b.lo, minS_comm a.hi b.hi, Bool.and_comm a.op b.op]
  cases a.op <;> cases b.op <;> rfl

theorem no_between : ∀ a b : List UInt8, Op.bytesLess a b = true → Op.bytesLess b (a ++ [0]) = false
  | _, [], h => by rw [kp.less_nil] at h; cases h
  | [], y :: ys, _ => by
    simp only [List.nil_append, kp.less_cons, kp.less_nil, Bool.and_false, Bool.or_false, decide_eq_false_iff_not]
    simp [UInt8.lt_iff_toNat_lt]
  | x :: xs, y :: ys, h => by
    simp only [kp.less_cons, Bool.or_eq_true, decide_eq_true_eq, Bool.and_eq_true, beq_iff_eq] at h
    simp only [List.cons_append, kp.less_cons, Bool.or_eq_false_iff, decide_eq_false_iff_not, Bool.and_eq_false_iff, beq_eq_false_iff_ne]
    rcases h with h | ⟨rfl, h⟩
    · exact ⟨fun h' => kp.u8_lt_irrefl _ (kp.u8_lt_trans h h'), .inl (fun e => by subst e; exact kp.u8_lt_irrefl _ h)⟩
    · exact ⟨kp.u8_lt_irrefl _, .inr (no_between xs ys h)⟩
theorem point_next (a : ByteArray) : (a ++ (⟨#[0]⟩ : ByteArray)).toList = a.toList ++ [0] := by
  rw [ByteArray.toList_eq, ByteArray.toList_eq, ByteArray.data_append, Array.toList_append]
theorem none_empty : Spn.none.empty = true := by decide +kernel
theorem norm_empty {s : Spn} (h : s.empty = true) : s.norm.empty = true := by
  unfold Spn.norm
  rw [if_pos h]
  exact none_empty
theorem point_touch {a b : ByteArray} (h : (pointS a).touch (pointS b) = true) : a = b := by
  have key : ∀ x y : ByteArray, lt x y = true → (pointS x).meet (pointS y) = Spn.none := by
    intro x y hxy
    have h1 : lt y (x ++ ⟨#[0]⟩) = false := by
      unfold lt; rw [point_next]; exact no_between _ _ hxy
    have h2 : maxS x y = y := by unfold maxS; rw [if_pos hxy]
    unfold Spn.meet Spn.norm
    have : ((pointS x).cut (pointS y)).empty = true := by
      unfold Spn.cut Spn.empty pointS
      simp only [h2, Bool.and_false, Bool.not_false, Bool.true_and, Bool.false_eq_true, if_false, Bool.not_eq_true']
      unfold minS
      split
      · rename_i h3
        cases h4 : lt y (y ++ ⟨#[0]⟩) with
        | false => rfl
        | true =>
          have := kp.less_trans _ _ _ h4 h3
          rw [show Op.bytesLess y.toList (x ++ ⟨#[0]⟩).toList = false from h1] at this; cases this
      · exact h1
    rw [if_pos this]
  cases h1 : lt a b with
  | true => unfold Spn.touch at h; rw [key a b h1, none_empty] at h; cases h
  | false =>
    cases h2 : lt b a with
    | true => unfold Spn.touch at h; rw [meet_comm, key b a h2, none_empty] at h; cases h
    | false =>
      have := kp.less_total _ _ h1 h2
      rw [ByteArray.toList_eq, ByteArray.toList_eq] at this
      cases a; cases b; congr 1; exact Array.ext' this

theorem firstFrom_none {p : Nat → Bool} : ∀ {f j : Nat}, firstFrom p f j = none → ∀ k, j ≤ k → k < j + f → p k = false
  | 0, j, _, k, h1, h2 => by omega
  | f + 1, j, h, k, h1, h2 => by
    simp only [firstFrom] at h
    by_cases hp : p j = true
    · rw [if_pos hp] at h; cases h
    · rw [if_neg hp] at h
      by_cases e : k = j
      · subst e; simpa using hp
      · exact firstFrom_none h k (by omega) (by omega)
theorem nextOf_none {l : List Msg} {i : Nat} {m : Msg} (hm : l[i]? = some m) (h : nextOf l i = none) {k : Nat} {x : Msg} (hk : i + 1 ≤ k) (hx : l[k]? = some x) : x.span.touch m.span = false := by
  unfold nextOf at h
  rw [hm] at h
  have hl := (List.getElem?_eq_some_iff.1 hx).1
  have := firstFrom_none h k hk (by omega)
  simpa [hx] using this
theorem nextOf_touch {l : List Msg} {i j : Nat} {m x : Msg} (hm : l[i]? = some m) (h : nextOf l i = some j) (hx : l[j]? = some x) : x.span.touch m.span = true := by
  unfold nextOf at h
  rw [hm] at h
  have := (firstFrom_some h).2.2
  simpa [hx] using this

theorem on_kind (m : Msg) (k : ByteArray) : (m.on k).kind ≠ 4 := by
  unfold Msg.on Eff.none
  split
  · split
    · rename_i h; simp only; omega
    · split <;> simp
  · simp
theorem thenC_kind {a b : Eff} (ha : a.kind ≠ 4) (hb : b.kind ≠ 4) : (a.thenC b).kind ≠ 4 := by
  unfold Eff.thenC
  split
  · exact ha
  · split
    · exact hb
    · simp only; split <;> omega

/-- a message and the next one that has to do with it, which adds -/
theorem join_next {m x : Msg} (h1 : m.kind ≠ 4) (h2 : x.kind = 2) (ht : x.span.touch m.span = true) : (joinF m x).2 = true ∧ (joinF m x).1.span = x.span ∧ (joinF m x).1.kind ≠ 4 ∧ (joinF m x).1.hi = x.hi := by
  have hx : x.span = pointS x.key := by unfold Msg.span; rw [if_neg (by omega)]
  have hm : m.span = pointS m.key := by unfold Msg.span; rw [if_neg h1]
  rw [hx, hm] at ht
  have hk := point_touch ht
  have hj : joinF m x = ({ x with kind := ((m.on m.key).thenC (x.on x.key)).kind, val := ((m.on m.key).thenC (x.on x.key)).val }, true) := by
    unfold joinF
    rw [if_neg (by omega), if_neg (by intro h; rcases h with h | h | h; exact h1 h; omega; exact h hk.symm)]
  rw [hj]
  have hne := thenC_kind (on_kind m m.key) (on_kind x x.key)
  refine ⟨rfl, ?_, hne, rfl⟩
  show Msg.span _ = _
  unfold Msg.span
  simp only
  rw [if_neg hne, if_neg (by omega)]

def Bd (m : Msg) : Prop := m.key.size ≤ 281474976710656 ∧ m.hi.size ≤ 281474976710656 ∧ m.val.size ≤ 4611686018427387903
structure SQ (i : Nat) (rest out : List Msg) : Prop where
  pair : onceP out
  ahead : ∀ m, m ∈ out → m.kind ≠ 4 → ∀ k x, i ≤ k → rest[k]? = some x → x.span.touch m.span = false
  bdR : ∀ m, m ∈ rest → Bd m
  bdO : ∀ m, m ∈ out → Bd m
  len : out.length ≤ i

theorem SQ.skip {i : Nat} {rest out : List Msg} (h : SQ i rest out) : SQ (i + 1) rest out := ⟨h.pair, fun m hm h4 k x hk hx => h.ahead m hm h4 k x (by omega) hx, h.bdR, h.bdO, by have := h.len; omega⟩
theorem SQ.add {i : Nat} {rest out : List Msg} (h : SQ i rest out) {m : Msg} (hm : rest[i]? = some m) (hn : m.kind ≠ 4 → nextOf rest i = none) : SQ (i + 1) rest (out ++ [m]) := by
  refine ⟨fun p q a x hpq hp hq h4 => ?_, fun a ha h4 k x hk hx => ?_, h.bdR, fun a ha => ?_, by rw [List.length_append]; have := h.len; simp; omega⟩
  · have hql := (List.getElem?_eq_some_iff.1 hq).1
    rw [List.length_append] at hql
    simp at hql
    have hpl : p < out.length := by omega
    rw [List.getElem?_append_left hpl] at hp
    rcases Nat.lt_or_ge q out.length with h1 | h1
    · rw [List.getElem?_append_left h1] at hq
      exact h.pair p q a x hpq hp hq h4
    · rw [List.getElem?_append_right h1] at hq
      have : q = out.length := by omega
      subst this
      simp at hq
      subst hq
      have := h.ahead a (List.mem_of_getElem? hp) h4 i m (Nat.le_refl _) hm
      unfold Spn.touch at this
      rw [meet_comm] at this
      simpa using this
  · rcases List.mem_append.1 ha with ha | ha
    · exact h.ahead a ha h4 k x (by omega) hx
    · simp at ha; subst ha
      exact nextOf_none hm (hn h4) hk hx
  · rcases List.mem_append.1 ha with ha | ha
    · exact h.bdO a ha
    · simp at ha; subst ha
      exact h.bdR a (List.mem_of_getElem? hm)

theorem sqGo_ok : ∀ (f i : Nat) (rest out : List Msg), SQ i rest out → i + f = rest.length → onceP (sqGo f i rest out) ∧ (∀ m, m ∈ sqGo f i rest out → Bd m) ∧ (sqGo f i rest out).length ≤ rest.length
  | 0, i, rest, out, h, hf => ⟨h.pair, h.bdO, by have := h.len; simp only [sqGo]; omega⟩
  | f + 1, i, rest, out, h, hf => by
    obtain ⟨m, hm⟩ : ∃ m, rest[i]? = some m := ⟨_, List.getElem?_eq_getElem (by omega)⟩
    simp only [sqGo, hm]
    by_cases hd : dead rest i = true
    · rw [if_pos hd]
      exact sqGo_ok f (i + 1) rest out h.skip (by omega)
    · rw [if_neg hd]
      cases hx : nextOf rest i with
      | none =>
        simp only
        exact sqGo_ok f (i + 1) rest _ (h.add hm (fun _ => hx)) (by omega)
      | some j =>
        obtain ⟨hij, x, hxj⟩ := nextOf_lt hx
        simp only [hxj]
        by_cases h4 : m.kind = 4
        · rw [if_pos h4]
          exact sqGo_ok f (i + 1) rest _ (h.add hm (fun h => absurd h4 h)) (by omega)
        · rw [if_neg h4]
          have hk : x.kind = 2 := by
            unfold dead at hd
            simp only [hm, hx, hxj, if_neg h4] at hd
            simpa using hd
          obtain ⟨j1, j2, j3, j4⟩ := join_next h4 hk (nextOf_touch hm hx hxj)
          rw [if_pos j1]
          have hjl := (List.getElem?_eq_some_iff.1 hxj).1
          have hsq : SQ (i + 1) (rest.set j (joinF m x).1) out := by
            refine ⟨h.pair, fun a ha ha4 k y hk' hy => ?_, fun a ha => ?_, h.bdO, by have := h.len; omega⟩
            · rw [List.getElem?_set] at hy
              split at hy
              · rename_i e
                subst e
                cases hy
                rw [j2]
                exact h.ahead a ha ha4 j x (by omega) hxj
              · exact h.ahead a ha ha4 k y (by omega) hy
            · rcases List.mem_or_eq_of_mem_set ha with ha | ha
              · exact h.bdR a ha
              · subst ha
                have b1 := h.bdR m (List.mem_of_getElem? hm)
                have b2 := h.bdR x (List.mem_of_getElem? hxj)
                obtain ⟨e1, e2⟩ := joinF_ok j1 b1.2.2 b2.2.2
                exact ⟨by rw [e1]; exact b2.1, by rw [j4]; exact b2.2.1, e2⟩
          have := sqGo_ok f (i + 1) (rest.set j (joinF m x).1) out hsq (by rw [List.length_set]; omega)
          rw [List.length_set] at this
          exact this

theorem squeeze_once (l : List Msg) (hb : MBig l) : onceP (squeezeF l) ∧ (∀ m, m ∈ squeezeF l → Bd m) ∧ (squeezeF l).length ≤ l.length :=
  sqGo_ok l.length 0 l [] ⟨(fun p q m x _ h => by simp at h), (fun m h => by cases h), (fun m hm => ⟨(hb.2 m hm).1, (hb.2 m hm).2.1, by have := (hb.2 m hm).2.2; omega⟩), (fun m h => by cases h), by simp⟩ (by omega)

theorem once_law (l : List Msg) (hb : MBig l) : AFn Try.prog 6 [.sl (l.map Msg.a)] (.bool true) := by
  obtain ⟨h1, h2, h3⟩ := squeeze_once l hb
  refine once_ok l hb (fun _ _ => h1) (fun hf => ?_)
  have hf' : bulks l ≤ 2000 := by have := of_decide_eq_true hf; omega
  have := bulks_len l
  exact ⟨⟨by omega, fun m hm => ⟨by have := (h2 m hm).1; omega, (h2 m hm).2.2⟩⟩, fun m hm => ⟨by have := (h2 m hm).1; omega, by have := (h2 m hm).2.1; omega⟩⟩
end Go.Proofs.Ytdjkefndigijjaa
