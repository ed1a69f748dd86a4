/-
  A machine with a heap, eleventh part: whatever order is drawn, it comes to what the machine's order does.
-/
import Derived.Test.YtcccaomnehdlbaaDoorHpJ
namespace Go.Proofs.YtcccaomnehdlbaaDoor
open Go.RowKit
set_option linter.unusedVariables false
set_option linter.unusedSimpArgs false
namespace Hm
section
variable {P : Program} {C : CallF} {N : Nat} {ops : Array Oper} {W : Tr Nat} {nx0 : Nat} {L : List Nat} {t : Nat → Dx} {E0 : Mx} {w0 : World}

/-- where the operations of S have been done; q: the place of the next one that must come in its place -/
structure Inv (ops : Array Oper) (W : Tr Nat) (nx0 : Nat) (L : List Nat) (t : Nat → Dx) (E0 : Mx) (w0 : World) (N q : Nat) (S : Nat → Bool) (E : Mx) (a : Act) (w : World) : Prop where
  rel : Rel E w
  size : a.tmps.size = N
  step : Step E0 w0 E w
  cl : ∀ i, S i = true → ∀ j, tb (dep ops i) j = true → S j = true
  qle : q ≤ L.length
  q1 : ∀ p k, p < q → L[p]? = some k → isLoud ops k → S k = true
  q2 : ∀ p k, q ≤ p → L[p]? = some k → isLoud ops k → S k = false
  q3 : q = L.length ∨ ∃ k, L[q]? = some k ∧ isLoud ops k
  heap : ∀ p r ob, q ≤ p → p ≤ L.length → (∀ p1 k, q ≤ p1 → p1 < p → L[p1]? = some k → isLoud ops k → (t (p1 + 1)).h.H.get r = (t p1).h.H.get r) →
    (∀ j, j < ops.size → r = nx0 + j → S j = true) → (t p).h.H.get r = some ob → E.H r = some ob
  names : ∀ r, E.U r → (r < nx0 ∧ E0.U r) ∨ (∃ j, j < ops.size ∧ S j = true ∧ r = nx0 + j) ∨ (nx0 + ops.size ≤ r ∧ r < (t q).h.nx)
  tmp : ∀ s, match W.get s with
    | none => Vr E w ((t 0).T.f s) (a.tmps.getD s undef)
    | some j => (S j = true → Vr E w ((t L.length).T.f s) (a.tmps.getD s undef)) ∧ (S j = false → Vr E w ((t 0).T.f s) (a.tmps.getD s undef))
  dfr : DRs E w (t q).D a.defers
  fr : ∀ r, E0.U r → (t 0).h.H.get r = none → E.H r = E0.H r

/-- where what an operation waits for has been done, the slots that it may look at read -/
theorem Inv.mask (h : Trc P C N ops W nx0 L t) {q : Nat} {S : Nat → Bool} {E : Mx} {a : Act} {w : World} (I : Inv ops W nx0 L t E0 w0 N q S E a w) {p k : Nat} (hk : L[p]? = some k) (hS : S k = false) (hd : ∀ j, tb (dep ops k) j = true → S j = true) (hd2 : ∀ j, tb (dep ops k) j = true → tb (t p).done j = true) :
    ∀ s, Vr E w (maskT W (depT ops.toList []) (t p).T k s) (a.tmps.getD s undef) := by
  intro s
  have hlt := h.lt hk
  have := I.tmp s
  unfold maskT
  cases hW : W.get s with
  | none =>
    rw [hW] at this
    dsimp only at this ⊢
    rw [h.slots p (Nat.zero_le _) (by omega) fun p1 k' _ _ _ => by rw [hW]; simp]
    exact this
  | some j =>
    rw [hW] at this
    dsimp only at this ⊢
    split
    · rename_i hj
      obtain ⟨p', h1, h2⟩ := (h.has p (by omega) j).1 (hd2 j hj)
      rw [← h.slots (s := s) (p := p) L.length (by omega) (Nat.le_refl _) fun p1 k' g1 g2 g3 e => by
        rw [hW] at e
        cases e
        have := h.uniq h2 g3
        omega]
      exact this.1 (hd j hj)
    · split
      · rename_i hj
        have hSj : S j = false := by
          cases e : S j with
          | false => rfl
          | true => have := I.cl j e k hj; rw [hS] at this; cases this
        rw [h.slots p (Nat.zero_le _) (by omega) fun p1 k' _ g2 g3 e => by
          rw [hW] at e
          cases e
          have := h.ahead hk g3 hj
          omega]
        exact this.2 hSj
      · exact .any _

theorem next_loud (ops : Array Oper) (L : List Nat) : ∀ (m q : Nat), q + m = L.length → ∃ q', q ≤ q' ∧ q' ≤ L.length ∧ (∀ p k, q ≤ p → p < q' → L[p]? = some k → ¬ isLoud ops k) ∧ (q' = L.length ∨ ∃ k, L[q']? = some k ∧ isLoud ops k)
  | 0, q, h => ⟨q, Nat.le_refl _, by omega, fun p k h1 h2 => by omega, .inl (by omega)⟩
  | m + 1, q, h => by
    have hk : L[q]? = some (L[q]'(by omega)) := List.getElem?_eq_getElem _
    by_cases hl : isLoud ops (L[q]'(by omega))
    · exact ⟨q, Nat.le_refl _, by omega, fun p k h1 h2 => by omega, .inr ⟨_, hk, hl⟩⟩
    · obtain ⟨q', h1, h2, h3, h4⟩ := next_loud ops L m (q + 1) (by omega)
      refine ⟨q', by omega, h2, fun p k g1 g2 g3 => ?_, h4⟩
      rcases Nat.eq_or_lt_of_le g1 with e | e
      · subst e; rw [hk] at g3; cases g3; exact hl
      · exact h3 p k e g2 g3

/-- what waits for nothing else has what it waits for done -/
theorem deps_done {S : Nat → Bool} (cl : ∀ i, S i = true → ∀ j, tb (dep ops i) j = true → S j = true) {k : Nat} {o : Oper} (ho : ops[k]? = some o) (hd : ∀ j, j ∈ direct o → S j = true) : ∀ j, tb (dep ops k) j = true → S j = true := by
  intro j hj
  obtain ⟨i, h1, h2⟩ := dep_mem ho hj
  rcases h2 with rfl | h2
  · exact hd _ h1
  · exact cl i (hd i h1) j h2
theorem dep_lt (h : Trc P C N ops W nx0 L t) : ∀ (k : Nat) (o : Oper), ops[k]? = some o → ∀ j, tb (dep ops k) j = true → j < k := by
  intro k
  induction k using Nat.strongRecOn with
  | ind k ih =>
    intro o ho j hj
    obtain ⟨i, h1, h2⟩ := dep_mem ho hj
    have hik := h.hedge k o ho i h1
    have hlt := (Array.getElem?_eq_some_iff.1 ho).1
    rcases h2 with rfl | h2
    · exact hik
    · have := ih i hik (ops[i]'(by omega)) (Array.getElem?_eq_getElem _) j h2
      omega

/-- an operation's slot is laid -/
theorem Inv.slot (h : Trc P C N ops W nx0 L t) {S : Nat → Bool} {E E' : Mx} {a : Act} {w w' : World} {ds : List Deferred} {p k : Nat} {o : Oper} {v : V} {u : Value} (hk : L[p]? = some k) (st : Stp P C N ops (depT ops.toList []) W nx0 k (t p) (t (p + 1)) o v)
    (hsz : a.tmps.size = N) (hs : Step E w E' w') (hv : Vr E' w' v u)
    (ht : ∀ s, match W.get s with
      | none => Vr E w ((t 0).T.f s) (a.tmps.getD s undef)
      | some j => (S j = true → Vr E w ((t L.length).T.f s) (a.tmps.getD s undef)) ∧ (S j = false → Vr E w ((t 0).T.f s) (a.tmps.getD s undef))) :
    (({ a with defers := ds } : Act).put o.dst u).tmps.size = N ∧ ∀ s, match W.get s with
      | none => Vr E' w' ((t 0).T.f s) ((({ a with defers := ds } : Act).put o.dst u).tmps.getD s undef)
      | some j => ((decide (j = k) || S j) = true → Vr E' w' ((t L.length).T.f s) ((({ a with defers := ds } : Act).put o.dst u).tmps.getD s undef)) ∧ ((decide (j = k) || S j) = false → Vr E' w' ((t 0).T.f s) ((({ a with defers := ds } : Act).put o.dst u).tmps.getD s undef)) := by
  have hlt := h.lt hk
  obtain ⟨hd, hT⟩ := putX_some h.hN st.put
  cases ho : o.dst with
  | none =>
    refine ⟨hsz, fun s => ?_⟩
    have := ht s
    cases hW : W.get s with
    | none => rw [hW] at this; exact this.step hs
    | some j =>
      rw [hW] at this
      dsimp only at this ⊢
      refine ⟨fun hj => ?_, fun hj => by
        rw [Bool.or_eq_false_iff] at hj
        exact (this.2 hj.2).step hs⟩
      by_cases e : j = k
      · subst e
        -- no slot is the operation's own
        obtain ⟨o', ho'⟩ : ∃ o', ops[j]? = some o' := ⟨_, st.op⟩
        rcases Classical.em (S j = true) with q | q
        · exact (this.1 q).step hs
        · exact absurd (h.own s j hW) (by
            rintro ⟨o2, g1, g2⟩
            rw [st.op] at g1
            cases g1
            rw [ho] at g2; cases g2)
      · simp only [e, decide_false, Bool.false_or] at hj
        exact (this.1 hj).step hs
  | some d =>
    have hdN := hd d ho
    have hWd := h.sole k o d st.op ho
    refine ⟨?_, fun s => ?_⟩
    · show (a.tmps.setIfInBounds d u).size = N
      rw [Array.size_setIfInBounds]; exact hsz
    have hget : (({ a with defers := ds } : Act).put (some d) u).tmps.getD s undef = if s = d then u else a.tmps.getD s undef := by
      show (a.tmps.setIfInBounds d u).getD s undef = _
      rw [getD_setH (by rw [hsz]; exact hdN)]
    have := ht s
    cases hW : W.get s with
    | none =>
      rw [hW] at this
      dsimp only at this ⊢
      rw [hget, if_neg (fun e => by rw [e, hWd] at hW; cases hW)]
      exact this.step hs
    | some j =>
      rw [hW] at this
      dsimp only at this ⊢
      refine ⟨fun hj => ?_, fun hj => by
        rw [Bool.or_eq_false_iff] at hj
        rw [hget, if_neg (fun e => by
          rw [e, hWd] at hW
          cases hW
          simp at hj)]
        exact (this.2 hj.2).step hs⟩
      rw [hget]
      by_cases e : s = d
      · subst e
        rw [if_pos rfl]
        rw [h.slots (s := s) (p := p + 1) L.length (by omega) (Nat.le_refl _) fun p1 k' g1 g2 g3 e => by
          rw [hWd] at e
          cases e
          have := h.uniq hk g3
          omega]
        rw [hT, ho]
        dsimp only
        rw [upd_same]
        exact hv
      · rw [if_neg e]
        by_cases e2 : j = k
        · subst e2
          obtain ⟨o2, g1, g2⟩ := h.own s j hW
          rw [st.op] at g1
          cases g1
          rw [ho] at g2
          cases g2
          exact absurd rfl e
        · simp only [e2, decide_false, Bool.false_or] at hj
          exact (this.1 hj).step hs
end
end Hm
end Go.Proofs.YtcccaomnehdlbaaDoor
