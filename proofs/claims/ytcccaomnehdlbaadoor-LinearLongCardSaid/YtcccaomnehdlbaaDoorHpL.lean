/-
  A machine with a heap, twelfth part: a region whose order is drawn.
-/
import Derived.Test.YtcccaomnehdlbaaDoorHpK
namespace Go.Proofs.YtcccaomnehdlbaaDoor
open Go.RowKit
set_option linter.unusedVariables false
set_option linter.unusedSimpArgs false
namespace Hm
section
variable {P : Program} {C : CallF} {N : Nat} {ops : Array Oper} {W : Tr Nat} {nx0 : Nat} {L : List Nat} {t : Nat → Dx} {E0 : Mx} {w0 : World}

theorem loud_is {k : Nat} {o : Oper} (ho : ops[k]? = some o) : isLoud ops k ↔ loud o = true := by
  constructor
  · rintro ⟨o', h1, h2⟩
    rw [ho] at h1; cases h1; exact h2
  · exact fun h => ⟨o, ho, h⟩
/-- what has been done ahead of what must come in its place, that waits for it -/
theorem Trc.waits (h : Trc P C N ops W nx0 L t) {p k p1 k1 : Nat} (hk : L[p]? = some k) (hk1 : L[p1]? = some k1) (hl : isLoud ops k1) (hlt : p < p1) : tb (dep ops k1) k = true := by
  obtain ⟨o, v, s⟩ := h.stp p1 k1 hk1
  rcases s.way with ⟨_, hd, _⟩ | ⟨g, _⟩
  · show tb ((depT ops.toList []).getD k1 0) k = true
    rw [← hd]
    exact (h.has p1 (Nat.le_of_lt (h.lt hk1).1) k).2 ⟨p, hlt, hk⟩
  · rw [(loud_is s.op).1 hl] at g; cases g

theorem Inv.quiet_end (h : Trc P C N ops W nx0 L t) (hU0 : ∀ r, E0.U r → r < nx0) {q : Nat} {S : Nat → Bool} {E E' : Mx} {a : Act} {w w' : World} (I : Inv ops W nx0 L t E0 w0 N q S E a w) {p k : Nat} {o : Oper} {v : V} {u : Value} (hk : L[p]? = some k)
    (st : Stp P C N ops (depT ops.toList []) W nx0 k (t p) (t (p + 1)) o v) (hS : S k = false) (hl : ¬ isLoud ops k) (hd : ∀ j, tb (dep ops k) j = true → S j = true) (hR : Rel E' w') (hs : Step E w E' w') (hv : Vr E' w' v u)
    {ob : Option Ob} (hHt : (t (p + 1)).h.H.get = match ob with
        | none => (t p).h.H.get
        | some ob => upd (t p).h.H.get (nx0 + k) (some ob))
    (hH : E'.H = match ob with
        | none => E.H
        | some ob => upd E.H (nx0 + k) (some ob))
    (hU : ∀ r, E'.U r → E.U r ∨ r = nx0 + k) :
    Inv ops W nx0 L t E0 w0 N q (fun j => decide (j = k) || S j) E' (a.put o.dst u) w' := by
  have hlt := h.lt hk
  obtain ⟨z1, z2⟩ := Inv.slot (ds := a.defers) h hk st I.size hs hv I.tmp
  have hdf : (a.put o.dst u).defers = a.defers := by cases o.dst <;> rfl
  have hsub : ∀ j, S j = true → (decide (j = k) || S j) = true := fun j e => by rw [e, Bool.or_true]
  have hne : ∀ r, r ≠ nx0 + k → E'.H r = E.H r := fun r e => by
    rw [hH]
    cases ob with
    | none => rfl
    | some ob => exact upd_ne _ _ e
  refine ⟨hR, z1, I.step.trans hs, fun i hi j hj => ?_, I.qle, fun p1 k1 g1 g2 g3 => hsub _ (I.q1 p1 k1 g1 g2 g3), fun p1 k1 g1 g2 g3 => ?_, I.q3, fun p1 r ob1 g1 g2 g3 g4 g5 => ?_, fun r hr => ?_, z2, ?_, fun r g1 g2 => ?_⟩
  · by_cases e : i = k
    · rw [e] at hj; exact hsub _ (hd j hj)
    · simp only [e, decide_false, Bool.false_or] at hi
      exact hsub _ (I.cl i hi j hj)
  · have : k1 ≠ k := fun e => hl (e ▸ g3)
    simp only [this, decide_false, Bool.false_or]
    exact I.q2 p1 k1 g1 g2 g3
  · by_cases e : r = nx0 + k
    · subst e
      have hp : p < p1 := by
        rcases Nat.lt_or_ge p p1 with z | z
        · exact z
        · rw [h.unborn hk p1 z] at g5; cases g5
      have hsame := h.same (r := nx0 + k) (p := p + 1) p1 hp g2 fun p2 k2 y1 y2 y3 => ⟨fun y4 => ?_, fun y4 e => ?_⟩
      · rw [hsame, hHt] at g5
        cases ob with
        | none =>
          dsimp only at g5
          rw [h.unborn hk p (Nat.le_refl _)] at g5; cases g5
        | some ob2 =>
          dsimp only at g5
          rw [upd_same] at g5
          rw [hH]
          dsimp only
          rw [upd_same]; exact g5
      · rcases Nat.lt_or_ge p2 q with z | z
        · have a1 := I.q1 p2 k2 z y3 y4
          have a2 := I.cl k2 a1 k (h.waits hk y3 y4 (by omega))
          rw [hS] at a2; cases a2
        · exact g3 p2 k2 z y2 y3 y4
      · have e2 : k2 = k := by omega
        rw [e2] at y3
        have := h.uniq hk y3
        omega
    · rw [hne r e]
      refine I.heap p1 r ob1 g1 g2 g3 (fun j y1 y2 => ?_) g5
      have := g4 j y1 y2
      have e2 : j ≠ k := fun e3 => e (by rw [y2, e3])
      simpa only [e2, decide_false, Bool.false_or] using this
  · rcases hU r hr with z | z
    · rcases I.names r z with y | ⟨j, y1, y2, y3⟩ | y
      · exact .inl y
      · exact .inr (.inl ⟨j, y1, hsub _ y2, y3⟩)
      · exact .inr (.inr y)
    · exact .inr (.inl ⟨k, hlt.2, by simp, z⟩)
  · rw [hdf]; exact I.dfr.step hs
  · rw [hne r (by have := hU0 r g1; omega)]
    exact I.fr r g1 g2

theorem Inv.quiet (h : Trc P C N ops W nx0 L t) (hU0 : ∀ r, E0.U r → r < nx0) {q : Nat} {S : Nat → Bool} {E : Mx} {a : Act} {w : World} (I : Inv ops W nx0 L t E0 w0 N q S E a w) {k : Nat} {o : Oper} (ho : ops[k]? = some o) (hS : S k = false) (hl : ¬ isLoud ops k) (hdir : ∀ j, j ∈ direct o → S j = true)
    {lo : Option Nat} (hlo : lo = none ∨ noDfr o = true) (Q : Exit → Act → World → Prop) {K : Act → World → Prop} (hK : ∀ E' a' w', Inv ops W nx0 L t E0 w0 N q (fun j => decide (j = k) || S j) E' a' w' → K a' w') :
    (if Region.wanted o (yielded ops a.tmps) then o.wpIn (FF lo) 0 P a w K Q else K (a.put o.dst undef) w) := by
  obtain ⟨p, hk⟩ := h.pos (Array.getElem?_eq_some_iff.1 ho).1
  have hlt := h.lt hk
  obtain ⟨o', v, st⟩ := h.stp p k hk
  have heq : o' = o := by have := st.op; rw [ho] at this; exact (Option.some.inj this).symm
  subst heq
  rcases st.way with ⟨g, _⟩ | ⟨_, hd2, hD, hnx, _, hlds, ob, hq, hHt⟩
  · exact absurd ⟨_, ho, g⟩ hl
  have hd := deps_done I.cl ho hdir
  have hT : ∀ s, Vr E w (maskT W (depT ops.toList []) (t p).T k s) (a.tmps.getD s undef) := I.mask h hk hS hd hd2
  have hG : ∀ r ob, maskG (t p).h.H (t p).lds (dep ops k) nx0 ops.size r = some ob → E.H r = some ob := by
    intro r ob hr
    unfold maskG at hr
    split at hr
    · rename_i ob1 hget
      split at hr
      · cases hr
      · rename_i hbad
        cases hr
        unfold bad at hbad
        rw [Bool.or_eq_false_iff, List.any_eq_false] at hbad
        obtain ⟨hb1, hb2⟩ := hbad
        have hav : ∀ j, j < ops.size → r = nx0 + j → S j = true := fun j y1 y2 => by
          refine hd j ?_
          rw [y2, Nat.ble_eq_true_of_le (Nat.le_add_right _ _), show Nat.blt (nx0 + j) (nx0 + ops.size) = true from Nat.ble_eq_true_of_le (by omega)] at hb1
          simpa using hb1
        rcases Nat.lt_or_ge p q with z | z
        · have hsame := h.same (r := r) (p := p) q (Nat.le_of_lt z) I.qle fun p2 k2 y1 y2 y3 => ⟨fun y4 => ?_, fun y4 e => ?_⟩
          · rw [← hsame] at hget
            exact I.heap q r ob (Nat.le_refl _) I.qle (fun p1 k1 y1 y2 => by omega) hav hget
          · have hp : p < p2 := by
              rcases Nat.eq_or_lt_of_le y1 with e | e
              · subst e; rw [hk] at y3; cases y3; exact absurd y4 hl
              · exact e
            have a1 := I.q1 p2 k2 y2 y3 y4
            have a2 := I.cl k2 a1 k (h.waits hk y3 y4 hp)
            rw [hS] at a2; cases a2
          · rw [e, h.unborn y3 p y1] at hget; cases hget
        · refine I.heap p r ob z (Nat.le_of_lt hlt.1) (fun p1 k1 y1 y2 y3 y4 => ?_) hav hget
          obtain ⟨x, hx1, hx2, hx3⟩ := h.recd y3 y4 p y2 (Nat.le_of_lt hlt.1)
          refine hx3 r ?_
          have hnd : tb (dep ops k) k1 = false := by
            cases e : tb (dep ops k) k1 with
            | false => rfl
            | true => have := hd k1 e; rw [I.q2 p1 k1 y1 y3 y4] at this; cases this
          have := hb2 x hx1
          rw [hx2, hnd] at this
          simpa using this
    · cases hr
  unfold quietX at hq
  split at hq
  · cases hq
  rename_i hwk
  rw [wantV_is hT ops o' hwk]
  have hnu : ¬ E.U (nx0 + k) := fun z => by
    rcases I.names _ z with y | ⟨j, y1, y2, y3⟩ | y
    · omega
    · have : j = k := by omega
      rw [this, hS] at y2; cases y2
    · have := y.1; omega
  have hop := fun {f} (e : op1 P (maskT W (depT ops.toList []) (t p).T k) (maskG (t p).h.H (t p).lds ((depT ops.toList []).getD k 0) nx0 ops.size) (nx0 + k) o' = some f) => op1_sound (a := a) I.rel hnu (fun x => by
      cases x with
      | tmp t => exact hT t
      | const v => exact .lit v
      | global g => exact .lit _
      | func f => exact .lit _) hG e
  split at hq
  · rename_i hw
    rw [hw, if_pos rfl]
    split at hq
    · rename_i v' nx' he
      split at hq
      · rename_i hle
        cases hq
        obtain ⟨u, w', E', hrun, hv, hR', hS', hHH, hU⟩ := hop he
        have hle' := Nat.le_of_ble_eq_true hle
        have fin : K (a.put o'.dst u) w' := hK E' _ _ (I.quiet_end (ob := none) h hU0 hk st hS hl hd hR' hS' hv hHt hHH fun r hr => ((hU r).1 hr).imp id fun z => by omega)
        refine ⟨fun _ _ => trivial, ?_⟩
        rw [show (FF lo).round = lo from rfl, semAtX hlo]
        rcases hrun with hrun | ⟨hrun, rfl⟩
        · rw [hrun, Oper.uponIn_value]; exact fin
        · rw [hrun, Oper.uponIn_skip]; exact fin
      · cases hq
    · rename_i v' q' ob' nx' he
      split at hq
      · rename_i hle hqe
        cases hq
        obtain ⟨u, w', E', hrun, hv, hR', hS', hHH, hU⟩ := hop he
        have hle' := Nat.le_of_ble_eq_true hle
        have hqe' := Nat.eq_of_beq_eq_true hqe
        subst hqe'
        have fin : K (a.put o'.dst u) w' := hK E' _ _ (I.quiet_end (ob := some ob') h hU0 hk st hS hl hd hR' hS' hv hHt hHH fun r hr => ((hU r).1 hr).imp id fun z => by omega)
        refine ⟨fun _ _ => trivial, ?_⟩
        rw [show (FF lo).round = lo from rfl, semAtX hlo]
        rcases hrun with hrun | ⟨hrun, rfl⟩
        · rw [hrun, Oper.uponIn_value]; exact fin
        · rw [hrun, Oper.uponIn_skip]; exact fin
      · cases hq
    · cases hq
  · rename_i hw
    rw [hw, if_neg (by decide)]
    cases hq
    exact hK E _ _ (I.quiet_end (ob := none) h hU0 hk st hS hl hd I.rel (Step.refl _ _) (.lit undef) hHt rfl fun r hr => .inl hr)

theorem Inv.loud (h : Trc P C N ops W nx0 L t) (hU0 : ∀ r, E0.U r → r < nx0) {q : Nat} {S : Nat → Bool} {E : Mx} {a : Act} {w : World} (I : Inv ops W nx0 L t E0 w0 N q S E a w) {k : Nat} {o : Oper} (ho : ops[k]? = some o) (hS : S k = false) (hl : isLoud ops k) (hdir : ∀ j, j ∈ direct o → S j = true)
    {lo : Option Nat} (hlo : lo = none ∨ noDfr o = true) (Q : Exit → Act → World → Prop) {K : Act → World → Prop} (hK : ∀ q' E' a' w', Inv ops W nx0 L t E0 w0 N q' (fun j => decide (j = k) || S j) E' a' w' → K a' w') :
    (if Region.wanted o (yielded ops a.tmps) then o.wpIn (FF lo) 0 P a w K Q else K (a.put o.dst undef) w) := by
  obtain ⟨p, hk⟩ := h.pos (Array.getElem?_eq_some_iff.1 ho).1
  have hlt := h.lt hk
  obtain ⟨o', v, st⟩ := h.stp p k hk
  have heq : o' = o := by have := st.op; rw [ho] at this; exact (Option.some.inj this).symm
  subst heq
  have hd := deps_done I.cl ho hdir
  have hpq : p = q := by
    have h1 : q ≤ p := by
      rcases Nat.lt_or_ge p q with z | z
      · have := I.q1 p k z hk hl; rw [hS] at this; cases this
      · exact z
    rcases Nat.eq_or_lt_of_le h1 with z | z
    · exact z.symm
    · rcases I.q3 with y | ⟨k1, y1, y2⟩
      · omega
      · have a1 := hd k1 (h.waits y1 hk hl z)
        rw [I.q2 q k1 (Nat.le_refl _) y1 y2] at a1; cases a1
  subst hpq
  rcases st.way with ⟨_, hdone, h', he, hh, _⟩ | ⟨g, _⟩
  case inr => rw [(loud_is ho).1 hl] at g; cases g
  have hT : ∀ s, Vr E w (maskT W (depT ops.toList []) (t p).T k s) (a.tmps.getD s undef) := I.mask h hk hS hd fun j hj => by rw [hdone]; exact hj
  have hH : ∀ r ob, (t p).h.H.get r = some ob → E.H r = some ob := fun r ob hr => by
    refine I.heap p r ob (Nat.le_refl _) I.qle (fun p1 k1 y1 y2 => by omega) (fun j y1 y2 => ?_) hr
    obtain ⟨pj, hj⟩ := h.pos y1
    rcases Nat.lt_or_ge pj p with z | z
    · refine hd j ?_
      show tb ((depT ops.toList []).getD k 0) j = true
      rw [← hdone]
      exact (h.has p (Nat.le_of_lt hlt.1) j).2 ⟨pj, z, hj⟩
    · rw [y2, h.unborn hj p z] at hr; cases hr
  have hge := h.nx_ge p (Nat.le_of_lt hlt.1)
  have hfr : ∀ r, E.U r → r < (t p).h.nx := fun r hr => by
    rcases I.names r hr with y | ⟨j, y1, y2, y3⟩ | y
    · omega
    · omega
    · exact y.2
  have hst := effX_h h.hC he
  refine effX_sound (h := ⟨(t p).h.H, (t p).h.nx, []⟩) h.hC I.rel hT hH hfr he hlo Q ?_
  rintro a' w' ⟨u, E', ds, rfl, hv, hn, hDD⟩
  obtain ⟨q', n1, n2, n3, n4⟩ := next_loud ops L (L.length - (p + 1)) (p + 1) (by omega)
  obtain ⟨z1, z2⟩ := Inv.slot (ds := ds) h hk st I.size hn.step hv I.tmp
  have hdf : (({ a with defers := ds } : Act).put o'.dst u).defers = ds := by cases o'.dst <;> rfl
  have hsub : ∀ j, S j = true → (decide (j = k) || S j) = true := fun j e => by rw [e, Bool.or_true]
  obtain ⟨m1, m2⟩ := h.quiets (p := p + 1) q' n1 n2 n3
  have hh2 : (t (p + 1)).h.nx = h'.nx := by rw [hh]
  have hh3 : (t (p + 1)).h.H = h'.H := by rw [hh]
  have hnx : (t p).h.nx ≤ h'.nx := hst.nx
  refine hK q' E' _ _ ⟨hn.rel, z1, I.step.trans hn.step, fun i hi j hj => ?_, n2, fun p1 k1 g1 g2 g3 => ?_, fun p1 k1 g1 g2 g3 => ?_, n4, fun p1 r ob1 g1 g2 g3 g4 g5 => ?_, fun r hr => ?_, z2, ?_, fun r g1 g2 => ?_⟩
  · by_cases e : i = k
    · rw [e] at hj; exact hsub _ (hd j hj)
    · simp only [e, decide_false, Bool.false_or] at hi
      exact hsub _ (I.cl i hi j hj)
  · rcases Nat.lt_or_ge p1 p with z | z
    · exact hsub _ (I.q1 p1 k1 z g2 g3)
    · rcases Nat.eq_or_lt_of_le z with e | e
      · subst e; rw [hk] at g2; cases g2; simp
      · exact absurd g3 (n3 p1 k1 e g1 g2)
  · have : k1 ≠ k := fun e => by
      rw [e] at g2
      have := h.uniq hk g2
      omega
    simp only [this, decide_false, Bool.false_or]
    exact I.q2 p1 k1 (by omega) g2 g3
  · have hpl : p + 1 ≤ p1 := by omega
    have lou : ∀ p2 k2, p + 1 ≤ p2 → p2 < p1 → L[p2]? = some k2 → isLoud ops k2 → (t (p2 + 1)).h.H.get r = (t p2).h.H.get r := fun p2 k2 y1 y2 y3 y4 => by
      rcases Nat.lt_or_ge p2 q' with z | z
      · exact absurd y4 (n3 p2 k2 y1 z y3)
      · exact g3 p2 k2 z y2 y3 y4
    cases hc : (t (p + 1)).h.H.get r with
    | some ob2 =>
      have hsame := h.same (r := r) (p := p + 1) p1 hpl g2 fun p2 k2 y1 y2 y3 => ⟨lou p2 k2 y1 y2 y3, fun y4 e => by rw [e, h.unborn y3 (p + 1) y1] at hc; cases hc⟩
      rw [hsame, hh3] at g5
      exact hn.H r ob1 g5
    | none =>
      by_cases hex : ∃ p2 k2, p + 1 ≤ p2 ∧ p2 < p1 ∧ L[p2]? = some k2 ∧ r = nx0 + k2
      · obtain ⟨p2, k2, y1, y2, y3, y4⟩ := hex
        have hk2 : k2 ≠ k := fun e => by rw [e] at y3; have := h.uniq hk y3; omega
        have hS2 : S k2 = true := by
          have := g4 k2 (h.lt y3).2 y4
          simpa only [hk2, decide_false, Bool.false_or] using this
        have hnone : (t p).h.H.get r = none := by rw [y4]; exact h.unborn y3 p (by omega)
        have hE : E.H r = some ob1 := by
          refine I.heap p1 r ob1 (by omega) g2 (fun p3 k3 x1 x2 x3 x4 => ?_) (fun j x1 x2 => ?_) g5
          · rcases Nat.eq_or_lt_of_le x1 with e | e
            · subst e; rw [hc, hnone]
            · exact lou p3 k3 e x2 x3 x4
          · have : j = k2 := by omega
            rw [this]; exact hS2
        rw [hn.fr r (I.rel.used r ob1 hE) hnone]; exact hE
      · have hsame := h.same (r := r) (p := p + 1) p1 hpl g2 fun p2 k2 y1 y2 y3 => ⟨lou p2 k2 y1 y2 y3, fun y4 e => hex ⟨p2, k2, y1, y2, y3, e⟩⟩
        rw [hsame, hc] at g5; cases g5
  · rcases hn.U r hr with z | z
    · rcases I.names r z with y | ⟨j, y1, y2, y3⟩ | y
      · exact .inl y
      · exact .inr (.inl ⟨j, y1, hsub _ y2, y3⟩)
      · exact .inr (.inr ⟨y.1, by rw [m2, hh2]; omega⟩)
    · refine .inr (.inr ⟨?_, by rw [m2, hh2]; exact z.2⟩)
      have : (t p).h.nx ≤ r := z.1
      omega
  · rw [hdf, m1]; exact hDD I.dfr
  · have g3 := h.old (hU0 r g1) g2 p (Nat.le_of_lt hlt.1)
    rw [hn.fr r (I.step.used r g1) g3]
    exact I.fr r g1 g2
end
end Hm
end Go.Proofs.YtcccaomnehdlbaaDoor
