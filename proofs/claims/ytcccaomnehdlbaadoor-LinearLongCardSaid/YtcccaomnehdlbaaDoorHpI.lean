/-
  A machine with a heap, ninth part: it runs: regions, code, functions.
-/
import Derived.Test.YtcccaomnehdlbaaDoorHpH
import Derived.LoopN
import Derived.LoopNIn
import Derived.OrdersIn
import Derived.RangeFuncIn
import Derived.RangeFuncLeaves
import Derived.RangeFuncRecord
import Derived.Defers
namespace Go.Proofs.YtcccaomnehdlbaaDoor
open Go.RowKit
set_option linter.unusedVariables false
set_option linter.unusedSimpArgs false
namespace Hm

theorem Tr.get_set {α : Type} {x : Option α} : ∀ (f : Nat) (t : Tr α) (n m : Nat), n + 1 < 2 ^ f → (t.set f n x).get m = if m = n then x else t.get m
  | 0, t, n, m, h => by simp at h
  | f + 1, t, n, m, h => by
    have half : ∀ k, k + 1 + 1 < 2 ^ (f + 1) → k / 2 + 1 < 2 ^ f := fun k hk => by rw [Nat.pow_succ] at hk; omega
    have e2 : ∀ k, Nat.beq (k % 2) 0 = true ↔ k % 2 = 0 := fun k => by simp
    have e3 : ∀ k, Nat.beq (k % 2) 0 = false ↔ k % 2 ≠ 0 := fun k => by rw [← Bool.not_eq_true, e2]
    cases t with
    | lf =>
      cases n with
      | zero =>
        cases m with
        | zero => simp [Tr.set, Tr.get]
        | succ m => simp only [Tr.set, Tr.get]; split <;> simp
      | succ k =>
        have hk := half k h
        simp only [Tr.set]
        cases hb : Nat.beq (k % 2) 0 with
        | true =>
          have hb' := (e2 k).1 hb
          cases m with
          | zero => simp [Tr.get]
          | succ m =>
            simp only [Tr.get]
            cases hm : Nat.beq (m % 2) 0 with
            | true =>
              have hm' := (e2 m).1 hm
              dsimp only
              rw [Tr.get_set f .lf (k / 2) (m / 2) hk]
              by_cases q : m = k
              · subst q; simp
              · rw [if_neg (by omega), if_neg (by omega)]; rfl
            | false =>
              have hm' := (e3 m).1 hm
              dsimp only
              rw [if_neg (by intro q; have : m = k := by omega
                             subst this; exact hm' hb')]
        | false =>
          have hb' := (e3 k).1 hb
          cases m with
          | zero => simp [Tr.get]
          | succ m =>
            simp only [Tr.get]
            cases hm : Nat.beq (m % 2) 0 with
            | true =>
              have hm' := (e2 m).1 hm
              dsimp only
              rw [if_neg (by intro q; have : m = k := by omega
                             subst this; exact hb' hm')]
            | false =>
              have hm' := (e3 m).1 hm
              dsimp only
              rw [Tr.get_set f .lf (k / 2) (m / 2) hk]
              by_cases q : m = k
              · subst q; simp
              · rw [if_neg (by omega), if_neg (by omega)]; rfl
    | nd l v r =>
      cases n with
      | zero =>
        cases m with
        | zero => simp [Tr.set, Tr.get]
        | succ m => simp [Tr.set, Tr.get]
      | succ k =>
        have hk := half k h
        simp only [Tr.set]
        cases hb : Nat.beq (k % 2) 0 with
        | true =>
          have hb' := (e2 k).1 hb
          cases m with
          | zero => simp [Tr.get]
          | succ m =>
            simp only [Tr.get]
            cases hm : Nat.beq (m % 2) 0 with
            | true =>
              have hm' := (e2 m).1 hm
              dsimp only
              rw [Tr.get_set f l (k / 2) (m / 2) hk]
              by_cases q : m = k
              · subst q; simp
              · rw [if_neg (by omega), if_neg (by omega)]
            | false =>
              have hm' := (e3 m).1 hm
              dsimp only
              rw [if_neg (by intro q; have : m = k := by omega
                             subst this; exact hm' hb')]
        | false =>
          have hb' := (e3 k).1 hb
          cases m with
          | zero => simp [Tr.get]
          | succ m =>
            simp only [Tr.get]
            cases hm : Nat.beq (m % 2) 0 with
            | true =>
              have hm' := (e2 m).1 hm
              dsimp only
              rw [if_neg (by intro q; have : m = k := by omega
                             subst this; exact hb' hm')]
            | false =>
              have hm' := (e3 m).1 hm
              dsimp only
              rw [Tr.get_set f r (k / 2) (m / 2) hk]
              by_cases q : m = k
              · subst q; simp
              · rw [if_neg (by omega), if_neg (by omega)]
theorem Tr.get_set20 {α : Type} {x : Option α} {t : Tr α} {n m : Nat} (h : n < 1000000) : (t.set 20 n x).get m = if m = n then x else t.get m :=
  Tr.get_set 20 t n m (by omega)
theorem blt_lt {a b : Nat} (h : Nat.blt a b = true) : a < b := Nat.le_of_ble_eq_true h
theorem upsX_H : ∀ {ups : List (Nat × Option Ob)} {nx nx' : Nat} {t t' : Tr Ob}, upsX nx nx' ups t = some t' → t'.get = upsH ups t.get
  | [], nx, nx', t, t', h => by cases h; rfl
  | p :: l, nx, nx', t, t', h => by
    simp only [upsX] at h
    split at h
    · rename_i hb0
      have hb := (Bool.and_eq_true _ _ ▸ hb0).2
      have key : upsX nx nx' l (t.set 20 p.1 p.2) = some t' → t'.get = upsH (p :: l) t.get := fun h => by
        rw [upsX_H h]
        show upsH l _ = upsH l (upd t.get p.1 p.2)
        congr 1
        funext m
        rw [Tr.get_set20 (blt_lt hb)]
        rfl
      split at h
      · exact key h
      · split at h
        · exact key h
        · cases h
    · cases h
/-- what was no object's before stays so -/
theorem upsX_dead : ∀ {ups : List (Nat × Option Ob)} {nx nx' : Nat} {t t' : Tr Ob}, upsX nx nx' ups t = some t' → ∀ q, q < nx → t.get q = none → t'.get q = none ∧ ∀ G : Nat → Option Ob, upsH ups G q = G q
  | [], nx, nx', t, t', h, q, hq, e => by cases h; exact ⟨e, fun _ => rfl⟩
  | p :: l, nx, nx', t, t', h, q, hq, e => by
    simp only [upsX] at h
    split at h
    · rename_i hb0
      have hb := (Bool.and_eq_true _ _ ▸ hb0).2
      have key : q ≠ p.1 → upsX nx nx' l (t.set 20 p.1 p.2) = some t' → t'.get q = none ∧ ∀ G : Nat → Option Ob, upsH (p :: l) G q = G q := fun hne h => by
        obtain ⟨k1, k2⟩ := upsX_dead h q hq (by rw [Tr.get_set20 (blt_lt hb), if_neg hne]; exact e)
        refine ⟨k1, fun G => ?_⟩
        show upsH l (upd G p.1 p.2) q = G q
        rw [k2, upd_ne _ _ hne]
      split at h
      · rename_i hle
        exact key (fun e => by have := Nat.le_of_ble_eq_true hle; omega) h
      · split at h
        · rename_i hs
          exact key (fun e' => by rw [← e', e] at hs; cases hs) h
        · cases h
    · cases h
theorem upsX_top : ∀ {ups : List (Nat × Option Ob)} {nx nx' : Nat} {t t' : Tr Ob}, upsX nx nx' ups t = some t' → ∀ q, nx' ≤ q → t'.get q = t.get q
  | [], nx, nx', t, t', h, q, hq => by cases h; rfl
  | p :: l, nx, nx', t, t', h, q, hq => by
    simp only [upsX] at h
    split at h
    · rename_i hb0
      obtain ⟨hb1, hb⟩ := (Bool.and_eq_true _ _ ▸ hb0)
      have key : upsX nx nx' l (t.set 20 p.1 p.2) = some t' → t'.get q = t.get q := fun h => by
        rw [upsX_top h q hq, Tr.get_set20 (blt_lt hb), if_neg (by have := blt_lt hb1; omega)]
      split at h
      · exact key h
      · split at h
        · exact key h
        · cases h
    · cases h
theorem upsH_same : ∀ {ups : List (Nat × Option Ob)} {G : Nat → Option Ob} {q : Nat}, q ∉ ups.map (·.1) → upsH ups G q = G q
  | [], G, q, h => rfl
  | p :: l, G, q, h => by
    simp only [List.map_cons, List.mem_cons, not_or] at h
    show upsH l (upd G p.1 p.2) q = G q
    rw [upsH_same h.2, upd_ne _ _ h.1]
theorem upsH_mono : ∀ {ups : List (Nat × Option Ob)} {F G : Nat → Option Ob}, (∀ q ob, F q = some ob → G q = some ob) → ∀ q ob, upsH ups F q = some ob → upsH ups G q = some ob
  | [], F, G, h, q, ob, e => h q ob e
  | p :: l, F, G, h, q, ob, e => by
    refine upsH_mono (F := upd F p.1 p.2) (G := upd G p.1 p.2) (fun q ob e => ?_) q ob e
    by_cases hq : q = p.1
    · subst hq; rw [upd_same] at e ⊢; exact e
    · rw [upd_ne _ _ hq] at e ⊢; exact h q ob e
theorem Tr.f_set {t : Tr V} {d : Nat} {v : V} (hd : d + 1 < 1024) : (t.set 10 d (some v)).f = upd t.f d v := by
  funext m
  unfold Tr.f upd
  rw [Tr.get_set 10 t d m hd]
  split <;> rfl

/-- calls that are put off -/
structure DRs (E : Mx) (w : World) (D : List (FuncId × List V)) (ds : List Deferred) : Prop where
  len : D.length = ds.length
  at_ : ∀ (j : Nat) (x : FuncId × List V) (d : Deferred), D[j]? = some x → ds[j]? = some d → DfrR E w x d
/-- the machine's state stands for a frame and a world -/
structure SRel (E : Mx) (T : Nat → V) (D : List (FuncId × List V)) (N : Nat) (a : Act) (w : World) : Prop where
  rel : Rel E w
  size : a.tmps.size = N
  tmp : ∀ t, Vr E w (T t) (a.tmps.getD t undef)
  dfr : DRs E w D a.defers
structure XRel (E : Mx) (s : Sx) (N : Nat) (a : Act) (w : World) : Prop where
  sr : SRel E s.T.f s.D N a w
  H : ∀ q ob, s.h.H.get q = some ob → E.H q = some ob
  fr : ∀ q, E.U q → q < s.h.nx
/-- how the machine's heap goes on -/
structure HStep (h h' : Hx) : Prop where
  nx : h.nx ≤ h'.nx
  dead : ∀ q, q < h.nx → h.H.get q = none → h'.H.get q = none
  log : ∀ q, q < h.nx → q ∉ h'.lg → h'.H.get q = h.H.get q
  keep : ∀ q, q ∈ h.lg → q ∈ h'.lg
  top : ∀ q, h'.nx ≤ q → h'.H.get q = h.H.get q
theorem HStep.refl (h : Hx) : HStep h h := ⟨Nat.le_refl _, fun _ _ e => e, fun _ _ _ => rfl, fun _ e => e, fun _ _ => rfl⟩
theorem HStep.trans {h h' h'' : Hx} (k : HStep h h') (k' : HStep h' h'') : HStep h h'' :=
  ⟨Nat.le_trans k.nx k'.nx, fun q hq e => k'.dead q (Nat.lt_of_lt_of_le hq k.nx) (k.dead q hq e),
    fun q hq e => (k'.log q (Nat.lt_of_lt_of_le hq k.nx) e).trans (k.log q hq fun z => e (k'.keep q z)), fun q e => k'.keep q (k.keep q e), fun q hq => (k'.top q hq).trans (k.top q (Nat.le_trans k'.nx hq))⟩
theorem DRs.step {E E' : Mx} {w w' : World} (k : Step E w E' w') {D : List (FuncId × List V)} {ds : List Deferred} (h : DRs E w D ds) : DRs E' w' D ds :=
  ⟨h.len, fun j x d hx hd => (h.at_ j x d hx hd).step k⟩
theorem SRel.opd {E : Mx} {T : Nat → V} {D : List (FuncId × List V)} {N : Nat} {a : Act} {w : World} (h : SRel E T D N a w) (x : Operand) : Vr E w (opV T x) (a.eval x) := by
  cases x with
  | tmp t => exact h.tmp t
  | const v => exact .lit v
  | global g => exact .lit _
  | func f => exact .lit _
theorem getD_setH {l : Array Value} {t s : Nat} {v d : Value} (ht : t < l.size) : (l.setIfInBounds t v).getD s d = if s = t then v else l.getD s d := by
  simp only [Array.getD_eq_getD_getElem?, Array.getElem?_setIfInBounds]
  by_cases h : t = s
  · subst h; simp [ht]
  · rw [if_neg h, if_neg (fun e => h e.symm)]
/-- a slot is laid -/
theorem SRel.put {E E' : Mx} {T : Nat → V} {D : List (FuncId × List V)} {N : Nat} {a : Act} {w w' : World} (h : SRel E T D N a w) (hR : Rel E' w') (k : Step E w E' w') {o : Oper} {v : V} {u : Value} (hv : Vr E' w' v u) (hd : ∀ d, o.dst = some d → d < N) :
    SRel E' (match o.dst with
      | some d => upd T d v
      | none => T) D N (a.put o.dst u) w' := by
  cases ho : o.dst with
  | none => exact ⟨hR, h.size, fun t => (h.tmp t).step k, h.dfr.step k⟩
  | some d =>
    have hdN := hd d ho
    refine ⟨hR, ?_, fun t => ?_, h.dfr.step k⟩
    · show (a.tmps.setIfInBounds d u).size = N
      rw [Array.size_setIfInBounds]; exact h.size
    · show Vr E' w' (upd T d v t) ((a.tmps.setIfInBounds d u).getD t undef)
      rw [getD_setH (by rw [h.size]; exact hdN)]
      by_cases e : t = d
      · rw [e, upd_same, if_pos rfl]; exact hv
      · rw [upd_ne _ _ e, if_neg e]; exact (h.tmp t).step k
theorem putX_some {N : Nat} {o : Oper} {v : V} {t t' : Tr V} (hN : N ≤ 1000) (h : putX N o v t = some t') : (∀ d, o.dst = some d → d < N) ∧ t'.f = (match o.dst with
    | some d => upd t.f d v
    | none => t.f) := by
  unfold putX at h
  cases ho : o.dst with
  | none => rw [ho] at h; cases h; exact ⟨(fun d e => by cases e), rfl⟩
  | some d =>
    rw [ho] at h
    dsimp only at h
    split at h
    · rename_i hb
      have hb2 : d + 1 ≤ N := Nat.le_of_ble_eq_true hb
      cases h
      exact ⟨fun d' e => by cases e; exact hb2, Tr.f_set (Nat.lt_of_le_of_lt (Nat.le_trans hb2 hN) (by decide))⟩
    · cases h
/-- is an operation wanted? -/
theorem wantV_is {E : Mx} {T : Nat → V} {a : Act} {w : World} (h : ∀ t, Vr E w (T t) (a.tmps.getD t undef)) (ops : Array Oper) (o : Oper) (hk : wantK ops T o = true) : Region.wanted o (yielded ops a.tmps) = wantV ops T o := by
  cases hg : o.guard with
  | none => simp only [Region.wanted, wantV, hg]
  | some g =>
    obtain ⟨j, want⟩ := g
    simp only [Region.wanted, wantV, hg, yielded]
    simp only [wantK, hg] at hk
    cases hd : (ops[j]?).bind (·.dst) with
    | none => rfl
    | some t =>
      rw [hd] at hk
      have ht := h t
      dsimp only [Option.bind_some] at hk ⊢
      rw [Array.getD_eq_getD_getElem?] at ht
      cases hq : a.tmps[t]? with
      | none =>
        rw [hq] at ht
        dsimp only
        split
        · rename_i b hb
          rw [hb] at ht
          have := ht.lit_inv
          cases this
        · rfl
      | some u =>
        rw [hq] at ht
        have ht : Vr E w (T t) u := ht
        generalize T t = d at ht hk
        cases ht with
        | lit => cases u <;> first | rfl | (rename_i b; cases b <;> cases want <;> rfl)
        | any => cases hk
        | un => cases hk
        | _ => rfl

/-- what calls come to -/
def Ret (E : Mx) (w : World) (h : Hx) (r : V) (h' : Hx) : Ending → World → Prop := fun e w' =>
  ∃ v E', e = .returned v ∧ Vr E' w' r v ∧ Rel E' w' ∧ Step E w E' w' ∧ (∀ q ob, h'.H.get q = some ob → E'.H q = some ob) ∧ (∀ q, E'.U q → E.U q ∨ (h.nx ≤ q ∧ q < h'.nx)) ∧ (∀ q, E.U q → h.H.get q = none → E'.H q = E.H q)
/-- contracts of functions from outside -/
def XSound (P : Program) (C : CallF) : Prop := ∀ f args h r h', C f args h = some (r, h') → HStep h h' ∧ ∀ E w us, Rel E w → (∀ q ob, h.H.get q = some ob → E.H q = some ob) → (∀ q, E.U q → q < h.nx) → Vrs E w args us → Calls P f us.toArray w (Ret E w h r h')
/-- a call, or a round -/
def CallsY (P : Program) (f : FuncId) (us : List Value) (w : World) (R : Ending → World → Prop) : Prop :=
  if f = yldId then ∃ g rest fn tmps asg bd, us = .func (.yield g) #[] #[] :: rest ∧ (Instr.yield g rest.toArray).run P w = .ok (.round g fn tmps asg bd) w ∧ RoundIn Fence.wide 0 P g fn tmps asg bd w R
  else Calls P f us.toArray w R
def CSound (P : Program) (C : CallF) : Prop := ∀ f args h r h', C f args h = some (r, h') → HStep h h' ∧ ∀ E w us, Rel E w → (∀ q ob, h.H.get q = some ob → E.H q = some ob) → (∀ q, E.U q → q < h.nx) → Vrs E w args us → CallsY P f us w (Ret E w h r h')
/-- the frames that are spoken of: a function's, or a round's -/
abbrev FF (lo : Option Nat) : Fence := { Fence.wide with round := lo }
theorem callsFF {lo : Option Nat} {n : Nat} {P : Program} {f : FuncId} {args : Array Value} {w : World} {R : Ending → World → Prop} : CallsIn (FF lo) n P f args w R ↔ Calls P f args w R := by
  show CallsIn Fence.wide n P f args w R ↔ _
  exact callsIn_wide
theorem semAtX {lo : Option Nat} {o : Oper} (h : lo = none ∨ noDfr o = true) (ρ : Operand → Value) : o.semAt lo ρ = execOp ρ o := by
  rcases h with rfl | h
  · rfl
  · exact Oper.semAt_eq _ _ _ fun c hc => by rw [noDfr, hc] at h; cases h
def DSound (P : Program) (C : FuncId → List V → Hx → Option Hx) : Prop := ∀ f args h h', C f args h = some h' → HStep h h' ∧ ∀ E w us u, Rel E w → (∀ q ob, h.H.get q = some ob → E.H q = some ob) → (∀ q, E.U q → q < h.nx) → Vrs E w args us →
  CallsDIn Fence.wide 0 P f us.toArray u w fun e u' w' => u' = u ∧ ∃ r, Ret E w h r h' e w'

/-- a later heap -/
structure Nx (E : Mx) (w : World) (h : Hx) (E' : Mx) (w' : World) (h' : Hx) : Prop where
  rel : Rel E' w'
  step : Step E w E' w'
  H : ∀ q ob, h'.H.get q = some ob → E'.H q = some ob
  U : ∀ q, E'.U q → E.U q ∨ (h.nx ≤ q ∧ q < h'.nx)
  fr : ∀ q, E.U q → h.H.get q = none → E'.H q = E.H q
theorem Nx.trans {E E' E'' : Mx} {w w' w'' : World} {h h' h'' : Hx} (hU : ∀ q, E.U q → q < h.nx) (s : HStep h h') (s' : HStep h' h'') (k : Nx E w h E' w' h') (k' : Nx E' w' h' E'' w'' h'') : Nx E w h E'' w'' h'' := by
  refine ⟨k'.rel, k.step.trans k'.step, k'.H, fun q hq => ?_, fun q hq e => ?_⟩
  · have h1 := s.nx; have h2 := s'.nx
    rcases k'.U q hq with z | ⟨z1, z2⟩
    · rcases k.U q z with y | ⟨y1, y2⟩
      · exact .inl y
      · exact .inr ⟨y1, by omega⟩
    · exact .inr ⟨by omega, z2⟩
  · rw [k'.fr q (k.step.used q hq) (s.dead q (hU q hq) e), k.fr q hq e]
theorem Nx.refl {E : Mx} {w : World} {h : Hx} (hR : Rel E w) (hH : ∀ q ob, h.H.get q = some ob → E.H q = some ob) : Nx E w h E w h :=
  ⟨hR, Step.refl _ _, hH, fun _ h => .inl h, fun _ _ _ => rfl⟩
theorem Nx.below {E E' : Mx} {w w' : World} {h h' : Hx} (hU : ∀ q, E.U q → q < h.nx) (s : HStep h h') (k : Nx E w h E' w' h') : ∀ q, E'.U q → q < h'.nx := fun q hq => by
  have := s.nx
  rcases k.U q hq with z | z
  · have := hU q z; omega
  · exact z.2

/-- the machine's state behind an operation, its slot not yet laid: in the world: its frame's slot laid -/
def EffS (E : Mx) (w : World) (h : Hx) (o : Oper) (v : V) (D : List (FuncId × List V)) (D' : List (FuncId × List V)) (h' : Hx) (a a' : Act) (w' : World) : Prop :=
  ∃ u E' ds, a' = { a with defers := ds }.put o.dst u ∧ Vr E' w' v u ∧ Nx E w h E' w' h' ∧ (DRs E w D a.defers → DRs E' w' D' ds)
theorem effX_sound {P : Program} {C : CallF} (hC : CSound P C) {Tf : Nat → V} {ops : Array Oper} {o : Oper} {D D' : List (FuncId × List V)} {h h' : Hx} {v : V} {E : Mx} {a : Act} {w : World} (hR : Rel E w) (hT : ∀ t, Vr E w (Tf t) (a.tmps.getD t undef))
    (hH : ∀ q ob, h.H.get q = some ob → E.H q = some ob) (hfr : ∀ q, E.U q → q < h.nx) (e : effX P C Tf ops o D h = some (v, D', h')) {lo : Option Nat} (hlo : lo = none ∨ noDfr o = true) (Q : Exit → Act → World → Prop) {K : Act → World → Prop} (hK : ∀ a' w', EffS E w h o v D D' h' a a' w' → K a' w') :
    (if Region.wanted o (yielded ops a.tmps) then o.wpIn (FF lo) 0 P a w K Q else K (a.put o.dst undef) w) := by
  unfold effX at e
  split at e
  · cases e
  rename_i hk
  rw [wantV_is hT ops o hk]
  split at e
  · rename_i hw
    rw [hw, if_pos rfl]
    have hop := fun {f} (q : op1 P Tf h.H.get h.nx o = some f) => op1_sound (a := a) hR (fun z => Nat.lt_irrefl _ (hfr _ z)) (fun x => by
      cases x with
      | tmp t => exact hT t
      | const v => exact .lit v
      | global g => exact .lit _
      | func f => exact .lit _) (fun r ob z => hH r ob z) q
    split at e
    · rename_i v ups nx hq
      split at e
      · rename_i H hU' hnx
        cases e
        obtain ⟨u, w', E', hrun, hv, hR', hS, hHH, hU⟩ := hop hq
        have hle : h.nx ≤ nx := Nat.le_of_ble_eq_true hnx
        have fin : K (a.put o.dst u) w' := by
          refine hK _ _ ⟨u, E', a.defers, rfl, hv, ⟨hR', hS, fun q ob hq => ?_, fun q hq => (hU q).1 hq, fun q hq e => ?_⟩, fun h => h.step hS⟩
          · rw [hHH]
            have hq : H.get q = some ob := hq
            rw [upsX_H hU'] at hq
            exact upsH_mono hH q ob hq
          · rw [hHH]; exact (upsX_dead hU' q (hfr q hq) e).2 _
        refine ⟨fun _ _ => trivial, ?_⟩
        rw [show (FF lo).round = lo from rfl, semAtX hlo]
        rcases hrun with hrun | ⟨hrun, rfl⟩
        · rw [hrun, Oper.uponIn_value]; exact fin
        · rw [hrun, Oper.uponIn_skip]; exact fin
      · cases e
    · rename_i f args hq
      split at e
      · rename_i v h' hc
        cases e
        obtain ⟨hok, us, hrun, hus⟩ := hop hq
        obtain ⟨hle, hcall⟩ := hC _ _ _ _ _ hc
        refine ⟨fun _ _ => trivial, ?_⟩
        rw [show (FF lo).round = lo from rfl, semAtX hlo, hrun, Oper.uponIn_enter]
        refine ⟨fun q => (by cases q), callsFF.2 ?_⟩
        have hcl := hcall E w us hR hH hfr hus
        unfold CallsY at hcl
        rw [if_neg (funcOk_yld hok)] at hcl
        refine hcl.mono ?_
        rintro en w' ⟨u, E', rfl, hv, hR', hS, hHH, hU, hF⟩
        exact hK _ _ ⟨u, E', a.defers, rfl, hv, ⟨hR', hS, hHH, hU, hF⟩, fun h => h.step hS⟩
      · cases e
    · rename_i f args hq
      cases e
      obtain ⟨hok, d, hrun, hdr⟩ := hop hq
      refine ⟨fun _ _ => trivial, ?_⟩
      rw [show (FF lo).round = lo from rfl, semAtX hlo, hrun, Oper.uponIn_defer]
      refine hK _ _ ⟨undef, E, d :: a.defers, rfl, .lit undef, Nx.refl hR hH, fun hD => ⟨by simp [hD.len], fun j x d' hx hd' => ?_⟩⟩
      match j with
      | 0 => cases hx; cases hd'; exact hdr
      | j + 1 => exact hD.at_ j x d' (by simpa using hx) (by simpa using hd')
    · rename_i r args hq
      split at e
      · rename_i v h' hc
        cases e
        obtain ⟨g, us, hvr, hus, hrun⟩ := hop hq
        obtain ⟨hle, hcall⟩ := hC _ _ _ _ _ hc
        have hcl := hcall E w (.func (.yield g) #[] #[] :: us) hR hH hfr (.cons hvr hus)
        unfold CallsY at hcl
        rw [if_pos rfl] at hcl
        obtain ⟨g', rest, fn, tmps, asg, bd, e1, e2, e3⟩ := hcl
        cases e1
        refine ⟨fun _ _ => trivial, ?_⟩
        rw [show (FF lo).round = lo from rfl, semAtX hlo, hrun, e2, Oper.uponIn_round]
        refine ⟨fun q => (by cases q), ?_⟩
        have e4 : RoundIn (FF lo) 0 P g fn tmps asg bd w _ := e3
        refine e4.mono ?_
        rintro en w' ⟨u, E', rfl, hv, hR', hS, hHH, hU, hF⟩
        exact hK _ _ ⟨u, E', a.defers, rfl, hv, ⟨hR', hS, hHH, hU, hF⟩, fun h => h.step hS⟩
      · cases e
    · cases e
  · rename_i hw
    rw [hw, if_neg (by decide)]
    cases e
    exact hK _ _ ⟨undef, E, a.defers, rfl, .lit undef, Nx.refl hR hH, fun h => h⟩
theorem effX_h {P : Program} {C : CallF} (hC : CSound P C) {Tf : Nat → V} {ops : Array Oper} {o : Oper} {D D' : List (FuncId × List V)} {h h' : Hx} {v : V} (e : effX P C Tf ops o D h = some (v, D', h')) : HStep h h' := by
  unfold effX at e
  split at e
  · cases e
  split at e
  · split at e
    · rename_i ups nx hq
      split at e
      · rename_i H hU' hnx
        cases e
        refine ⟨Nat.le_of_ble_eq_true hnx, fun q hq e => (upsX_dead hU' q hq e).1, fun q _ hq => ?_, fun q hq => by simp [hq], upsX_top hU'⟩
        show H.get q = h.H.get q
        rw [upsX_H hU']
        exact upsH_same fun z => hq (by simp only [List.mem_append]; exact .inl z)
      · cases e
    · split at e
      · rename_i hc
        cases e
        exact (hC _ _ _ _ _ hc).1
      · cases e
    · cases e; exact HStep.refl _
    · split at e
      · rename_i hc
        cases e
        exact (hC _ _ _ _ _ hc).1
      · cases e
    · cases e
  · cases e; exact HStep.refl _

/-- a later state of the machine -/
def Nxt (E : Mx) (w : World) (h : Hx) (N : Nat) (s' : Sx) (a' : Act) (w' : World) : Prop := ∃ E', XRel E' s' N a' w' ∧ Nx E w h E' w' s'.h
theorem stepX_h {P : Program} {C : CallF} (hC : CSound P C) {N : Nat} {ops : Array Oper} {o : Oper} {s s' : Sx} (e : stepX P C N ops o s = some s') : HStep s.h s'.h := by
  unfold stepX at e
  split at e
  · rename_i he
    split at e
    · cases e; exact effX_h hC he
    · cases e
  · cases e
theorem stepX_sound {P : Program} {C : CallF} (hC : CSound P C) {N : Nat} (hN : N ≤ 1000) {ops : Array Oper} {o : Oper} {s s' : Sx} {E : Mx} {a : Act} {w : World} (hX : XRel E s N a w) (e : stepX P C N ops o s = some s') {lo : Option Nat} (hlo : lo = none ∨ noDfr o = true) (Q : Exit → Act → World → Prop) :
    (if Region.wanted o (yielded ops a.tmps) then o.wpIn (FF lo) 0 P a w (Nxt E w s.h N s') Q else Nxt E w s.h N s' (a.put o.dst undef) w) := by
  have hh := stepX_h hC e
  unfold stepX at e
  split at e
  · rename_i v D h' he
    split at e
    · rename_i T hT
      cases e
      obtain ⟨hd, hTf⟩ := putX_some hN hT
      refine effX_sound hC hX.sr.rel hX.sr.tmp hX.H hX.fr he hlo Q ?_
      rintro a' w' ⟨u, E', ds, rfl, hv, hn, hD⟩
      refine ⟨E', ⟨?_, hn.H, hn.below hX.fr hh⟩, hn⟩
      have hS2 : SRel E' s.T.f D N { a with defers := ds } w' := ⟨hn.rel, hX.sr.size, fun t => (hX.sr.tmp t).step hn.step, hD hX.sr.dfr⟩
      rw [hTf]
      exact hS2.put hn.rel (Step.refl _ _) hv hd
    · cases e
  · cases e
theorem runX_h {P : Program} {C : CallF} (hC : CSound P C) {N : Nat} {ops : Array Oper} : ∀ {l : List Oper} {s s' : Sx}, runX P C N ops l s = some s' → HStep s.h s'.h
  | [], s, s', e => by cases e; exact HStep.refl _
  | o :: l, s, s', e => by
    simp only [runX] at e
    split at e
    · rename_i s1 h1
      exact (stepX_h hC h1).trans (runX_h hC e)
    · cases e
theorem runX_sound {P : Program} {C : CallF} (hC : CSound P C) {N : Nat} (hN : N ≤ 1000) {ops : Array Oper} {lo : Option Nat} (hlo : lo = none ∨ ops.toList.all noDfr = true) {Q : Exit → Act → World → Prop} : ∀ (l : List Oper) (k : Nat) {s s' : Sx} {E : Mx} {a : Act} {w : World}, ops.toList.drop k = l → XRel E s N a w → runX P C N ops l s = some s' →
    (∀ a' w', Nxt E w s.h N s' a' w' → Q .normal a' w') → wpOpsIn (FF lo) 0 P ops Q (List.range' k l.length) a w
  | [], k, s, s', E, a, w, hl, hX, e, hQ => by
    cases e
    exact hQ a w ⟨E, hX, Nx.refl hX.sr.rel hX.H⟩
  | o :: l, k, s, s', E, a, w, hl, hX, e, hQ => by
    simp only [runX] at e
    split at e
    · rename_i s1 h1
      have ho : ops[k]? = some o := by
        have := congrArg (fun x : List Oper => x[0]?) hl
        simpa using this
      have hl' : ops.toList.drop (k + 1) = l := by
        have := congrArg List.tail hl
        rwa [List.tail_drop] at this
      have hlo' : lo = none ∨ noDfr o = true := hlo.imp id fun q => List.all_eq_true.1 q o (List.mem_of_getElem? (by simpa using ho))
      have hst := stepX_sound hC hN hX h1 hlo' Q
      have rest : ∀ {a' w'}, Nxt E w s.h N s1 a' w' → wpOpsIn (FF lo) 0 P ops Q (List.range' (k + 1) l.length) a' w' := by
        intro a' w' ⟨E', hX', hn⟩
        refine runX_sound hC hN hlo l (k + 1) hl' hX' e fun a2 w2 ⟨E2, hX2, hn2⟩ => hQ a2 w2 ⟨E2, hX2, hn.trans hX.fr (stepX_h hC h1) (runX_h hC e) hn2⟩
      rw [List.length_cons, List.range'_succ]
      simp only [wpOpsIn, ho]
      split
      · rename_i hw
        rw [if_pos hw] at hst
        exact Oper.wpIn_mono (fun a' w' h' => rest h') hst
      · rename_i hw
        rw [if_neg hw] at hst
        exact ⟨fun _ _ => trivial, rest hst⟩
    · cases e
end Hm
end Go.Proofs.YtcccaomnehdlbaaDoor
