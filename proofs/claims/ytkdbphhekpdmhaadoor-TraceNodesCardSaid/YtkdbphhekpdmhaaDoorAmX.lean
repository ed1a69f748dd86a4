/-
  The plain machine: regions with calls that write through pointers, nil checks, closures over one own variable.
-/
import Derived.Test.YtkdbphhekpdmhaaDoorAmM
namespace Go.Proofs.YtkdbphhekpdmhaaDoor
open Go.RowKit
set_option linter.unusedVariables false
set_option linter.unusedSimpArgs false

/-- what a function answers that may write into objects that it was handed -/
structure MFn (P : Program) (f : FuncId) (args : List AV) (H : Nat → Option Arr) (r : AV) (H' : Nat → Option Arr) : Prop where
  ok : funcOk P f = true
  calls : ∀ (w0 : Start) (Pr0 : Nat → Nat → Prop) (n : Nat) (μ : Nat → Option Nat) (T : Nat → AV) (a : Act) (w : World) (vs : List Value), SR w0 Pr0 n μ ⟨T, H⟩ a w → args.length = vs.length →
    (∀ (j : Nat) (d : AV) (v : Value), args[j]? = some d → vs[j]? = some v → TR (PrOf w0 Pr0 μ H) μ H w d v) →
    Calls P f vs.toArray w fun e w' => ∃ v μ', e = .returned v ∧ SR w0 Pr0 n μ' ⟨T, H'⟩ a w' ∧ VR (PrOf w0 Pr0 μ' H') w' r v

inductive XOp where
  | op (k : List Nat) (r : ROp)
  | nilck (dst : Nat) (x : IOpd) (g : Option (Nat × Bool))
  | mkclo (dst : Nat) (f : FuncId) (x : IOpd)
  | mcall (dst : Nat) (f : IOpd) (xs : List IOpd)

/-- arguments: pointers as they are, the others by themselves -/
def St.mval (σ : St) : AV → Option (AV × List Nat)
  | .ptr r i f => some (.ptr r i f, [])
  | v => σ.byval [] v
def St.mvals (σ : St) : List AV → Option (List AV × List Nat)
  | [] => some ([], [])
  | v :: l => match σ.mval v with
    | some (d, f) => match σ.mvals l with
      | some (ds, fs) => some (d :: ds, f ++ fs)
      | none => none
    | none => none

def killOf (r : ROp) : List Nat := if r.io.pure then [] else r.dst.toList

def nilckV (σ : St) (d : Nat) (x : IOpd) (K : St → Prop) : Prop := match σ.get x with
  | .ptr r i f => (σ.H r).isSome = true ∧ K (σ.set d (.ptr r i f))
  | .rp cs => K (σ.set d (.rp cs))
  | _ => False
def evalX (P : Program) (C : FuncId → List AV → AV → Prop) : XOp → St → (St → Prop) → Prop
  | .op k r, σ, K => evalOps C [r] (σ.kills k) K
  | .nilck d x g, σ, K => guardV σ g (fun σ => nilckV σ d x K) (fun σ => K (σ.set d (.tup [])))
  | .mkclo d f x, σ, K => match σ.get x with
    | .ptr r 0 0 => (σ.H r).isSome = true ∧ K (σ.set d (.clom f r))
    | _ => False
  | .mcall d fx xs, σ, K => match σ.mvals (xs.map σ.get) with
    | some (ds, fz) => match σ.get fx with
      | .clo f [] [] => ∃ r H', MFn P f ds (σ.fzs fz).H r H' ∧ K ⟨upd σ.T d r, H'⟩
      | .clom f q => ((σ.fzs fz).H q).isSome = true ∧ ∃ r H', MFn P f (ds ++ [.ptr q 0 0]) (σ.fzs fz).H r H' ∧ K ⟨upd σ.T d r, H'⟩
      | _ => False
    | none => False

def evalXs (P : Program) (C : FuncId → List AV → AV → Prop) : List XOp → St → (St → Prop) → Prop
  | [], σ, K => K σ
  | x :: l, σ, K => evalX P C x σ fun σ' => evalXs P C l σ' K

section
variable {P : Program} {w0 : Start} {Pr0 : Nat → Nat → Prop} {n : Nat} {μ : Nat → Option Nat} {σ : St} {a : Act} {w : World}

theorem TR.fz (h : SR w0 Pr0 n μ σ a w) (r : Nat) {d : AV} {v : Value} (ht : TR (PrOf w0 Pr0 μ σ.H) μ σ.H w d v) : TR (PrOf w0 Pr0 μ (σ.fz r).H) μ (σ.fz r).H w d v := by
  have hH : ∀ s arr, (σ.fz r).H s = some arr → ∃ arr0, σ.H s = some arr0 ∧ Frozen arr0 arr := fun s arr ha => fz_H_back ha
  have k : Kept (PrOf w0 Pr0 μ σ.H) (PrOf w0 Pr0 μ (σ.fz r).H) w w := by
    refine ⟨Nat.le_refl _, fun b o _ hp => ⟨hp.1, fun s hs => ?_⟩, fun _ _ _ _ => rfl, fun _ _ _ _ _ h => h⟩
    obtain ⟨arr, h1, h2⟩ := hp.2 s hs
    obtain ⟨arr', e1, e2, _⟩ := fz_H (r := r) h1
    refine ⟨arr', e1, ?_⟩
    rw [e2.z]
    rcases e2.prot with e | e <;> rw [e]
    · exact h2
    · exact Nat.lt_of_lt_of_le h2 (Nat.mul_le_mul_right _ (h.obj s arr h1).2.1)
  cases d with
  | und => trivial
  | own => exact ht
  | clom f s =>
    intro arr ha
    obtain ⟨a0, e0, e1⟩ := hH s arr ha
    exact ht a0 e0
  | mp s es =>
    intro arr ha
    obtain ⟨a0, e0, e1⟩ := hH s arr ha
    obtain ⟨g, ms, c, q1, q2, q3, q4⟩ := ht a0 e0
    exact ⟨g, ms, c, q1, q2, q3, q4.kept k⟩
  | ptr s i f =>
    intro arr ha
    obtain ⟨a0, e0, e1⟩ := hH s arr ha
    rw [e1.z]; exact ht a0 e0
  | rs s off len =>
    intro arr ha
    obtain ⟨a0, e0, e1⟩ := hH s arr ha
    rw [e1.z, e1.ty, e1.cells]; exact ht a0 e0
  | _ => exact VR.kept k ht
theorem TR.fzs : ∀ (l : List Nat) {σ : St}, SR w0 Pr0 n μ σ a w → ∀ {d : AV} {v : Value}, TR (PrOf w0 Pr0 μ σ.H) μ σ.H w d v → TR (PrOf w0 Pr0 μ (σ.fzs l).H) μ (σ.fzs l).H w d v
  | [], σ, h, d, v, ht => ht
  | r :: l, σ, h, d, v, ht => TR.fzs l (h.fz r) (TR.fz h r ht)

theorem mval_TR (h : SR w0 Pr0 n μ σ a w) {d d' : AV} {f g : List Nat} {v : Value} (hm : σ.mval d = some (d', f)) (ht : TR (PrOf w0 Pr0 μ σ.H) μ σ.H w d v) (hg : ∀ s, s ∈ f → s ∈ g) : TR (PrOf w0 Pr0 μ (σ.fzs g).H) μ (σ.fzs g).H w d' v := by
  have hby : σ.byval [] d = some (d', f) → TR (PrOf w0 Pr0 μ (σ.fzs g).H) μ (σ.fzs g).H w d' v := fun e =>
    TR.of_VR (h.byval e ht (SR.fzs h) (fun s arr hs => let ⟨a', q1, q2, q3⟩ := fzs_H (l := g) hs; ⟨a', q1, q2, fun hm => q3 (hg s hm)⟩))
  cases d with
  | ptr r i f' => cases hm; exact TR.fzs g h ht
  | _ => exact hby hm
theorem mvals_TR (h : SR w0 Pr0 n μ σ a w) : ∀ {l ds : List AV} {f g : List Nat} {vs : List Value}, σ.mvals l = some (ds, f) → (∀ s, s ∈ f → s ∈ g) → l.length = vs.length → (∀ (j : Nat) (d : AV) (v : Value), l[j]? = some d → vs[j]? = some v → TR (PrOf w0 Pr0 μ σ.H) μ σ.H w d v) →
    ds.length = vs.length ∧ ∀ (j : Nat) (d : AV) (v : Value), ds[j]? = some d → vs[j]? = some v → TR (PrOf w0 Pr0 μ (σ.fzs g).H) μ (σ.fzs g).H w d v
  | [], ds, f, g, vs, hm, hg, hl, ht => by
    cases hm
    exact ⟨hl, fun j d v hj => by simp at hj⟩
  | v0 :: l, ds, f, g, [], hm, hg, hl, ht => by simp at hl
  | v0 :: l, ds, f, g, u :: vs, hm, hg, hl, ht => by
    simp only [St.mvals] at hm
    split at hm
    · rename_i d0 f0 h0
      split at hm
      · rename_i ds0 fs0 h1
        cases hm
        obtain ⟨k1, k2⟩ := mvals_TR h h1 (g := g) (fun s hs => hg s (List.mem_append.2 (.inr hs))) (by simpa using hl) (fun j d v hj hv => ht (j + 1) d v (by simpa using hj) (by simpa using hv))
        refine ⟨by simp [k1], fun j d v hj hv => ?_⟩
        cases j with
        | zero => cases hj; cases hv; exact mval_TR h h0 (ht 0 v0 u rfl rfl) (fun s hs => hg s (List.mem_append.2 (.inl hs)))
        | succ j => exact k2 j d v (by simpa using hj) (by simpa using hv)
      · cases hm
    · cases hm

theorem mcall_sound {o : Oper} {c : Call} {f : Operand} {fx : IOpd} {xs : List IOpd} {dst : Nat} (ho : o.op = .call c) (hc : c.callee = .value f) (hf : compOpd f = some fx) (hxs : compOpds c.args.toList = some xs) (hdst : o.dst = some dst) (hn : dst < n)
    (h : SR w0 Pr0 n μ σ a w) {K : St → Prop} {C : FuncId → List AV → AV → Prop} (hE : evalX P C (.mcall dst fx xs) σ K) {Q : Exit → Act → World → Prop} :
    o.wp P a w (fun a' w' => ∃ μ' σ', K σ' ∧ SR w0 Pr0 n μ' σ' a' w') Q := by
  simp only [evalX] at hE
  have tf := h.get hf
  split at hE
  · rename_i ds fz hm
    obtain ⟨l1, t1⟩ := h.gets hxs
    have hS : SR w0 Pr0 n μ (σ.fzs fz) a w := SR.fzs h
    obtain ⟨l2, b2⟩ := mvals_TR h hm (g := fz) (fun s hs => hs) l1 t1
    have eT : (⟨σ.T, (σ.fzs fz).H⟩ : St) = σ.fzs fz := by rw [← fzs_T fz σ]
    have hS2 : SR w0 Pr0 n μ ⟨σ.T, (σ.fzs fz).H⟩ a w := by rw [eT]; exact hS
    -- the call itself
    have fin : ∀ {g : FuncId} {es : List AV} {vs : List Value} {r : AV} {H' : Nat → Option Arr}, MFn P g es (σ.fzs fz).H r H' → K ⟨upd σ.T dst r, H'⟩ → (execOp a.eval o).run P w = .ok (.enter g vs.toArray) w → es.length = vs.length →
        (∀ (j : Nat) (d : AV) (v : Value), es[j]? = some d → vs[j]? = some v → TR (PrOf w0 Pr0 μ (σ.fzs fz).H) μ (σ.fzs fz).H w d v) → o.wp P a w (fun a' w' => ∃ μ' σ', K σ' ∧ SR w0 Pr0 n μ' σ' a' w') Q := by
      intro g es vs r H' hM hK hrun hl ht
      unfold Oper.wp
      rw [hrun, Oper.upon_enter]
      refine (hM.calls w0 Pr0 n μ σ.T a w vs hS2 hl ht).mono ?_
      rintro e w' ⟨v, μ', rfl, hS', hv⟩
      show ∃ μ' σ', K σ' ∧ SR w0 Pr0 n μ' σ' (a.put o.dst v) w'
      rw [hdst]
      exact ⟨μ', _, hK, hS'.put hn (TR.of_VR hv)⟩
    split at hE
    · rename_i g e1
      obtain ⟨r, H', hM, hK⟩ := hE
      rw [e1] at tf
      have tf' : VR (PrOf w0 Pr0 μ σ.H) w (.clo g [] []) (a.eval f) := tf
      generalize hvf : a.eval f = vf at tf'
      cases tf' with
      | clo _ _ _ lf lc hf1 hc1 r1 r2 =>
        obtain rfl : lf = [] := List.length_eq_zero_iff.1 hf1.symm
        obtain rfl : lc = [] := List.length_eq_zero_iff.1 hc1.symm
        refine fin hM hK (vs := c.args.toList.map a.eval) ?_ l2 b2
        simp only [execOp, ho, resolve, hc, hvf, Deferred.ofValue]
        simp only [Sem.run_bind, Sem.run_pure, Result.andThen_ok, invoke]
        have e : ([] : List Value).toArray ++ Array.map a.eval c.args ++ ([] : List Value).toArray = (c.args.toList.map a.eval).toArray := by
          apply Array.ext'; simp
        rw [e]
        exact callFunc_run hM.ok
    · rename_i g q e1
      obtain ⟨hq, r, H', hM, hK⟩ := hE
      rw [e1] at tf
      obtain ⟨arr, harr⟩ := Option.isSome_iff_exists.1 hq
      have tf2 := TR.fzs fz h tf
      obtain ⟨b, hb, hvf⟩ := tf2 arr harr
      refine fin hM hK (vs := c.args.toList.map a.eval ++ [.pointer (some ⟨b, 0, none⟩)]) ?_ (by simp [l2]) ?_
      · simp only [execOp, ho, resolve, hc, hvf, Deferred.ofValue]
        simp only [Sem.run_bind, Sem.run_pure, Result.andThen_ok, invoke]
        have e : #[] ++ Array.map a.eval c.args ++ #[Value.pointer (some ⟨b, 0, none⟩)] = (c.args.toList.map a.eval ++ [Value.pointer (some ⟨b, 0, none⟩)]).toArray := by
          apply Array.ext'; simp
        rw [e]
        exact callFunc_run hM.ok
      · intro j d v hj hv
        rcases Nat.lt_or_ge j ds.length with h1 | h1
        · rw [List.getElem?_append_left h1] at hj
          rw [List.getElem?_append_left (by omega)] at hv
          exact b2 j d v hj hv
        · rw [List.getElem?_append_right h1] at hj
          rw [List.getElem?_append_right (by omega)] at hv
          have : j - ds.length = 0 := by
            have := (List.getElem?_eq_some_iff.1 hj).1
            simp at this; omega
          rw [this] at hj
          rw [show j - (List.map a.eval c.args.toList).length = 0 by omega] at hv
          cases hj; cases hv
          intro arr2 ha2
          refine ⟨b, hb, ?_⟩
          simp
    · exact hE.elim
  · exact hE.elim

theorem nilck_sound {o : Oper} {x : Operand} {ix : IOpd} {dst : Nat} (ho : o.op = .nilCheck x) (hx : compOpd x = some ix) (hdst : o.dst = some dst) (hn : dst < n)
    (h : SR w0 Pr0 n μ σ a w) {K : St → Prop} (hE : nilckV σ dst ix K) {Q : Exit → Act → World → Prop} :
    o.wp P a w (fun a' w' => ∃ μ' σ', K σ' ∧ SR w0 Pr0 n μ' σ' a' w') Q := by
  unfold nilckV at hE
  have tx := h.get hx
  split at hE
  · rename_i r i f e1
    obtain ⟨hs, hK⟩ := hE
    rw [e1] at tx
    obtain ⟨arr, harr⟩ := Option.isSome_iff_exists.1 hs
    have tx' := tx
    obtain ⟨g, hg, hv⟩ := tx arr harr
    have hrun : (execOp a.eval o).run P w = .ok (.value (a.eval x)) w := by
      simp only [execOp, ho, hv]
      rfl
    unfold Oper.wp
    rw [hrun, Oper.upon_value, hdst]
    exact ⟨μ, _, hK, h.put hn tx'⟩
  · rename_i cs e1
    rw [e1] at tx
    have tx' : VR (PrOf w0 Pr0 μ σ.H) w (.rp cs) (a.eval x) := tx
    obtain ⟨b, off, hv⟩ : ∃ b off, a.eval x = .pointer (some ⟨b, off, none⟩) := by
      generalize a.eval x = v at tx'
      cases tx' with
      | rp _ b off u hb hc h => exact ⟨b, off, rfl⟩
    have hrun : (execOp a.eval o).run P w = .ok (.value (a.eval x)) w := by
      simp only [execOp, ho, hv]
      rfl
    unfold Oper.wp
    rw [hrun, Oper.upon_value, hdst]
    exact ⟨μ, _, hE, h.put hn tx⟩
  · exact hE.elim

theorem mkclo_sound {o : Oper} {f : FuncId} {first caps : Array Operand} {x : Operand} {ix : IOpd} {dst : Nat} (ho : o.op = .makeFunc (.func f) first caps) (h1 : first.toList = []) (h2 : caps.toList = [x]) (hx : compOpd x = some ix) (hdst : o.dst = some dst) (hn : dst < n)
    (h : SR w0 Pr0 n μ σ a w) {K : St → Prop} {C : FuncId → List AV → AV → Prop} (hE : evalX P C (.mkclo dst f ix) σ K) {Q : Exit → Act → World → Prop} :
    o.wp P a w (fun a' w' => ∃ μ' σ', K σ' ∧ SR w0 Pr0 n μ' σ' a' w') Q := by
  simp only [evalX] at hE
  have tx := h.get hx
  split at hE
  · rename_i r e1
    obtain ⟨hs, hK⟩ := hE
    rw [e1] at tx
    obtain rfl : first = #[] := by apply Array.ext'; simpa using h1
    obtain rfl : caps = #[x] := by apply Array.ext'; simpa using h2
    have hrun : (execOp a.eval o).run P w = .ok (.value (.func (.func f) #[] #[a.eval x])) w := by
      simp only [execOp, ho, Instr.makeFunc]
      simp
    unfold Oper.wp
    rw [hrun, Oper.upon_value, hdst]
    refine ⟨μ, _, hK, h.put hn ?_⟩
    intro arr harr
    obtain ⟨g, hg, hv⟩ := tx arr harr
    refine ⟨g, hg, ?_⟩
    rw [hv]; simp
  · exact hE.elim

/-- the operation 'o' of a region is 'x' here -/
def IsX (P : Program) (ops : Array Oper) (n : Nat) (o : Oper) : XOp → Prop
  | .op k r => IsOp P ops n o r ∧ k = killOf r
  | .nilck d ix gd => (match o.guard with
    | none => gd = none
    | some (j, want) => ∃ t, (ops[j]?).bind (·.dst) = some t ∧ t < n ∧ gd = some (t, want)) ∧ o.dst = some d ∧ d < n ∧ ∃ x, o.op = .nilCheck x ∧ compOpd x = some ix
  | .mkclo d f ix => o.guard = none ∧ o.dst = some d ∧ d < n ∧ ∃ first caps x, o.op = .makeFunc (.func f) first caps ∧ first.toList = [] ∧ caps.toList = [x] ∧ compOpd x = some ix
  | .mcall d fx xs => o.guard = none ∧ o.dst = some d ∧ d < n ∧ ∃ c f, o.op = .call c ∧ c.callee = .value f ∧ compOpd f = some fx ∧ compOpds c.args.toList = some xs

theorem killO_sound {ops : Array Oper} {o : Oper} {r : ROp} (hi : IsOp P ops n o r) (h : SR w0 Pr0 n μ σ a w) : ∃ μ', SR w0 Pr0 n μ' (σ.kills (killOf r)) a w ∧ Fresh [r] (σ.kills (killOf r)) := by
  unfold killOf
  cases hp : r.io.pure with
  | true =>
    refine ⟨μ, h, fun x hx hx2 => ?_⟩
    simp at hx; subst hx; rw [hp] at hx2; cases hx2
  | false =>
    simp only [Bool.false_eq_true, if_false]
    cases hd : r.dst with
    | none =>
      refine ⟨μ, h, fun x hx hx2 d hd' => ?_⟩
      simp at hx; subst hx; rw [hd] at hd'; cases hd'
    | some d =>
      have hlt : d < n := hi.lt d (by rw [← hi.dst, hd])
      refine ⟨_, h.kill d (Nat.lt_of_lt_of_le hlt h.small), fun x hx hx2 d' hd' => ?_⟩
      simp at hx; subst hx
      rw [hd] at hd'; cases hd'
      refine ⟨upd_same _ _ _, fun t => ?_⟩
      show (if (σ.T t).name = some d then AV.und else σ.T t).name ≠ some d
      split
      · intro e; cases e
      · rename_i h; exact h

theorem xs_sound {ops : Array Oper} {Q : Exit → Act → World → Prop} {K : St → Prop} (hQ : ∀ μ σ' a w, K σ' → SR w0 Pr0 n μ σ' a w → Q .normal a w) : ∀ (xs : List XOp) (k : Nat) {μ : Nat → Option Nat} {σ : St} {a : Act} {w : World},
    (∀ (j : Nat) (x : XOp), xs[j]? = some x → ∃ o, ops[k + j]? = some o ∧ IsX P ops n o x) → SR w0 Pr0 n μ σ a w → evalXs P (AFn P) xs σ K → wpOps P ops Q (List.range' k xs.length) a w
  | [], k, μ, σ, a, w, _, hS, hE => by
    simp only [List.length_nil, List.range'_zero, wpOps]
    exact hQ μ σ a w hE hS
  | x :: xs, k, μ, σ, a, w, hi, hS, hE => by
    obtain ⟨o, ho, hio⟩ := hi 0 x rfl
    simp only [Nat.add_zero] at ho
    have hi' : ∀ (j : Nat) (r : XOp), xs[j]? = some r → ∃ o, ops[k + 1 + j]? = some o ∧ IsX P ops n o r := fun j q hq => by
      obtain ⟨o', h1, h2⟩ := hi (j + 1) q hq
      exact ⟨o', by rw [show k + 1 + j = k + (j + 1) by omega]; exact h1, h2⟩
    rw [List.length_cons, List.range'_succ, wpOps_cons]
    unfold wpOp
    rw [ho]
    simp only
    simp only [evalXs] at hE
    have plain : o.guard = none → (o.wp P a w (fun a' w' => ∃ μ' σ', evalXs P (AFn P) xs σ' K ∧ SR w0 Pr0 n μ' σ' a' w') Q) → (if Region.wanted o (yielded ops a.tmps) = true then o.wp P a w (wpOps P ops Q (List.range' (k + 1) xs.length)) Q ∨ (o.asks P a w ∧ LetsOut Q) else wpOps P ops Q (List.range' (k + 1) xs.length) (a.put o.dst undef) w) := by
      intro hg hw
      rw [if_pos (by simp [Region.wanted, hg])]
      left
      refine Oper.wp_mono ?_ hw
      rintro a' w' ⟨μ', σ2, hK, hS2⟩
      exact xs_sound hQ xs (k + 1) hi' hS2 hK
    cases x with
    | nilck d ix gd =>
      obtain ⟨hg, hd, hn, x, h1, h2⟩ := hio
      simp only [evalX] at hE
      rcases guard_sound0 hg hS hE with ⟨hw, σ', hy, hS', hσ⟩ | ⟨hw, σ', hy, hS', hσ⟩
      · rw [if_pos hw]
        left
        refine Oper.wp_mono ?_ (nilck_sound h1 h2 hd hn hS' hy)
        rintro a' w' ⟨μ', σ2, hK, hS2⟩
        exact xs_sound hQ xs (k + 1) hi' hS2 hK
      · rw [if_neg (by rw [hw]; simp)]
        rw [hd]
        exact xs_sound hQ xs (k + 1) hi' (hS'.put hn (TR.of_VR (.tup [] [] rfl (fun j c v h => by simp at h)))) hy
    | mkclo d f ix =>
      obtain ⟨hg, hd, hn, first, caps, x, h1, h2, h3, h4⟩ := hio
      exact plain hg (mkclo_sound h1 h2 h3 h4 hd hn hS hE)
    | mcall d fx ys =>
      obtain ⟨hg, hd, hn, c, f, h1, h2, h3, h4⟩ := hio
      exact plain hg (mcall_sound h1 h2 h3 h4 hd hn hS hE)
    | op k0 r =>
      obtain ⟨hio, rfl⟩ := hio
      obtain ⟨μ1, hS1, hF1⟩ := killO_sound hio hS
      simp only [evalX, evalOps] at hE
      rcases guard_sound hio hS1 hE with ⟨hw, σ', hy, hS', hσ⟩ | ⟨hw, σ', hy, hS', hσ⟩
      · rw [if_pos hw]
        left
        refine Oper.wp_mono ?_ (step_sound hio hS' (Fresh.guard hF1 hσ) hy)
        rintro a' w' ⟨μ', σ2, hK, hS2⟩
        exact xs_sound hQ xs (k + 1) hi' hS2 hK
      · rw [if_neg (by rw [hw]; simp)]
        exact xs_sound hQ xs (k + 1) hi' (skip_sound hio hS') hy
end
end Go.Proofs.YtkdbphhekpdmhaaDoor
