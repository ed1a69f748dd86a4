/-
  The plain machine, eleventh part: a region's operations one behind the other.
-/
import Derived.Test.YtkdbphhekpdmhaaDoorAmK0
namespace Go.Proofs.YtkdbphhekpdmhaaDoor
open Go.RowKit
set_option linter.unusedVariables false
set_option linter.unusedSimpArgs false

/-- an operation of a region: 'hid' are the objects that it must not see; 'wr' those that a store may write -/
structure ROp where
  io : IOp
  dst : Option Nat
  guard : Option (Nat × Bool)
  hid : List Nat
  wr : List Nat

def IOp.isMut : IOp → Bool
  | .store .. | .append .. | .nileq .. => true
  | _ => false

def nameOk (hid : List Nat) (v : AV) : Bool := match v.name with
  | some r => !hid.contains r
  | none => true

/-- is it wanted? -/
def guardV (σ : St) (g : Option (Nat × Bool)) (yes no : St → Prop) : Prop :=
  match g with
  | none => yes σ
  | some (t, want) => match σ.T t with
    | .bool b => (b = want → yes (σ.set t (.bool want))) ∧ (b = (!want) → no (σ.set t (.bool (!want))))
    | .tup [] => no σ
    | _ => False

def stepV (C : FuncId → List AV → AV → Prop) (o : ROp) (σ : St) (K : St → Prop) : Prop :=
  if o.io.isMut then evalT σ o.dst K o.io else match o.dst with
    | some dst => evalM C dst o.hid σ (fun v s fz => nameOk o.hid v = true ∧ K ((σ.fzs fz).made dst v s)) o.io
    | none => False

/-- what an operation that is not wanted leaves -/
def skipV (o : ROp) (σ : St) : St := match o.dst with
  | some dst => σ.set dst (.tup [])
  | none => σ

def evalOps (C : FuncId → List AV → AV → Prop) : List ROp → St → (St → Prop) → Prop
  | [], σ, K => K σ
  | o :: l, σ, K => guardV σ o.guard (fun σ => stepV C o σ fun σ' => evalOps C l σ' K) (fun σ => evalOps C l (skipV o σ) K)

def St.kills (σ : St) : List Nat → St
  | [] => σ
  | r :: l => (σ.kill r).kills l

/-! ### Out of the model's regions -/

def compT (P : Program) (o : Oper) : Option IOp :=
  match o.op with
  | .store t p x => match tyOf P t, compOpd p, compOpd x with
    | some (z, _), some p, some x => if o.dst.isNone then some (.store z p x) else none
    | _, _, _ => none
  | .call c => match c.callee, c.args.toList, c.argTypes.toList with
    | .builtin .append, [x, y], [t, t'] => match P.underlying t, compOpd x, compOpd y with
      | some (.slice e), some x, some y => match P.info? e with
        | some i => match i.zero with
          | some zv => if t == t' && zv.cells.size == i.size then some (.append i.size e i.bytes x y) else none
          | none => none
        | none => none
      | _, _, _ => none
    | _, _, _ => none
  | .binOp op t x (.const (.slice none _ _)) _ => match op, P.underlying t with
    | .eql, some (.slice _) => if o.dst.isSome then (compOpd x).map (.nileq false) else none
    | .neq, some (.slice _) => if o.dst.isSome then (compOpd x).map (.nileq true) else none
    | _, _ => none
  | _ => none

def compIO (P : Program) (o : Oper) : Option IOp := match compT P o with
  | some io => some io
  | none => compM P o

/-- the operation 'o' of a region is the plain one 'r' -/
structure IsOp (P : Program) (ops : Array Oper) (n : Nat) (o : Oper) (r : ROp) : Prop where
  io : compIO P o = some r.io
  dst : r.dst = o.dst
  lt : ∀ d, o.dst = some d → d < n
  guard : match o.guard with
    | none => r.guard = none
    | some (j, want) => ∃ t, (ops[j]?).bind (·.dst) = some t ∧ t < n ∧ r.guard = some (t, want)

section
variable {P : Program} {w0 : Start} {Pr0 : Nat → Nat → Prop} {n : Nat} {μ : Nat → Option Nat} {σ : St} {a : Act} {w : World} {Pr : Nat → Nat → Prop} {H : Nat → Option Arr}

theorem compT_mut {o : Oper} {io : IOp} (h : compT P o = some io) : io.isMut = true := by
  unfold compT at h
  repeat' split at h
  all_goals first
    | (cases h; done)
    | (cases h; rfl)
    | (rw [Option.map_eq_some_iff] at h; obtain ⟨_, _, rfl⟩ := h; rfl)

theorem compM_notMut {o : Oper} {io : IOp} (h : compM P o = some io) : io.isMut = false := by
  unfold compM at h
  have hv : ∀ io, compV P o.op = some io → io.isMut = false := by
    intro io h
    unfold compV at h
    repeat' split at h
    all_goals first
      | (cases h; done)
      | (cases h; rfl)
      | (rw [Option.map_eq_some_iff] at h; obtain ⟨_, _, rfl⟩ := h; rfl)
  repeat' split at h
  all_goals first
    | exact hv _ h
    | (cases h; done)
    | (cases h; rfl)
    | (rw [Option.map_eq_some_iff] at h; obtain ⟨_, _, rfl⟩ := h; rfl)

theorem compT_sound {o : Oper} {io : IOp} (hc : compT P o = some io) (hlt : ∀ d, o.dst = some d → d < n) (h : SR w0 Pr0 n μ σ a w) {K : St → Prop} (hE : evalT σ o.dst K io) {Q : Exit → Act → World → Prop} :
    o.wp P a w (fun a' w' => ∃ μ' σ', K σ' ∧ SR w0 Pr0 n μ' σ' a' w') Q := by
  unfold compT at hc
  split at hc
  · rename_i t p x ho
    split at hc
    · rename_i z agg ip ix h1 h2 h3
      split at hc
      · rename_i hd
        cases hc
        have hd' : o.dst = none := Option.isNone_iff_eq_none.1 hd
        rw [hd'] at hE
        exact store_sound ho h1 h2 h3 hd' h hE
      · cases hc
    · cases hc
  · rename_i c ho
    split at hc
    · rename_i x y t t' h1 h2 h3
      split at hc
      · rename_i e ix iy h4 h5 h6
        split at hc
        · rename_i i hi
          split at hc
          · rename_i zv hz
            split at hc
            · rename_i hq
              cases hc
              simp only [Bool.and_eq_true, beq_iff_eq] at hq
              obtain ⟨rfl, hq⟩ := hq
              have hts : c.argTypes = #[t, t] := by apply Array.ext'; exact h3
              cases hd : o.dst with
              | none => rw [hd] at hE; simp only [evalT] at hE
                        split at hE
                        · rename_i hdd; cases hdd
                        · exact hE.elim
              | some dst => rw [hd] at hE; exact append_sound ho h1 h2 hts h4 hi hz hq h5 h6 hd (hlt _ hd) h hE
            · cases hc
          · cases hc
        · cases hc
      · cases hc
    · cases hc
  · rename_i op t x n' c' yt ho
    split at hc
    · rename_i e ht
      split at hc
      · rename_i hd
        rw [Option.map_eq_some_iff] at hc
        obtain ⟨ix, hx, rfl⟩ := hc
        obtain ⟨d, hd⟩ := Option.isSome_iff_exists.1 hd
        rw [hd] at hE
        exact nileq_sound (neq := false) (y := x) ho rfl ht hx hd (hlt _ hd) h hE
      · cases hc
    · rename_i e ht
      split at hc
      · rename_i hd
        rw [Option.map_eq_some_iff] at hc
        obtain ⟨ix, hx, rfl⟩ := hc
        obtain ⟨d, hd⟩ := Option.isSome_iff_exists.1 hd
        rw [hd] at hE
        exact nileq_sound (neq := true) (y := x) ho rfl ht hx hd (hlt _ hd) h hE
      · cases hc
    · cases hc
  · cases hc

/-- what pending operations will make is not there yet, and nothing leads there -/
def Fresh (l : List ROp) (σ : St) : Prop := ∀ r, r ∈ l → r.io.pure = false → ∀ d, r.dst = some d → σ.H d = none ∧ ∀ t, (σ.T t).name ≠ some d

/-- each operation hides what later ones make -/
def hidLater : List ROp → Prop
  | [] => True
  | o :: l => (∀ r, r ∈ l → r.io.pure = false → ∀ d, r.dst = some d → o.hid.contains d = true ∧ o.dst ≠ some d) ∧ hidLater l

theorem Fresh.set {l : List ROp} (h : Fresh l σ) {t : Nat} {v : AV} (hv : v.name = none) : Fresh l (σ.set t v) := by
  intro r hr hp d hd
  obtain ⟨h1, h2⟩ := h r hr hp d hd
  refine ⟨h1, fun s => ?_⟩
  show (upd σ.T t v s).name ≠ some d
  by_cases e : s = t
  · subst e; rw [upd_same, hv]; exact fun e => by cases e
  · rw [upd_ne _ _ e]; exact h2 s

theorem SR.same (h : SR w0 Pr0 n μ σ a w) {t : Nat} {v : AV} (hv : σ.T t = v) : SR w0 Pr0 n μ (σ.set t v) a w := by
  have e : σ.set t v = σ := by
    show (⟨upd σ.T t v, σ.H⟩ : St) = σ
    rw [upd_self _ _ _ hv]
  rw [e]; exact h

/-- a guard, in the model and here -/
theorem guard_sound0 {ops : Array Oper} {o : Oper} {gd : Option (Nat × Bool)} (hig : match o.guard with
    | none => gd = none
    | some (j, want) => ∃ t, (ops[j]?).bind (·.dst) = some t ∧ t < n ∧ gd = some (t, want)) (h : SR w0 Pr0 n μ σ a w) {yes no : St → Prop} (hg : guardV σ gd yes no) :
    (Region.wanted o (yielded ops a.tmps) = true ∧ ∃ σ', yes σ' ∧ SR w0 Pr0 n μ σ' a w ∧ (σ' = σ ∨ ∃ t b, σ' = σ.set t (.bool b))) ∨ (Region.wanted o (yielded ops a.tmps) = false ∧ ∃ σ', no σ' ∧ SR w0 Pr0 n μ σ' a w ∧ (σ' = σ ∨ ∃ t b, σ' = σ.set t (.bool b))) := by
  unfold guardV at hg
  cases hgo : o.guard with
  | none =>
    rw [hgo] at hig
    rw [hig] at hg
    exact .inl ⟨by simp [Region.wanted, hgo], σ, hg, h, .inl rfl⟩
  | some g =>
    obtain ⟨j, want⟩ := g
    rw [hgo] at hig
    obtain ⟨t, h1, h2, h3⟩ := hig
    rw [h3] at hg
    simp only at hg
    have ht := h.tmp t
    have hlt : t < a.tmps.size := by rw [h.size]; exact h2
    have hget : a.tmps[t]? = some (a.tmps.getD t undef) := by rw [Array.getD_eq_getD_getElem?, Array.getElem?_eq_getElem hlt]; rfl
    have hw : Region.wanted o (yielded ops a.tmps) = (yielded ops a.tmps j == some want) := by simp [Region.wanted, hgo]
    split at hg
    · rename_i b e
      rw [e] at ht
      have hv := ht.bool
      have hy : yielded ops a.tmps j = some b := by unfold yielded; rw [h1]; simp only [Option.bind_some]; rw [hget, hv]
      by_cases hb : b = want
      · subst hb
        exact .inl ⟨by rw [hw, hy]; simp, _, hg.1 rfl, h.same e, .inr ⟨t, _, rfl⟩⟩
      · have hb' : b = (!want) := by cases b <;> cases want <;> simp_all
        refine .inr ⟨by rw [hw, hy]; simpa using hb, _, hg.2 hb', h.same (by rw [e, hb']), .inr ⟨t, _, rfl⟩⟩
    · rename_i e
      rw [e] at ht
      have ht' : VR (PrOf w0 Pr0 μ σ.H) w (.tup []) (a.tmps.getD t undef) := ht
      have hv : a.tmps.getD t undef = .tuple #[] := by
        generalize a.tmps.getD t undef = v at ht'
        cases ht' with
        | tup _ vs hl _ =>
          have : vs = [] := List.length_eq_zero_iff.1 hl.symm
          subst this; rfl
      have hy : yielded ops a.tmps j = none := by unfold yielded; rw [h1]; simp only [Option.bind_some]; rw [hget, hv]
      exact .inr ⟨by rw [hw, hy]; rfl, σ, hg, h, .inl rfl⟩
    · exact hg.elim

theorem guard_sound {ops : Array Oper} {o : Oper} {r : ROp} (hi : IsOp P ops n o r) (h : SR w0 Pr0 n μ σ a w) {yes no : St → Prop} (hg : guardV σ r.guard yes no) :
    (Region.wanted o (yielded ops a.tmps) = true ∧ ∃ σ', yes σ' ∧ SR w0 Pr0 n μ σ' a w ∧ (σ' = σ ∨ ∃ t b, σ' = σ.set t (.bool b))) ∨ (Region.wanted o (yielded ops a.tmps) = false ∧ ∃ σ', no σ' ∧ SR w0 Pr0 n μ σ' a w ∧ (σ' = σ ∨ ∃ t b, σ' = σ.set t (.bool b))) :=
  guard_sound0 hi.guard h hg

theorem Fresh.fzs {l : List ROp} (h : Fresh l σ) (f : List Nat) : Fresh l (σ.fzs f) := fun r hr hp d hd => by
  obtain ⟨h1, h2⟩ := h r hr hp d hd
  exact ⟨fzs_none h1, by rw [fzs_T]; exact h2⟩

theorem skip_sound {ops : Array Oper} {o : Oper} {r : ROp} (hi : IsOp P ops n o r) (h : SR w0 Pr0 n μ σ a w) : SR w0 Pr0 n μ (skipV r σ) (a.put o.dst undef) w := by
  unfold skipV
  rw [hi.dst]
  cases hd : o.dst with
  | none => exact h
  | some d => exact h.put (hi.lt d hd) (TR.of_VR (.tup [] [] rfl (fun j c v h => by simp at h)))

theorem step_sound {ops : Array Oper} {o : Oper} {r : ROp} (hi : IsOp P ops n o r) (h : SR w0 Pr0 n μ σ a w) (hF : Fresh [r] σ) {K : St → Prop} (hE : stepV (AFn P) r σ K) {Q : Exit → Act → World → Prop} :
    o.wp P a w (fun a' w' => ∃ μ' σ', K σ' ∧ SR w0 Pr0 n μ' σ' a' w') Q := by
  have hio := hi.io
  unfold compIO at hio
  unfold stepV at hE
  split at hio
  · rename_i io hT
    cases hio
    rw [if_pos (compT_mut hT), hi.dst] at hE
    exact compT_sound hT hi.lt h hE
  · rw [if_neg (by rw [compM_notMut hio]; simp), hi.dst] at hE
    cases hd : o.dst with
    | none => rw [hd] at hE; exact hE.elim
    | some dst =>
      rw [hd] at hE
      refine Oper.wp_mono ?_ (evalM_sound hio hd (hi.lt dst hd) h (fun hp => hF r (by simp) hp dst (by rw [hi.dst, hd])) hE)
      rintro a' w' ⟨μ', v, s, fz, ⟨_, hK⟩, hS⟩
      exact ⟨μ', _, hK, hS⟩

/-- a write leaves what is pending fresh -/
theorem evalT_fresh {l : List ROp} (hF : Fresh l σ) {dst : Option Nat} {K : St → Prop} {io : IOp} (hE : evalT σ dst K io) : evalT σ dst (fun σ' => K σ' ∧ Fresh l σ') io := by
  have hne : ∀ {fz : List Nat} {r : Nat} {arr : Arr}, (σ.fzs fz).H r = some arr → ∀ q, q ∈ l → q.io.pure = false → ∀ d, q.dst = some d → d ≠ r := by
    intro fz r arr ha q hq hp d hd e
    subst e
    rw [fzs_none (hF q hq hp d hd).1] at ha; cases ha
  cases io with
  | store z p x =>
    simp only [evalT] at hE ⊢
    split at hE
    · rename_i r i f e1
      split at hE
      · rename_i d fz e2
        split at hE
        · rename_i arr e3
          split at hE
          · rename_i old e4
            obtain ⟨a1, a2, a3, a4, hK⟩ := hE
            refine ⟨a1, a2, a3, a4, hK, fun q hq hp d' hd' => ⟨?_, (hF q hq hp d' hd').2⟩⟩
            show upd (σ.fzs fz).H r _ d' = none
            rw [upd_ne _ _ (hne e3 q hq hp d' hd')]
            exact fzs_none (hF q hq hp d' hd').1
          · exact hE.elim
        · exact hE.elim
      · exact hE.elim
    · exact hE.elim
  | append z ty bytes x y =>
    simp only [evalT] at hE ⊢
    split at hE
    · rename_i r len ll fz dst' e1 e2
      split at hE
      · rename_i arr e3
        obtain ⟨a0, a1, a2, a3, a4, a5, hK⟩ := hE
        refine ⟨a0, a1, a2, a3, a4, a5, hK, fun q hq hp d' hd' => ⟨?_, fun t => ?_⟩⟩
        · show upd (σ.fzs fz).H r _ d' = none
          rw [upd_ne _ _ (hne e3 q hq hp d' hd')]
          exact fzs_none (hF q hq hp d' hd').1
        · show (upd (sweep σ.T r) dst' (.rs r 0 _) t).name ≠ some d'
          by_cases e : t = dst'
          · subst e; rw [upd_same]
            intro e; injection e with e; exact hne e3 q hq hp d' hd' e.symm
          · rw [upd_ne _ _ e]
            unfold sweep
            split
            · intro e; cases e
            · exact (hF q hq hp d' hd').2 t
      · exact hE.elim
    · exact hE.elim
  | nileq neq x =>
    simp only [evalT] at hE ⊢
    split at hE
    · exact ⟨fun e => ⟨hE.1 e, hF.set rfl⟩, hE.2, hF.set rfl⟩
    · exact ⟨hE.1, fun e => ⟨hE.2.1 e, hF.set rfl⟩, hE.2.2, hF.set rfl⟩
    · exact hE.elim
  | _ => exact hE.elim

/-- a step leaves what is pending fresh -/
theorem step_fresh {r : ROp} {l : List ROp} (hh : ∀ x, x ∈ l → x.io.pure = false → ∀ d, x.dst = some d → r.hid.contains d = true ∧ r.dst ≠ some d) (hF : Fresh l σ) {C : FuncId → List AV → AV → Prop} {K : St → Prop} (hE : stepV C r σ K) :
    stepV C r σ fun σ' => K σ' ∧ Fresh l σ' := by
  unfold stepV at hE ⊢
  split at hE
  · rename_i hm
    rw [if_pos hm]
    exact evalT_fresh hF hE
  · rename_i hm
    rw [if_neg hm]
    cases hd : r.dst with
    | none => rw [hd] at hE; exact hE.elim
    | some dst =>
      rw [hd] at hE
      simp only at hE ⊢
      obtain ⟨v, s, fz, ⟨h1, h2⟩, h3, h4⟩ := evalM_det hE
      refine h4 σ _ (Alike.refl _ _ _) ⟨h1, h2, fun q hq hp d hqd => ?_⟩
      obtain ⟨g1, g2⟩ := hF q hq hp d hqd
      obtain ⟨k1, k2⟩ := hh q hq hp d hqd
      have hne : d ≠ dst := fun e => k2 (by rw [hd, e])
      refine ⟨?_, fun t => ?_⟩
      · unfold St.made
        cases s with
        | none => exact fzs_none g1
        | some arr => show upd (σ.fzs fz).H dst _ d = none; rw [upd_ne _ _ hne]; exact fzs_none g1
      · show (upd (σ.fzs fz).T dst v t).name ≠ some d
        by_cases e : t = dst
        · subst e
          rw [upd_same]
          intro e
          unfold nameOk at h1
          rw [e] at h1
          simp only [Bool.not_eq_true'] at h1
          rw [k1] at h1; cases h1
        · rw [upd_ne _ _ e, fzs_T]; exact g2 t

theorem skip_fresh {r : ROp} {l : List ROp} (hF : Fresh l σ) : Fresh l (skipV r σ) := by
  unfold skipV
  cases r.dst with
  | none => exact hF
  | some d => exact hF.set rfl

theorem Fresh.guard {l : List ROp} (hF : Fresh l σ) {σ' : St} (h : σ' = σ ∨ ∃ t b, σ' = σ.set t (.bool b)) : Fresh l σ' := by
  rcases h with rfl | ⟨t, b, rfl⟩
  · exact hF
  · exact hF.set rfl

/-- a region's operations, one behind the other -/
theorem ops_sound {ops : Array Oper} {Q : Exit → Act → World → Prop} {K : St → Prop} (hQ : ∀ μ σ' a w, K σ' → SR w0 Pr0 n μ σ' a w → Q .normal a w) : ∀ (rs : List ROp) (k : Nat) {μ : Nat → Option Nat} {σ : St} {a : Act} {w : World},
    (∀ (j : Nat) (r : ROp), rs[j]? = some r → ∃ o, ops[k + j]? = some o ∧ IsOp P ops n o r) → hidLater rs → SR w0 Pr0 n μ σ a w → Fresh rs σ → evalOps (AFn P) rs σ K → wpOps P ops Q (List.range' k rs.length) a w
  | [], k, μ, σ, a, w, _, _, hS, _, hE => by
    simp only [List.length_nil, List.range'_zero, wpOps]
    exact hQ μ σ a w hE hS
  | r :: rs, k, μ, σ, a, w, hi, hh, hS, hF, hE => by
    obtain ⟨o, ho, hio⟩ := hi 0 r rfl
    simp only [Nat.add_zero] at ho
    have hi' : ∀ (j : Nat) (r : ROp), rs[j]? = some r → ∃ o, ops[k + 1 + j]? = some o ∧ IsOp P ops n o r := fun j q hq => by
      obtain ⟨o', h1, h2⟩ := hi (j + 1) q hq
      exact ⟨o', by rw [show k + 1 + j = k + (j + 1) by omega]; exact h1, h2⟩
    rw [List.length_cons, List.range'_succ, wpOps_cons]
    unfold wpOp
    rw [ho]
    simp only
    simp only [evalOps] at hE
    have hF1 : Fresh rs σ := fun q hq => hF q (by simp [hq])
    rcases guard_sound hio hS hE with ⟨hw, σ', hy, hS', hσ⟩ | ⟨hw, σ', hy, hS', hσ⟩
    · rw [if_pos hw]
      left
      have hFr : Fresh [r] σ' := Fresh.guard (fun q hq => hF q (by simp at hq; simp [hq])) hσ
      have hFl : Fresh rs σ' := Fresh.guard hF1 hσ
      refine Oper.wp_mono ?_ (step_sound hio hS' hFr (step_fresh hh.1 hFl hy))
      rintro a' w' ⟨μ', σ2, ⟨hK, hF2⟩, hS2⟩
      exact ops_sound hQ rs (k + 1) hi' hh.2 hS2 hF2 hK
    · rw [if_neg (by rw [hw]; simp)]
      exact ops_sound hQ rs (k + 1) hi' hh.2 (skip_sound hio hS') (skip_fresh (Fresh.guard hF1 hσ)) hy
end
end Go.Proofs.YtkdbphhekpdmhaaDoor
