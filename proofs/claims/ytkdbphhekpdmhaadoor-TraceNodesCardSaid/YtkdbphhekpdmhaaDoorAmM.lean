/-
  The plain machine, thirteenth part: a region whose order is drawn: its head in whatever order, its tail one behind the other.
-/
import Derived.Test.YtkdbphhekpdmhaaDoorAmL
namespace Go.Proofs.YtkdbphhekpdmhaaDoor
open Go.RowKit
set_option linter.unusedVariables false
set_option linter.unusedSimpArgs false

/-- a store of a region's head: where it may write is known beforehand -/
def evalS (F0 hid wr : List Nat) (σ : St) (K : Nat → Arr → Prop) : IOp → Prop
  | .store z p x => match σ.get p with
    | .ptr r i f => wr.contains r = true ∧ hid.contains r = false ∧ F0.contains r = false ∧ match σ.byval hid (σ.get x) with
      | some (d, fz) => fz.all F0.contains = true ∧ match σ.H r with
        | some arr => match arr.cells[i]? with
          | some old => d.cells.length = z ∧ f + z ≤ old.cells.length ∧ arr.prot ≤ i ∧ d.cells.all AV.one = true ∧
            K r { arr with cells := arr.cells.set i (old.patch f z d) }
          | none => False
        | none => False
      | none => False
    | _ => False
  | _ => False

/-- a region's head: 'F0' are the objects that are frozen -/
def evalHead (C : FuncId → List AV → AV → Prop) (F0 : List Nat) : List ROp → St → (St → Prop) → Prop
  | [], σ, K => K σ
  | o :: l, σ, K => guardV σ o.guard (fun σ => match o.dst with
      | some dst => evalM C dst o.hid σ (fun v s fz => fz.all F0.contains = true ∧ nameOk o.hid v = true ∧ evalHead C F0 l (σ.made dst v s) K) o.io
      | none => evalS F0 o.hid o.wr σ (fun r arr => evalHead C F0 l ⟨σ.T, upd σ.H r (some arr)⟩ K) o.io)
    (fun σ => match o.dst with
      | some dst => evalHead C F0 l (σ.made dst (.tup []) none) K
      | none => evalHead C F0 l σ K)

/-- what an operation of the head has come to -/
structure HEff where
  v : AV
  s : Option (Nat × Arr)
  w : Bool

def St.eff (σ : St) (dst : Option Nat) (v : AV) (s : Option (Nat × Arr)) : St :=
  ⟨match dst with
    | some d => upd σ.T d v
    | none => σ.T, match s with
    | some q => upd σ.H q.1 (some q.2)
    | none => σ.H⟩

theorem eff_made (σ : St) (d : Nat) (v : AV) (s : Option Arr) : σ.eff (some d) v (s.map fun a => (d, a)) = σ.made d v s := by
  unfold St.eff St.made
  cases s <;> rfl

/-- the objects that an operation may make or write -/
def ROp.wrs (r : ROp) : List Nat := match r.dst with
  | some d => if r.io.pure then [] else [d]
  | none => r.wr

theorem ROp.wrs_maker {r : ROp} {d : Nat} (hp : r.io.pure = false) (hd : r.dst = some d) : r.wrs = [d] := by
  unfold ROp.wrs; rw [hd]; simp [hp]

def guardIs (σ : St) (g : Option (Nat × Bool)) : Bool → Prop
  | true => ∀ t want, g = some (t, want) → σ.T t = .bool want
  | false => ∃ t want, g = some (t, want) ∧ (σ.T t = .bool (!want) ∨ σ.T t = .tup [])

structure OpAt (C : FuncId → List AV → AV → Prop) (F0 : List Nat) (r : ROp) (σ : St) (e : HEff) : Prop where
  guard : guardIs σ r.guard e.w
  made : ∀ x arr, e.s = some (x, arr) → x ∈ r.wrs ∧ (r.dst = none → F0.contains x = false)
  name : r.dst.isSome → nameOk r.hid e.v = true
  run : e.w = true → (∀ dst, r.dst = some dst → ∃ fz s, e.s = s.map (fun a => (dst, a)) ∧ fz.all F0.contains = true ∧ ∀ (σ' : St) (K' : AV → Option Arr → List Nat → Prop), Alike r.io r.hid σ σ' → K' e.v s fz → evalM C dst r.hid σ' K' r.io) ∧
    (r.dst = none → ∀ (σ' : St) (K' : St → Prop), Alike r.io r.hid σ σ' → (∀ l : List Nat, l.all F0.contains = true → σ'.fzs l = σ') → K' (σ'.eff none e.v e.s) → evalT σ' none K' r.io)
  skip : e.w = false → e.v = .tup [] ∧ e.s = none

def HeadSeq (C : FuncId → List AV → AV → Prop) (F0 : List Nat) : List ROp → St → List HEff → St → Prop
  | [], σ, [], σ' => σ' = σ
  | r :: l, σ, e :: es, σ' => OpAt C F0 r σ e ∧ HeadSeq C F0 l (σ.eff r.dst e.v e.s) es σ'
  | _, _, _, _ => False

theorem set_same {σ : St} {t : Nat} {v : AV} (h : σ.T t = v) : σ.set t v = σ := by
  show (⟨upd σ.T t v, σ.H⟩ : St) = σ
  rw [upd_self _ _ _ h]

theorem guardV_is {σ : St} {g : Option (Nat × Bool)} {yes no : St → Prop} (h : guardV σ g yes no) : (guardIs σ g true ∧ yes σ) ∨ (guardIs σ g false ∧ no σ) := by
  unfold guardV at h
  cases g with
  | none => exact .inl ⟨(fun t want e => by cases e), h⟩
  | some g =>
    obtain ⟨t, want⟩ := g
    simp only at h
    split at h
    · rename_i b e
      by_cases hb : b = want
      · subst hb
        have := h.1 rfl
        rw [set_same e] at this
        exact .inl ⟨fun t' w' q => by cases q; exact e, this⟩
      · have hb' : b = (!want) := by cases b <;> cases want <;> simp_all
        have := h.2 hb'
        rw [set_same (by rw [e, hb'])] at this
        exact .inr ⟨⟨t, want, rfl, .inl (by rw [e, hb'])⟩, this⟩
    · rename_i e
      exact .inr ⟨⟨t, want, rfl, .inr e⟩, h⟩
    · exact h.elim

theorem byval_all {hid : List Nat} {σ : St} {v : AV} {q : AV × List Nat} (h : σ.byval hid v = some q) : σ.byval [] v = some q := by
  unfold St.byval at h ⊢
  cases v with
  | rs r off len =>
    simp only at h ⊢
    split at h
    · cases h
    · simpa using h
  | ptr r i f =>
    simp only at h ⊢
    split at h
    · cases h
    · simpa using h
  | _ => exact h

theorem evalS_det {F0 hid wr : List Nat} {σ : St} {K : Nat → Arr → Prop} {io : IOp} (h : evalS F0 hid wr σ K io) : ∃ r arr, K r arr ∧ wr.contains r = true ∧ F0.contains r = false ∧ ∀ (v : AV) (σ' : St) (K' : St → Prop), Alike io hid σ σ' → (∀ l : List Nat, l.all F0.contains = true → σ'.fzs l = σ') →
    K' (σ'.eff none v (some (r, arr))) → evalT σ' none K' io := by
  cases io with
  | store z p x =>
    simp only [evalS] at h
    split at h
    · rename_i r i f e1
      obtain ⟨a1, a2, a3, h⟩ := h
      split at h
      · rename_i d fz e2
        obtain ⟨a4, h⟩ := h
        split at h
        · rename_i arr e3
          split at h
          · rename_i old e4
            obtain ⟨b1, b2, b3, b4, hK⟩ := h
            refine ⟨r, _, hK, a1, a3, fun v σ' K' hA hfz hk => ?_⟩
            simp only [evalT]
            rw [hA.get p (by simp [IOp.opds]), e1, hA.get x (by simp [IOp.opds]), byval_all (byval_det hA.obj e2)]
            simp only [hfz fz a4, hA.obj r arr a2 e3, e4]
            exact ⟨b1, b2, b3, b4, hk⟩
          · exact h.elim
        · exact h.elim
      · exact h.elim
    · exact h.elim
  | _ => exact h.elim

theorem head_seq {C : FuncId → List AV → AV → Prop} {F0 : List Nat} : ∀ {rs : List ROp} {σ : St} {K : St → Prop}, evalHead C F0 rs σ K → ∃ es σ', HeadSeq C F0 rs σ es σ' ∧ es.length = rs.length ∧ K σ'
  | [], σ, K, h => ⟨[], σ, rfl, rfl, h⟩
  | r :: rs, σ, K, h => by
    simp only [evalHead] at h
    rcases guardV_is h with ⟨hg, h⟩ | ⟨hg, h⟩
    · cases hd : r.dst with
      | none =>
        rw [hd] at h
        simp only at h
        obtain ⟨x, arr, h1, h2, h3, h4⟩ := evalS_det h
        obtain ⟨es, σ', k1, k2, k3⟩ := head_seq h1
        refine ⟨⟨.und, some (x, arr), true⟩ :: es, σ', ⟨⟨hg, fun y ar e => ?_, (fun e => by rw [hd] at e; cases e), fun _ => ⟨(fun dst e => by rw [hd] at e; cases e), fun _ σ2 K2 hA hf hk => h4 _ σ2 K2 hA hf hk⟩, fun e => by cases e⟩, by rw [hd]; exact k1⟩, by simp [k2], k3⟩
        cases e
        unfold ROp.wrs
        rw [hd]
        exact ⟨by simpa using h2, fun _ => h3⟩
      | some dst =>
        rw [hd] at h
        obtain ⟨v, s, fz, ⟨h1, h2, h3⟩, h4, h5⟩ := evalM_det h
        obtain ⟨es, σ', k1, k2, k3⟩ := head_seq h3
        refine ⟨⟨v, s.map (fun a => (dst, a)), true⟩ :: es, σ', ⟨⟨hg, fun x arr e => ?_, fun _ => h2, fun _ => ⟨fun d e => ?_, fun e => by rw [hd] at e; cases e⟩, fun e => by cases e⟩, by rw [hd]; rw [eff_made]; exact k1⟩, by simp [k2], k3⟩
        · cases s with
          | none => cases e
          | some a =>
            cases e
            have hp : r.io.pure = false := by
              cases hp : r.io.pure with
              | false => rfl
              | true => have := h4 hp; cases this
            rw [ROp.wrs_maker hp hd]
            exact ⟨by simp, fun e => by rw [hd] at e; cases e⟩
        · rw [hd] at e; cases e
          exact ⟨fz, s, rfl, h1, h5⟩
    · cases hd : r.dst with
      | none =>
        rw [hd] at h
        simp only at h
        obtain ⟨es, σ', k1, k2, k3⟩ := head_seq h
        exact ⟨⟨.tup [], none, false⟩ :: es, σ', ⟨⟨hg, (fun _ _ e => by cases e), (fun e => by rw [hd] at e; cases e), (fun e => by cases e), fun _ => ⟨rfl, rfl⟩⟩, by rw [hd]; exact k1⟩, by simp [k2], k3⟩
      | some dst =>
        rw [hd] at h
        obtain ⟨es, σ', k1, k2, k3⟩ := head_seq h
        exact ⟨⟨.tup [], none, false⟩ :: es, σ', ⟨⟨hg, (fun _ _ e => by cases e), (fun _ => rfl), (fun e => by cases e), fun _ => ⟨rfl, rfl⟩⟩, by rw [hd]; exact k1⟩, by simp [k2], k3⟩

/-- the state when those of S are done -/
structure HInv (rs : List ROp) (es : List HEff) (σ0 : St) (S : Nat → Bool) (σ : St) : Prop where
  dst : ∀ (i : Nat) (r : ROp) (e : HEff) (d : Nat), rs[i]? = some r → es[i]? = some e → S i = true → r.dst = some d → σ.T d = e.v
  obj : ∀ (i : Nat) (e : HEff) (x : Nat) (arr : Arr), es[i]? = some e → S i = true → e.s = some (x, arr) → (∀ (j : Nat) (e' : HEff) (arr' : Arr), es[j]? = some e' → S j = true → e'.s = some (x, arr') → j ≤ i) → σ.H x = some arr
  T : ∀ t, (∀ (i : Nat) (r : ROp), rs[i]? = some r → S i = true → r.dst ≠ some t) → σ.T t = σ0.T t
  H : ∀ x, (∀ (i : Nat) (e : HEff) (arr : Arr), es[i]? = some e → S i = true → e.s ≠ some (x, arr)) → σ.H x = σ0.H x

def Distinct (rs : List ROp) : Prop := ∀ (i j : Nat) (r r' : ROp) (d : Nat), rs[i]? = some r → rs[j]? = some r' → r.dst = some d → r'.dst = some d → i = j

theorem HInv.start (rs : List ROp) (es : List HEff) (σ0 : St) : HInv rs es σ0 (fun _ => false) σ0 := ⟨(fun _ _ _ _ _ _ h => by cases h), (fun _ _ _ _ _ h => by cases h), fun _ _ => rfl, fun _ _ => rfl⟩

theorem HInv.step {rs : List ROp} {es : List HEff} {σ0 : St} {S : Nat → Bool} {σ : St} (h : HInv rs es σ0 S σ) (hD : Distinct rs) {i : Nat} {r : ROp} {e : HEff} (hr : rs[i]? = some r) (he : es[i]? = some e)
    (hord : ∀ (j : Nat) (e' : HEff) (x : Nat) (arr arr' : Arr), es[j]? = some e' → S j = true → e.s = some (x, arr) → e'.s = some (x, arr') → j < i) :
    HInv rs es σ0 (fun j => decide (j = i) || S j) (σ.eff r.dst e.v e.s) := by
  refine ⟨fun j r' e' d' hj hej hs hd' => ?_, fun j e' x arr hej hs hx hlast => ?_, fun t ht => ?_, fun x hx => ?_⟩
  · by_cases q : j = i
    · subst q
      rw [hr] at hj; cases hj
      rw [he] at hej; cases hej
      unfold St.eff
      rw [hd']
      exact upd_same _ _ _
    · have hs' : S j = true := by simpa [q] using hs
      have h1 := h.dst j r' e' d' hj hej hs' hd'
      unfold St.eff
      cases hd : r.dst with
      | none => exact h1
      | some d =>
        have hne : d' ≠ d := fun e => q (hD j i r' r d' hj hr hd' (by rw [hd, e]))
        show upd σ.T d e.v d' = _
        rw [upd_ne _ _ hne]; exact h1
  · by_cases q : j = i
    · subst q
      rw [he] at hej; cases hej
      unfold St.eff
      rw [hx]
      exact upd_same _ _ _
    · have hs' : S j = true := by simpa [q] using hs
      have h1 := h.obj j e' x arr hej hs' hx (fun k e2 arr2 hk hsk hk2 => hlast k e2 arr2 hk (by simp [hsk]) hk2)
      unfold St.eff
      cases hes : e.s with
      | none => exact h1
      | some q2 =>
        obtain ⟨y, arr2⟩ := q2
        by_cases hxy : x = y
        · subst hxy
          have a1 := hord j e' x arr2 arr hej hs' hes hx
          have a2 := hlast i e arr2 he (by simp) hes
          omega
        · show upd σ.H y _ x = _
          rw [upd_ne _ _ hxy]; exact h1
  · have h1 := h.T t (fun j r' hj hs => ht j r' hj (by simp [hs]))
    unfold St.eff
    cases hd : r.dst with
    | none => exact h1
    | some d =>
      have hne : t ≠ d := fun q => ht i r hr (by simp) (by rw [hd, q])
      show upd σ.T d e.v t = _
      rw [upd_ne _ _ hne]; exact h1
  · have hold := h.H x (fun j e' arr hej hs => hx j e' arr hej (by simp [hs]))
    unfold St.eff
    cases hes : e.s with
    | none => exact hold
    | some q2 =>
      obtain ⟨y, arr2⟩ := q2
      have hne : x ≠ y := fun q => by subst q; exact hx i e arr2 he (by simp) hes
      show upd σ.H y _ x = _
      rw [upd_ne _ _ hne]; exact hold

theorem exists_last {p : Nat → Prop} : ∀ (n : Nat), (∃ i, i < n ∧ p i) → ∃ i, i < n ∧ p i ∧ ∀ j, j < n → p j → j ≤ i
  | 0, h => by obtain ⟨i, hi, _⟩ := h; omega
  | n + 1, h => by
    by_cases hn : p n
    · exact ⟨n, by omega, hn, fun j hj _ => by omega⟩
    · obtain ⟨i, hi, hp⟩ := h
      have hin : i ≠ n := fun e => by subst e; exact hn hp
      obtain ⟨k, k1, k2, k3⟩ := exists_last n ⟨i, by omega, hp⟩
      refine ⟨k, by omega, k2, fun j hj hpj => k3 j ?_ hpj⟩
      have : j ≠ n := fun e => by subst e; exact hn hpj
      omega

/-- an object is the same where the same writers of it are done -/
theorem HInv.H_eq {rs : List ROp} {es : List HEff} {σ0 σ σ' : St} {S S' : Nat → Bool} (h : HInv rs es σ0 S σ) (h' : HInv rs es σ0 S' σ') {x : Nat} (hx : ∀ (i : Nat) (e : HEff) (arr : Arr), es[i]? = some e → e.s = some (x, arr) → S i = S' i) : σ.H x = σ'.H x := by
  by_cases q : ∃ i, i < es.length ∧ ∃ e arr, es[i]? = some e ∧ S i = true ∧ e.s = some (x, arr)
  · obtain ⟨i, hi, ⟨e, arr, h1, h2, h3⟩, hlast⟩ := exists_last es.length q
    rw [h.obj i e x arr h1 h2 h3 (fun j e' arr' g1 g2 g3 => hlast j (List.getElem?_eq_some_iff.1 g1).1 ⟨e', arr', g1, g2, g3⟩),
      h'.obj i e x arr h1 (by rw [← hx i e arr h1 h3]; exact h2) h3 (fun j e' arr' g1 g2 g3 => hlast j (List.getElem?_eq_some_iff.1 g1).1 ⟨e', arr', g1, by rw [hx j e' arr' g1 g3]; exact g2, g3⟩)]
  · have : ∀ i e arr, es[i]? = some e → S i = true → e.s ≠ some (x, arr) := fun i e arr h1 h2 h3 => q ⟨i, (List.getElem?_eq_some_iff.1 h1).1, e, arr, h1, h2, h3⟩
    rw [h.H x this, h'.H x (fun i e arr h1 h2 h3 => this i e arr h1 (by rw [hx i e arr h1 h3]; exact h2) h3)]

theorem HInv.T_eq {rs : List ROp} {es : List HEff} {σ0 σ σ' : St} {S S' : Nat → Bool} (hl : es.length = rs.length) (h : HInv rs es σ0 S σ) (h' : HInv rs es σ0 S' σ') {t : Nat} (ht : ∀ (i : Nat) (r : ROp), rs[i]? = some r → r.dst = some t → S i = S' i) : σ.T t = σ'.T t := by
  by_cases q : ∃ i r, rs[i]? = some r ∧ S i = true ∧ r.dst = some t
  · obtain ⟨i, r, h1, h2, h3⟩ := q
    have hi := (List.getElem?_eq_some_iff.1 h1).1
    have he : es[i]? = some (es[i]'(by omega)) := List.getElem?_eq_getElem _
    rw [h.dst i r _ t h1 he h2 h3, h'.dst i r _ t h1 he (by rw [← ht i r h1 h3]; exact h2) h3]
  · have : ∀ i r, rs[i]? = some r → S i = true → r.dst ≠ some t := fun i r h1 h2 h3 => q ⟨i, r, h1, h2, h3⟩
    rw [h.T t this, h'.T t (fun i r h1 h2 h3 => this i r h1 (by rw [ht i r h1 h3]; exact h2) h3)]

theorem decide_lt_succ (k : Nat) : (fun j => decide (j = k) || decide (j < k)) = fun j => decide (j < k + 1) := by
  funext j
  rw [Bool.eq_iff_iff]
  simp
  omega

/-- each operation of the head, at the state behind those ahead of it -/
theorem head_at {C : FuncId → List AV → AV → Prop} {F0 : List Nat} {σ0 : St} : ∀ (l : List ROp) (es' : List HEff) (pre : List ROp) (epre : List HEff) {σ σ' : St}, pre.length = epre.length → Distinct (pre ++ l) →
    HInv (pre ++ l) (epre ++ es') σ0 (fun j => decide (j < pre.length)) σ → HeadSeq C F0 l σ es' σ' →
    HInv (pre ++ l) (epre ++ es') σ0 (fun j => decide (j < pre.length + l.length)) σ' ∧
    ∀ (i : Nat) (r : ROp) (e : HEff), l[i]? = some r → es'[i]? = some e → ∃ σi, HInv (pre ++ l) (epre ++ es') σ0 (fun j => decide (j < pre.length + i)) σi ∧ OpAt C F0 r σi e
  | [], [], pre, epre, σ, σ', hl, hD, hI, hs => by
    have : σ' = σ := hs
    subst this
    exact ⟨by simpa using hI, fun i r e h => by simp at h⟩
  | r :: l, e :: es', pre, epre, σ, σ', hl, hD, hI, hs => by
    obtain ⟨hat, hs⟩ := hs
    have hr : (pre ++ r :: l)[pre.length]? = some r := by rw [List.getElem?_append_right (Nat.le_refl _)]; simp
    have he : (epre ++ e :: es')[pre.length]? = some e := by rw [hl, List.getElem?_append_right (Nat.le_refl _)]; simp
    have hI2 := hI.step hD hr he (fun j e' x arr arr' _ hs _ _ => by simpa using hs)
    rw [decide_lt_succ] at hI2
    have ih := head_at l es' (pre ++ [r]) (epre ++ [e]) (σ := σ.eff r.dst e.v e.s) (σ' := σ') (by simp [hl]) (by simpa using hD) (by simpa using hI2) hs
    obtain ⟨k1, k2⟩ := ih
    refine ⟨by simpa [Nat.add_assoc, Nat.add_comm 1] using k1, fun i r' e' hi hei => ?_⟩
    cases i with
    | zero =>
      simp at hi hei
      subst hi; subst hei
      exact ⟨σ, by simpa using hI, hat⟩
    | succ i =>
      obtain ⟨σi, h2, h3⟩ := k2 i r' e' (by simpa using hi) (by simpa using hei)
      exact ⟨σi, by simpa [Nat.add_assoc, Nat.add_comm 1] using h2, h3⟩
  | [], e :: es', pre, epre, σ, σ', _, _, _, hs => hs.elim
  | r :: l, [], pre, epre, σ, σ', _, _, _, hs => hs.elim

/-- k is done ahead of i, or behind it, in every order -/
def Ord (tab : List (List Nat)) (k i : Nat) : Prop := (k ∈ tab.getD i [] ∧ k < i) ∨ (i ∈ tab.getD k [] ∧ i < k)

/-- what a region's head must be like -/
structure DrawOk (ops : Array Oper) (rs : List ROp) (m : Nat) : Prop where
  len : rs.length = ops.size
  mlt : m ≤ rs.length
  edge : ∀ i o, ops[i]? = some o → ∀ j, j ∈ direct o → j < i
  dsts : Distinct (rs.take m)
  opds : ∀ (i : Nat) (r : ROp) (t k : Nat) (r' : ROp), i < m → rs[i]? = some r → .t t ∈ r.io.opds → k < m → rs[k]? = some r' → r'.dst = some t → k ≠ i → Ord (depTab ops.toList) k i
  guards : ∀ (i : Nat) (r : ROp) (t : Nat) (b : Bool) (k : Nat) (r' : ROp), i < m → rs[i]? = some r → r.guard = some (t, b) → k < m → rs[k]? = some r' → r'.dst = some t → k ≠ i → Ord (depTab ops.toList) k i
  hids : ∀ (i : Nat) (r : ROp) (k : Nat) (r' : ROp) (x : Nat), i < m → rs[i]? = some r → rs[k]? = some r' → k ≠ i → x ∈ r'.wrs → r.hid.contains x = true ∨ (k ∈ (depTab ops.toList).getD i [] ∧ k < i) ∨ (r'.dst = none ∧ i ∈ (depTab ops.toList).getD k [] ∧ i < k)
  ww : ∀ (i : Nat) (r : ROp) (k : Nat) (r' : ROp) (x : Nat), i < m → rs[i]? = some r → k < m → rs[k]? = some r' → k ≠ i → x ∈ r.wrs → x ∈ r'.wrs → (i ∈ (depTab ops.toList).getD k [] ∧ i < k) ∨ (k ∈ (depTab ops.toList).getD i [] ∧ k < i ∧ r.dst = none)
  later : ∀ (i : Nat) (r : ROp) (k : Nat) (r' : ROp) (d : Nat), i < m → rs[i]? = some r → m ≤ k → rs[k]? = some r' → r'.io.pure = false → r'.dst = some d → d ∉ r.wrs
  tail : ∀ k, m ≤ k → k < ops.size → ∀ j, j < k → j ∈ (depTab ops.toList).getD k []
  hl : hidLater (rs.drop m)

theorem fz_noop {σ : St} {r : Nat} (h : ∀ arr, σ.H r = some arr → arr.prot = arr.cells.length) : σ.fz r = σ := by
  show (⟨σ.T, upd σ.H r ((σ.H r).map Arr.freeze)⟩ : St) = σ
  rw [upd_self]
  cases ha : σ.H r with
  | none => rfl
  | some arr =>
    show some arr = some arr.freeze
    have := h arr ha
    cases arr
    simp only [Arr.freeze] at this ⊢
    rw [this]

theorem fzs_noop : ∀ {l : List Nat} {σ : St}, (∀ r, r ∈ l → ∀ arr, σ.H r = some arr → arr.prot = arr.cells.length) → σ.fzs l = σ
  | [], σ, h => rfl
  | r :: l, σ, h => by
    show (σ.fz r).fzs l = σ
    rw [fz_noop (h r (by simp))]
    exact fzs_noop (fun x hx => h x (by simp [hx]))

section
variable {P : Program} {w0 : Start} {Pr0 : Nat → Nat → Prop} {n : Nat} {μ : Nat → Option Nat} {σ : St} {a : Act} {w : World}

/-- the tail's next operation -/
theorem tail_step {ops : Array Oper} {rs : List ROp} {Q : Exit → Act → World → Prop} {K : St → Prop} (hio : ∀ (j : Nat) (r : ROp), rs[j]? = some r → ∃ o, ops[j]? = some o ∧ IsOp P ops n o r) {k : Nat} (hk : k < rs.length)
    (hS : SR w0 Pr0 n μ σ a w) (hF : Fresh (rs.drop k) σ) (hh : hidLater (rs.drop k)) (hE : evalOps (AFn P) (rs.drop k) σ K) :
    wpOp P ops Q k (fun a' w' => ∃ μ' σ', SR w0 Pr0 n μ' σ' a' w' ∧ Fresh (rs.drop (k + 1)) σ' ∧ hidLater (rs.drop (k + 1)) ∧ evalOps (AFn P) (rs.drop (k + 1)) σ' K) a w := by
  have hr : rs[k]? = some rs[k] := List.getElem?_eq_getElem hk
  obtain ⟨o, ho, hi⟩ := hio k _ hr
  rw [List.drop_eq_getElem_cons hk] at hF hh hE
  unfold wpOp
  rw [ho]
  simp only
  simp only [evalOps] at hE
  have hF1 : Fresh (rs.drop (k + 1)) σ := fun q hq => hF q (List.mem_cons_of_mem _ hq)
  rcases guard_sound hi hS hE with ⟨hw, σ', hy, hS', hσ⟩ | ⟨hw, σ', hy, hS', hσ⟩
  · rw [if_pos hw]
    left
    have hFr : Fresh [rs[k]] σ' := Fresh.guard (fun q hq => hF q (by rw [List.mem_singleton.1 hq]; exact List.mem_cons_self)) hσ
    have hFl := Fresh.guard hF1 hσ
    refine Oper.wp_mono ?_ (step_sound hi hS' hFr (step_fresh hh.1 hFl hy))
    rintro a' w' ⟨μ', σ2, ⟨hK, hF2⟩, hS2⟩
    exact ⟨μ', σ2, hS2, hF2, hh.2, hK⟩
  · rw [if_neg (by rw [hw]; simp)]
    exact ⟨μ, _, skip_sound hi hS', skip_fresh (Fresh.guard hF1 hσ), hh.2, hy⟩

/-- the head's next operation, whichever it is -/
theorem head_step {ops : Array Oper} {rs : List ROp} {m : Nat} {Q : Exit → Act → World → Prop} {F0 : List Nat} {σ0 : St} {es : List HEff} (hok : DrawOk ops rs m) (hio : ∀ (j : Nat) (r : ROp), rs[j]? = some r → ∃ o, ops[j]? = some o ∧ IsOp P ops n o r) (hF : Fresh rs σ0)
    (hfz : ∀ r, r ∈ F0 → (∀ arr, σ0.H r = some arr → arr.prot = arr.cells.length) ∧ ∀ x, x ∈ rs → x.io.pure = false → x.dst ≠ some r)
    (hl : es.length = (rs.take m).length) (hat : ∀ (i : Nat) (r : ROp) (e : HEff), (rs.take m)[i]? = some r → es[i]? = some e → ∃ σi, HInv (rs.take m) es σ0 (fun j => decide (j < i)) σi ∧ OpAt (AFn P) F0 r σi e)
    {S : Nat → Bool} {i : Nat} {o : Oper} (hi : i < m) (ho : ops[i]? = some o) (hSi : S i = false) (hdeps : ∀ j, j ∈ (depTab ops.toList).getD i [] → S j = true) (hcl : ∀ i o, ops[i]? = some o → S i = true → ∀ j, j ∈ direct o → S j = true)
    (hS : SR w0 Pr0 n μ σ a w) (hI : HInv (rs.take m) es σ0 S σ) :
    wpOp P ops Q i (fun a' w' => ∃ μ' σ', SR w0 Pr0 n μ' σ' a' w' ∧ HInv (rs.take m) es σ0 (fun j => decide (j = i) || S j) σ') a w := by
  have hlen := hok.len
  have him : i < rs.length := Nat.lt_of_lt_of_le hi hok.mlt
  obtain ⟨r, hr⟩ : ∃ r, rs[i]? = some r := ⟨_, List.getElem?_eq_getElem him⟩
  have htake : ∀ {j : Nat} {x : ROp}, (rs.take m)[j]? = some x ↔ j < m ∧ rs[j]? = some x := by
    intro j x
    rw [List.getElem?_take]
    split
    · rename_i h; exact ⟨fun q => ⟨h, q⟩, fun q => q.2⟩
    · rename_i h; exact ⟨fun q => by (cases q), fun q => absurd q.1 h⟩
  have hrt : (rs.take m)[i]? = some r := htake.2 ⟨hi, hr⟩
  have hei : i < es.length := by rw [hl]; exact (List.getElem?_eq_some_iff.1 hrt).1
  obtain ⟨e, he⟩ : ∃ e, es[i]? = some e := ⟨_, List.getElem?_eq_getElem hei⟩
  obtain ⟨σi, hIi, hat'⟩ := hat i r e hrt he
  obtain ⟨o', ho', hop⟩ := hio i r hr
  rw [ho] at ho'; cases ho'
  -- what is behind i is not done
  have hnot : ∀ k, i ∈ (depTab ops.toList).getD k [] → i < k → k < m → S k = false := by
    intro k hk hik hkm
    cases hs : S k with
    | false => rfl
    | true =>
      exfalso
      obtain ⟨rk, hrk⟩ : ∃ rk, rs[k]? = some rk := ⟨_, List.getElem?_eq_getElem (Nat.lt_of_lt_of_le hkm hok.mlt)⟩
      obtain ⟨ok, hok', hopk⟩ := hio k rk hrk
      have := depTab_closed (S := S) ops.toList (fun i o h => hcl i o (by rw [← Array.getElem?_toList]; exact h)) k ok (by rw [Array.getElem?_toList]; exact hok') (hcl k ok hok' hs) i hk
      rw [hSi] at this; cases this
  have hord : ∀ k, k ≠ i → k < m → Ord (depTab ops.toList) k i → S k = decide (k < i) := by
    intro k hki hkm hk
    rcases hk with ⟨g1, g2⟩ | ⟨g1, g2⟩
    · rw [hdeps k g1]; simp [g2]
    · rw [hnot k g1 g2 hkm]
      have : ¬ k < i := by omega
      simp [this]
  -- what each writer is
  have hwr : ∀ (k : Nat) (e' : HEff) (x : Nat) (arr : Arr), es[k]? = some e' → e'.s = some (x, arr) → ∃ r', k < m ∧ rs[k]? = some r' ∧ x ∈ r'.wrs ∧ (r'.dst = none → F0.contains x = false) := by
    intro k e' x arr hk hx
    have hkl := (List.getElem?_eq_some_iff.1 hk).1
    rw [hl] at hkl
    have hkt : (rs.take m)[k]? = some ((rs.take m)[k]'hkl) := List.getElem?_eq_getElem _
    obtain ⟨σk, _, hatk⟩ := hat k _ e' hkt hk
    obtain ⟨q1, q2⟩ := hatk.made x arr hx
    exact ⟨_, (htake.1 hkt).1, (htake.1 hkt).2, q1, q2⟩
  -- a slot that was read
  have hget : ∀ t, (∀ k r', k < m → rs[k]? = some r' → r'.dst = some t → k ≠ i → Ord (depTab ops.toList) k i) → σ.T t = σi.T t := by
    intro t ht
    refine hI.T_eq hl hIi (fun k r' h1 h2 => ?_)
    by_cases hki : k = i
    · subst hki; rw [hSi]; simp
    · exact hord k hki (htake.1 h1).1 (ht k r' (htake.1 h1).1 (htake.1 h1).2 h2 hki)
  have hobj : ∀ x arr, r.hid.contains x = false → σi.H x = some arr → σ.H x = some arr := by
    intro x arr hx ha
    rw [← ha]
    refine hI.H_eq hIi (fun k ek ar h1 h2 => ?_)
    obtain ⟨r', hkm, hr', hxw, _⟩ := hwr k ek x ar h1 h2
    by_cases hki : k = i
    · subst hki; rw [hSi]; simp
    · rcases hok.hids i r k r' x hi hr hr' hki hxw with g | g | ⟨_, g⟩
      · rw [g] at hx; cases hx
      · exact hord k hki hkm (.inl g)
      · exact hord k hki hkm (.inr g)
  have hguard : ∀ t b, r.guard = some (t, b) → σ.T t = σi.T t := fun t b hg => hget t (fun k r' h1 h2 h3 h4 => hok.guards i r t b k r' hi hr hg h1 h2 h3 h4)
  -- wanted or not
  have hig := hop.guard
  have hwant : Region.wanted o (yielded ops a.tmps) = e.w := by
    cases hgo : o.guard with
    | none =>
      rw [hgo] at hig
      have h1 : Region.wanted o (yielded ops a.tmps) = true := by simp [Region.wanted, hgo]
      rw [h1]
      cases hw : e.w with
      | true => rfl
      | false =>
        have := hat'.guard
        rw [hw] at this
        obtain ⟨t, want, g1, _⟩ := this
        rw [hig] at g1; cases g1
    | some g =>
      obtain ⟨j, want⟩ := g
      rw [hgo] at hig
      obtain ⟨t, h1, h2, h3⟩ := hig
      have hTt := hguard t want h3
      have ht := hS.tmp t
      have hlt : t < a.tmps.size := by rw [hS.size]; exact h2
      have hgt : a.tmps[t]? = some (a.tmps.getD t undef) := by rw [Array.getD_eq_getD_getElem?, Array.getElem?_eq_getElem hlt]; rfl
      have hw : Region.wanted o (yielded ops a.tmps) = (yielded ops a.tmps j == some want) := by simp [Region.wanted, hgo]
      have hbool : ∀ b, σi.T t = .bool b → yielded ops a.tmps j = some b := by
        intro b hb
        rw [hTt, hb] at ht
        have hv := ht.bool
        unfold yielded; rw [h1]; simp only [Option.bind_some]; rw [hgt, hv]
      cases hew : e.w with
      | true =>
        have := hat'.guard
        rw [hew] at this
        have hb := this t want h3
        rw [hw, hbool _ hb]; simp
      | false =>
        have := hat'.guard
        rw [hew] at this
        obtain ⟨t', want', g1, g2⟩ := this
        rw [h3] at g1; cases g1
        rcases g2 with g2 | g2
        · rw [hw, hbool _ g2]
          cases want <;> rfl
        · rw [hTt, g2] at ht
          have ht' : VR (PrOf w0 Pr0 μ σ.H) w (.tup []) (a.tmps.getD t undef) := ht
          have hv : a.tmps.getD t undef = .tuple #[] := by
            generalize a.tmps.getD t undef = v at ht'
            cases ht' with
            | tup _ vs hl _ =>
              have : vs = [] := List.length_eq_zero_iff.1 hl.symm
              subst this; rfl
          rw [hw]
          unfold yielded; rw [h1]; simp only [Option.bind_some]; rw [hgt, hv]; rfl
  -- the state behind it
  have hst := hI.step hok.dsts hrt he (fun j e' x arr arr' h1 h2 h3 h4 => by
    have hji : j ≠ i := fun e => by subst e; rw [hSi] at h2; cases h2
    obtain ⟨r', hjm, hr', hxw, _⟩ := hwr j e' x arr' h1 h4
    rcases hok.ww i r j r' x hi hr hjm hr' hji (hat'.made x arr h3).1 hxw with ⟨g1, g2⟩ | ⟨_, g2, _⟩
    · rw [hnot j g1 g2 hjm] at h2; cases h2
    · exact g2)
  unfold wpOp
  rw [ho]
  simp only
  cases hew : e.w with
  | false =>
    rw [hwant, hew, if_neg (by simp)]
    obtain ⟨g1, g2⟩ := hat'.skip hew
    rw [g1, g2] at hst
    refine ⟨μ, _, ?_, hst⟩
    have := skip_sound (σ := σ) hop hS
    unfold skipV at this
    cases hd : r.dst with
    | none => rw [hd] at this; exact this
    | some d => rw [hd] at this; exact this
  | true =>
    rw [hwant, hew, if_pos rfl]
    left
    obtain ⟨hrun1, hrun2⟩ := hat'.run hew
    have halike : Alike r.io r.hid σi σ := by
      refine ⟨fun x hx => ?_, hobj⟩
      cases x with
      | c v => rfl
      | t t => exact hget t (fun k r' h1 h2 h3 h4 => hok.opds i r t k r' hi hr hx h1 h2 h3 h4)
    have hnoop : ∀ fz : List Nat, fz.all F0.contains = true → σ.fzs fz = σ := fun fz hfzs => fzs_noop fun x hx arr ha => by
      have hxF : x ∈ F0 := by
        have := List.all_eq_true.1 hfzs x hx
        simpa using this
      obtain ⟨q1, q2⟩ := hfz x hxF
      refine q1 arr ?_
      rw [← ha]
      refine (hI.H x (fun k ek ar h1 h2 h3 => ?_)).symm
      obtain ⟨r', hkm, hr', hxw, hx0⟩ := hwr k ek x ar h1 h3
      cases hd' : r'.dst with
      | none =>
        have := hx0 hd'
        rw [List.contains_iff_mem.2 hxF] at this; cases this
      | some d' =>
        unfold ROp.wrs at hxw
        rw [hd'] at hxw
        simp only at hxw
        split at hxw
        · simp at hxw
        · rename_i hp
          simp only [List.mem_singleton] at hxw
          subst hxw
          exact q2 r' (List.mem_of_getElem? hr') (by simpa using hp) hd'
    cases hd : r.dst with
    | none =>
      have hodst : o.dst = none := by rw [← hop.dst]; exact hd
      have hev := hrun2 hd σ (fun σ' => σ' = σ.eff none e.v e.s) halike hnoop rfl
      rw [hd] at hst
      have hcm : compT P o = some r.io := by
        have := hop.io
        unfold compIO at this
        split at this
        · rename_i io hT
          cases this; exact hT
        · have hnm := compM_notMut this
          exfalso
          revert hev
          cases hio2 : r.io <;> rw [hio2] at hnm <;> first | (simp [IOp.isMut] at hnm; done) | (intro hev; exact False.elim hev)
      have := compT_sound (Q := Q) hcm hop.lt hS (by rw [hodst]; exact hev)
      refine Oper.wp_mono ?_ this
      rintro a' w' ⟨μ', σ', rfl, hS'⟩
      exact ⟨μ', _, hS', hst⟩
    | some dst =>
      have hodst : o.dst = some dst := by rw [← hop.dst]; exact hd
      obtain ⟨fz, s, hes, hfzs, hrun⟩ := hrun1 dst hd
      have hev := hrun σ (fun v s' f => v = e.v ∧ s' = s ∧ f = fz) halike ⟨rfl, rfl, rfl⟩
      -- what it makes is not there yet
      have hfresh : r.io.pure = false → σ.H dst = none ∧ ∀ t, (σ.T t).name ≠ some dst := by
        intro hp
        have hwrs := ROp.wrs_maker hp hd
        obtain ⟨q1, q2⟩ := hF r (List.mem_of_getElem? hr) hp dst hd
        refine ⟨?_, fun t hn => ?_⟩
        · rw [hI.H dst (fun k ek ar h1 h2 h3 => ?_)]
          · exact q1
          · have hki : k ≠ i := fun e => by subst e; rw [hSi] at h2; cases h2
            obtain ⟨r', hkm, hr', hxw, _⟩ := hwr k ek dst ar h1 h3
            rcases hok.ww i r k r' dst hi hr hkm hr' hki (by rw [hwrs]; simp) hxw with ⟨g1, g2⟩ | ⟨_, _, g3⟩
            · rw [hnot k g1 g2 hkm] at h2; cases h2
            · rw [hd] at g3; cases g3
        · by_cases q : ∃ (k : Nat) (r' : ROp), (rs.take m)[k]? = some r' ∧ S k = true ∧ r'.dst = some t
          · obtain ⟨k, r', h1, h2, h3⟩ := q
            obtain ⟨ek, hek⟩ : ∃ ek, es[k]? = some ek := ⟨_, List.getElem?_eq_getElem (by rw [hl]; exact (List.getElem?_eq_some_iff.1 h1).1)⟩
            obtain ⟨σk, _, hatk⟩ := hat k r' ek h1 hek
            rw [hI.dst k r' ek t h1 hek h2 h3] at hn
            have hnm := hatk.name (by rw [h3]; rfl)
            unfold nameOk at hnm
            rw [hn] at hnm
            simp only [Bool.not_eq_true'] at hnm
            have hki : i ≠ k := fun e => by subst e; rw [hSi] at h2; cases h2
            rcases hok.hids k r' i r dst (htake.1 h1).1 (htake.1 h1).2 hr hki (by rw [hwrs]; simp) with g | ⟨g1, g2⟩ | ⟨g, _⟩
            · rw [g] at hnm; cases hnm
            · rw [hnot k g1 g2 (htake.1 h1).1] at h2; cases h2
            · rw [hd] at g; cases g
          · rw [hI.T t (fun k r' h1 h2 h3 => q ⟨k, r', h1, h2, h3⟩)] at hn
            exact q2 t hn
      rw [hd, hes, eff_made] at hst
      have hcm : compM P o = some r.io := by
        have := hop.io
        unfold compIO at this
        split at this
        · rename_i io hT
          cases this
          have := compT_mut hT
          exfalso
          revert hev
          cases hio2 : r.io <;> rw [hio2] at this <;> first | (simp [IOp.isMut] at this; done) | (intro hev; exact False.elim hev)
        · exact this
      refine Oper.wp_mono ?_ (evalM_sound hcm hodst (hop.lt dst hodst) hS hfresh hev)
      rintro a' w' ⟨μ', v, s', f, ⟨rfl, rfl, rfl⟩, hS'⟩
      rw [hnoop _ hfzs] at hS'
      exact ⟨μ', _, hS', hst⟩

/-- A REGION WHOSE ORDER IS DRAWN -/
theorem draw_sound {ops : Array Oper} {rs : List ROp} {m id : Nat} {Q : Exit → Act → World → Prop} {F0 : List Nat} {K : St → Prop} (hm : P.follows .mixedOrders = true) (hok : DrawOk ops rs m) (hio : ∀ (j : Nat) (r : ROp), rs[j]? = some r → ∃ o, ops[j]? = some o ∧ IsOp P ops n o r) (hS : SR w0 Pr0 n μ σ a w) (hF : Fresh rs σ)
    (hfz : ∀ r, r ∈ F0 → (∀ arr, σ.H r = some arr → arr.prot = arr.cells.length) ∧ ∀ x, x ∈ rs → x.io.pure = false → x.dst ≠ some r)
    (hE : evalHead (AFn P) F0 (rs.take m) σ (fun σ => evalOps (AFn P) (rs.drop m) σ K)) (hQ : ∀ μ σ' a w, K σ' → SR w0 Pr0 n μ σ' a w → Q .normal a w) :
    (Code.region id ops true).wp P Q a w := by
  obtain ⟨es, σm, hseq, hl, hK⟩ := head_seq hE
  obtain ⟨hIm, hat⟩ := head_at (rs.take m) es [] [] (σ0 := σ) rfl hok.dsts (by simpa using HInv.start (rs.take m) es σ) hseq
  simp only [List.nil_append, List.length_nil, Nat.zero_add] at hIm hat
  have hlen := hok.len
  have htl : (rs.take m).length = m := by rw [List.length_take, Nat.min_eq_left hok.mlt]
  -- the end of the head
  have hend : ∀ {S : Nat → Bool} {σ' : St}, HInv (rs.take m) es σ S σ' → (∀ j, j < m → S j = true) → σ' = σm := by
    intro S σ' hI hall
    have hT : σ'.T = σm.T := by
      funext t
      refine hI.T_eq hl hIm (fun i r h1 _ => ?_)
      have him := (List.getElem?_eq_some_iff.1 h1).1
      rw [htl] at him
      rw [hall i him, htl]; simp [him]
    have hH : σ'.H = σm.H := by
      funext x
      refine hI.H_eq hIm (fun i e arr h1 _ => ?_)
      have him := (List.getElem?_eq_some_iff.1 h1).1
      rw [hl, htl] at him
      rw [hall i him, htl]; simp [him]
    cases σ'; cases σm
    simp only at hT hH
    rw [hT, hH]
  -- what the tail makes is not there
  have htail : Fresh (rs.drop m) σm := by
    intro x hx hp d hd
    obtain ⟨q1, q2⟩ := hF x (List.mem_of_mem_drop hx) hp d hd
    obtain ⟨k, hk⟩ := List.mem_iff_getElem?.1 hx
    rw [List.getElem?_drop] at hk
    refine ⟨?_, fun t hn => ?_⟩
    · rw [hIm.H d (fun i e arr h1 h2 h3 => ?_)]
      · exact q1
      · have him := (List.getElem?_eq_some_iff.1 h1).1
        rw [hl] at him
        have hrt : (rs.take m)[i]? = some ((rs.take m)[i]'him) := List.getElem?_eq_getElem _
        obtain ⟨σk, _, hatk⟩ := hat i _ e hrt h1
        have hrm := hrt
        rw [htl] at him
        rw [List.getElem?_take, if_pos him] at hrm
        exact hok.later i _ (m + k) x d him hrm (by omega) hk hp hd (hatk.made d arr h3).1
    · by_cases q : ∃ (i : Nat) (r : ROp), (rs.take m)[i]? = some r ∧ r.dst = some t
      · obtain ⟨i, r, h1, h3⟩ := q
        have him := (List.getElem?_eq_some_iff.1 h1).1
        obtain ⟨e, he⟩ : ∃ e, es[i]? = some e := ⟨_, List.getElem?_eq_getElem (by rw [hl]; exact him)⟩
        obtain ⟨σk, _, hatk⟩ := hat i r e h1 he
        rw [hIm.dst i r e t h1 he (by simpa using him) h3] at hn
        have hnm := hatk.name (by rw [h3]; rfl)
        unfold nameOk at hnm
        rw [hn] at hnm
        simp only [Bool.not_eq_true'] at hnm
        rw [htl] at him
        rw [List.getElem?_take, if_pos him] at h1
        rcases hok.hids i r (m + k) x d him h1 hk (by omega) (by rw [ROp.wrs_maker hp hd]; simp) with g | ⟨_, g⟩ | ⟨g, _⟩
        · rw [g] at hnm; cases hnm
        · omega
        · rw [hd] at g; cases g
      · rw [hIm.T t (fun i r h1 _ h3 => q ⟨i, r, h1, h3⟩)] at hn
        exact q2 t hn
  let I : (Nat → Bool) → Act → World → Prop := fun S a w => (∀ i o, ops[i]? = some o → S i = true → ∀ j, j ∈ direct o → S j = true) ∧
    (((∀ j, m ≤ j → S j = false) ∧ ∃ μ σ', SR w0 Pr0 n μ σ' a w ∧ HInv (rs.take m) es σ S σ') ∨
     ∃ k, m ≤ k ∧ (∀ j, j < ops.size → S j = decide (j < k)) ∧ ∃ μ σ', SR w0 Pr0 n μ σ' a w ∧ Fresh (rs.drop k) σ' ∧ hidLater (rs.drop k) ∧ evalOps (AFn P) (rs.drop k) σ' K)
  refine region_run hm hok.edge I ?_ ?_ ⟨(fun i o h e => by cases e), .inl ⟨fun _ _ => rfl, μ, σ, hS.drew, HInv.start _ _ _⟩⟩
  · intro S a' w' i o hI ho hSi hdir
    obtain ⟨hcl, hI⟩ := hI
    have hi : i < ops.size := (Array.getElem?_eq_some_iff.1 ho).1
    have hdeps := depTab_closed (S := S) ops.toList (fun i o h => hcl i o (by rw [← Array.getElem?_toList]; exact h)) i o (by rw [Array.getElem?_toList]; exact ho) hdir
    have hcl' : ∀ i' o', ops[i']? = some o' → (decide (i' = i) || S i') = true → ∀ j, j ∈ direct o' → (decide (j = i) || S j) = true := by
      intro i' o' h1 h2 j hj
      by_cases e : i' = i
      · subst e
        rw [ho] at h1; cases h1
        simp [hdir j hj]
      · have : S i' = true := by simpa [e] using h2
        simp [hcl i' o' h1 this j hj]
    -- a step of the tail
    have tailStep : ∀ {k : Nat} {μ : Nat → Option Nat} {σ' : St}, m ≤ k → (∀ j, j < ops.size → S j = decide (j < k)) → SR w0 Pr0 n μ σ' a' w' → Fresh (rs.drop k) σ' → hidLater (rs.drop k) → evalOps (AFn P) (rs.drop k) σ' K → i = k →
        wpOp P ops Q i (I fun j => decide (j = i) || S j) a' w' := by
      intro k μ' σ' hmk hSk hS' hF' hh hE' e
      subst e
      refine wpOp_mono ?_ (tail_step hio (by omega) hS' hF' hh hE')
      rintro a2 w2 ⟨μ2, σ2, g1, g2, g3, g4⟩
      refine ⟨hcl', .inr ⟨i + 1, by omega, fun j hj => ?_, μ2, σ2, g1, g2, g3, g4⟩⟩
      show (decide (j = i) || S j) = _
      rw [hSk j hj, Bool.eq_iff_iff]
      simp; omega
    rcases hI with ⟨hS0, μ', σ', hS', hH⟩ | ⟨k, hmk, hSk, μ', σ', hS', hF', hh, hE'⟩
    · rcases Nat.lt_or_ge i m with him | him
      · refine wpOp_mono ?_ (head_step hok hio hF hfz hl hat him ho hSi hdeps hcl hS' hH)
        rintro a2 w2 ⟨μ2, σ2, g1, g2⟩
        exact ⟨hcl', .inl ⟨fun j hj => by simp [hS0 j hj, show j ≠ i by omega], μ2, σ2, g1, g2⟩⟩
      · have hbefore : ∀ j, j < i → S j = true := fun j hj => hdeps j (hok.tail i him hi j hj)
        have e : i = m := by
          rcases Nat.lt_or_ge m i with h | h
          · have := hbefore m h; rw [hS0 m (Nat.le_refl _)] at this; cases this
          · omega
        have hσ : σ' = σm := hend hH (fun j hj => hbefore j (by omega))
        subst hσ
        refine tailStep (Nat.le_refl _) (fun j hj => ?_) hS' htail hok.hl hK e
        rcases Nat.lt_or_ge j m with h | h
        · rw [hbefore j (by omega)]; simp [h]
        · rw [hS0 j h]; simp; omega
    · have e : i = k := by
        have h1 : ¬ i < k := fun h => by rw [hSk i hi] at hSi; simp at hSi; omega
        rcases Nat.lt_or_ge k i with h | h
        · have := hdeps k (hok.tail i (by omega) hi k h)
          rw [hSk k (by omega)] at this
          simp at this
        · omega
      exact tailStep hmk hSk hS' hF' hh hE' e
  · intro S a' w' hI hall
    obtain ⟨_, hI⟩ := hI
    rcases hI with ⟨hS0, μ', σ', hS', hH⟩ | ⟨k, hmk, hSk, μ', σ', hS', hF', hh, hE'⟩
    · have hms : m = rs.length := by
        have := hok.mlt
        rcases Nat.lt_or_ge m rs.length with h | h
        · have h1 := hall m (by omega); rw [hS0 m (Nat.le_refl _)] at h1; cases h1
        · omega
      have hσ : σ' = σm := hend hH (fun j hj => hall j (by omega))
      subst hσ
      rw [hms, List.drop_length] at hK
      exact hQ _ _ _ _ hK hS'
    · have hk : rs.length ≤ k := by
        rcases Nat.lt_or_ge k rs.length with h | h
        · have h1 := hall k (by omega)
          rw [hSk k (by omega)] at h1
          simp at h1
        · exact h
      rw [List.drop_eq_nil_of_le hk] at hE'
      exact hQ _ _ _ _ hE' hS'
end
end Go.Proofs.YtkdbphhekpdmhaaDoor
