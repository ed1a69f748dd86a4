/-
  The plain machine, second part: operations that yield a value and leave the world as it is.
-/
import Derived.Test.YtkdbphhekpdmhaaDoorAmA
namespace Go.Proofs.YtkdbphhekpdmhaaDoor
open Go.RowKit
set_option linter.unusedVariables false
set_option linter.unusedSimpArgs false

inductive IOpd where
  | t (n : Nat)
  | c (v : AV)

def St.get (σ : St) : IOpd → AV
  | .t n => σ.T n
  | .c v => v

def compConst : Value → Option AV
  | .int k n => some (.int k n)
  | .bool b => some (.bool b)
  | .string s => some (.str s)
  | .slice none 0 0 => some (.sl [])
  | .pointer none => some .nilp
  | .nilFunc => some (.cst .nilFunc)
  | .nilIface => some (.cst .nilIface)
  | .map none => some (.cst (.map none))
  | _ => none

def compOpd : Operand → Option IOpd
  | .tmp t => some (.t t)
  | .const v => (compConst v).map .c
  | .func f => some (.c (.clo f [] []))
  | .global _ => none

theorem TR.of_VR {Pr : Nat → Nat → Prop} {μ : Nat → Option Nat} {H : Nat → Option Arr} {w : World} {d : AV} {v : Value} (h : VR Pr w d v) : TR Pr μ H w d v := by
  cases h with
  | int k n => exact .int k n
  | bool b => exact .bool b
  | str s => exact .str s
  | sl l A cap z u hcap hmax hA h => exact .sl l A cap z u hcap hmax hA h
  | agg cs vs hl h => exact .agg cs vs hl h
  | tup cs vs hl h => exact .tup cs vs hl h
  | nilp => exact .nilp
  | cst v h1 => exact .cst v h1
  | rp cs b off u hb hc h => exact .rp cs b off u hb hc h
  | clo f first caps vf vc hf hc h1 h2 => exact .clo f first caps vf vc hf hc h1 h2
  | mv es g ms c hg hp hb hl hk hv => exact .mv es g ms c hg hp hb hl hk hv

theorem VR.nilSlice {Pr : Nat → Nat → Prop} {w : World} : VR Pr w (.sl []) (.slice none 0 0) :=
  .sl [] none 0 0 (fun _ _ => undef) (Nat.le_refl _) (Nat.zero_le _) (fun h => absurd h (by simp)) (fun i d j c h => by simp at h)

theorem compConst_VR {Pr : Nat → Nat → Prop} {w : World} {v : Value} {d : AV} (h : compConst v = some d) : VR Pr w d v := by
  unfold compConst at h
  split at h <;> cases h
  · exact .int _ _
  · exact .bool _
  · exact .str _
  · exact VR.nilSlice
  · exact .nilp
  · exact .cst _ rfl
  · exact .cst _ rfl
  · exact .cst _ rfl

section
variable {P : Program} {w0 : Start} {Pr0 : Nat → Nat → Prop} {n : Nat} {μ : Nat → Option Nat} {σ : St} {a : Act} {w : World}

theorem SR.get (h : SR w0 Pr0 n μ σ a w) {x : Operand} {ix : IOpd} (hx : compOpd x = some ix) : TR (PrOf w0 Pr0 μ σ.H) μ σ.H w (σ.get ix) (a.eval x) := by
  cases x with
  | tmp t =>
    cases hx
    have := h.tmp t
    simpa [St.get, Act.eval, Array.getD_eq_getD_getElem?] using this
  | const v =>
    simp only [compOpd, Option.map_eq_some_iff] at hx
    obtain ⟨d, hd, rfl⟩ := hx
    exact TR.of_VR (compConst_VR hd)
  | func f =>
    cases hx
    exact TR.of_VR (.clo f [] [] [] [] rfl rfl (fun j c v h => by simp at h) (fun j c v h => by simp at h))
  | global g => cases hx
end

/-! ### Values by themselves: what leads into an own object is read out of it, and the object is frozen -/

def St.byval (σ : St) (hid : List Nat) : AV → Option (AV × List Nat)
  | .rs r off len => if hid.contains r then none else match σ.H r with
    | some arr => some (.sl ((arr.cells.drop off).take len), [r])
    | none => none
  | .ptr r i f => if hid.contains r then none else match σ.H r with
    | some arr => match arr.cells[i]? with
      | some d => some (.rp (d.cells.drop f), [r])
      | none => none
    | none => none
  | .und => none
  | .own .. => none
  | .clom .. => none
  | .mp .. => none
  | v => some (v, [])

def St.byvals (σ : St) (hid : List Nat) : List AV → Option (List AV × List Nat)
  | [] => some ([], [])
  | v :: l => match σ.byval hid v with
    | some (d, f) => match σ.byvals hid l with
      | some (ds, fs) => some (d :: ds, f ++ fs)
      | none => none
    | none => none

def St.fzs (σ : St) : List Nat → St
  | [] => σ
  | r :: rs => (σ.fz r).fzs rs

theorem fzs_T : ∀ (l : List Nat) (σ : St), (σ.fzs l).T = σ.T
  | [], _ => rfl
  | r :: l, σ => fzs_T l (σ.fz r)

/-- what a freeze does to an object -/
structure Frozen (a b : Arr) : Prop where
  z : b.z = a.z
  ty : b.ty = a.ty
  cells : b.cells = a.cells
  prot : b.prot = a.prot ∨ b.prot = a.cells.length

theorem Frozen.refl (a : Arr) : Frozen a a := ⟨rfl, rfl, rfl, .inl rfl⟩
theorem Frozen.trans {a b c : Arr} (h : Frozen a b) (k : Frozen b c) : Frozen a c :=
  ⟨k.z.trans h.z, k.ty.trans h.ty, k.cells.trans h.cells, by rcases k.prot with e | e <;> rw [e] <;> first | exact h.prot | (rw [h.cells]; exact .inr rfl)⟩

theorem fz_H {σ : St} {r s : Nat} {arr : Arr} (h : σ.H s = some arr) : ∃ arr', (σ.fz r).H s = some arr' ∧ Frozen arr arr' ∧ (s = r → arr'.prot = arr.cells.length) := by
  show ∃ arr', upd σ.H r ((σ.H r).map Arr.freeze) s = some arr' ∧ _
  by_cases e : s = r
  · subst e
    rw [upd_same, h]
    exact ⟨_, rfl, ⟨rfl, rfl, rfl, .inr rfl⟩, fun _ => rfl⟩
  · rw [upd_ne _ _ e]
    exact ⟨arr, h, Frozen.refl _, fun h => absurd h e⟩

theorem fzs_H : ∀ {l : List Nat} {σ : St} {s : Nat} {arr : Arr}, σ.H s = some arr → ∃ arr', (σ.fzs l).H s = some arr' ∧ Frozen arr arr' ∧ (s ∈ l → arr'.prot = arr.cells.length)
  | [], σ, s, arr, h => ⟨arr, h, Frozen.refl _, fun h => by simp at h⟩
  | r :: l, σ, s, arr, h => by
    obtain ⟨a1, h1, h2, h3⟩ := fz_H (r := r) h
    obtain ⟨a2, k1, k2, k3⟩ := fzs_H (l := l) h1
    refine ⟨a2, k1, h2.trans k2, fun hm => ?_⟩
    rcases List.mem_cons.1 hm with e | e
    · rcases k2.prot with e2 | e2
      · rw [e2]; exact h3 e
      · rw [e2, h2.cells]
    · rw [k3 e, h2.cells]

theorem fz_H_back {σ : St} {r s : Nat} {arr' : Arr} (h : (σ.fz r).H s = some arr') : ∃ arr, σ.H s = some arr ∧ Frozen arr arr' := by
  cases hs : σ.H s with
  | some arr =>
    obtain ⟨a1, h1, h2, _⟩ := fz_H (r := r) hs
    rw [h] at h1; cases h1
    exact ⟨arr, rfl, h2⟩
  | none =>
    have h' : upd σ.H r ((σ.H r).map Arr.freeze) s = some arr' := h
    by_cases e : s = r
    · subst e; rw [upd_same, hs] at h'; cases h'
    · rw [upd_ne _ _ e, hs] at h'; cases h'

theorem SR.fzs {w0 : Start} {Pr0 : Nat → Nat → Prop} {n : Nat} {μ : Nat → Option Nat} {a : Act} {w : World} : ∀ {l : List Nat} {σ : St}, SR w0 Pr0 n μ σ a w → SR w0 Pr0 n μ (σ.fzs l) a w
  | [], _, h => h
  | r :: l, σ, h => SR.fzs (l := l) (h.fz r)

section
variable {P : Program} {w0 : Start} {Pr0 : Nat → Nat → Prop} {n : Nat} {μ : Nat → Option Nat} {σ : St} {a : Act} {w : World}

theorem cell_row {w : World} {g o : Nat} {cs : Array Value} {ty : TypeId} {fr : Nat × Nat} (h : w.heap[g]? = some (.cells cs ty fr)) : w.cell? ⟨g, o, none⟩ = cs[o]? := by
  simp [World.cell?, h]

theorem block_lt {w : World} {g : Nat} {o : Obj} (h : w.heap[g]? = some o) : g < w.heap.size := (Array.getElem?_eq_some_iff.1 h).1

theorem idx_lt {i j z len : Nat} (hi : i < len) (hj : j < z) : i * z + j < len * z := by
  have : (i + 1) * z ≤ len * z := Nat.mul_le_mul_right z hi
  rw [Nat.succ_mul] at this; omega

/-- an own block is not among the old ones -/
theorem SR.prOwn (h : SR w0 Pr0 n μ σ a w) {r g o : Nat} {arr : Arr} (hr : μ r = some g) (ha : σ.H r = some arr) (ho : o < arr.prot * arr.z) : PrOf w0 Pr0 μ σ.H g o :=
  ⟨fun hlt => absurd hlt (by have := (h.range r g hr).1; omega), fun s hs => by rw [h.inj s r g hs hr]; exact ⟨arr, ha, ho⟩⟩

/-- a value that leads into a frozen object reads by itself -/
theorem SR.byval (h : SR w0 Pr0 n μ σ a w) {hid : List Nat} {d d' : AV} {v : Value} {f : List Nat} (hd : σ.byval hid d = some (d', f))
    (hv : TR (PrOf w0 Pr0 μ σ.H) μ σ.H w d v) {σ' : St} (h' : SR w0 Pr0 n μ σ' a w) (hf : ∀ s arr, σ.H s = some arr → ∃ arr', σ'.H s = some arr' ∧ Frozen arr arr' ∧ (s ∈ f → arr'.prot = arr.cells.length)) :
    VR (PrOf w0 Pr0 μ σ'.H) w d' v := by
  have k : Kept (PrOf w0 Pr0 μ σ.H) (PrOf w0 Pr0 μ σ'.H) w w := by
    refine ⟨Nat.le_refl _, fun b o _ hp => ⟨hp.1, fun s hs => ?_⟩, fun _ _ _ _ => rfl, fun _ _ _ _ _ h => h⟩
    obtain ⟨arr, h1, h2⟩ := hp.2 s hs
    obtain ⟨arr', e1, e2, _⟩ := hf s arr h1
    refine ⟨arr', e1, ?_⟩
    rw [e2.z]
    rcases e2.prot with e | e <;> rw [e]
    · exact h2
    · exact Nat.lt_of_lt_of_le h2 (Nat.mul_le_mul_right _ (h.obj s arr h1).2.1)
  cases d with
  | und => simp [St.byval] at hd
  | own => simp [St.byval] at hd
  | clom => simp [St.byval] at hd
  | mp => simp [St.byval] at hd
  | rs r off len =>
    simp only [St.byval] at hd
    split at hd
    · cases hd
    · split at hd
      · rename_i arr ha
        cases hd
        obtain ⟨arr', e1, e2, e3⟩ := hf r arr ha
        have hprot := e3 (by simp)
        rcases hv arr ha with ⟨h1, rfl, rfl, rfl⟩ | ⟨g, cap, cs, h1, rfl, h3, h4, h5, h6, h7⟩
        · rw [List.take_zero]; exact VR.nilSlice
        · obtain ⟨o1, o2, o3, o4⟩ := h.obj r arr ha
          rw [h1] at o4
          rcases o4 with ⟨_, ms, c, q⟩ | ⟨cs', f1, f2, f3⟩
          · rw [h3] at q; cases q
          rw [h3] at f1
          cases f1
          have hlen : ((arr.cells.drop off).take len).length = len := by rw [List.length_take, List.length_drop]; omega
          have hget : ∀ i, i < len → ((arr.cells.drop off).take len)[i]? = arr.cells[off + i]? := fun i hi => by rw [List.getElem?_take, if_pos hi, List.getElem?_drop]
          have := VR.sl (Pr := PrOf w0 Pr0 μ σ'.H) (w := w) ((arr.cells.drop off).take len) (some ⟨g, off * arr.z, none⟩) cap arr.z (fun i j => cs.getD ((off + i) * arr.z + j) undef) (by rw [hlen]; exact h6) h7
            (fun _ => ⟨g, off * arr.z, rfl, block_lt h3, fun d hd => (o3 d (List.mem_of_mem_drop (List.mem_of_mem_take hd))).1, fun i j hi hj => ?_⟩)
            (fun i d j c hi hj => ?_)
          · rw [hlen] at this; exact this
          · rw [hlen] at hi
            have hlt : (off + i) * arr.z + j < arr.cells.length * arr.z := idx_lt (by omega) hj
            have e : off * arr.z + (i * arr.z + j) = (off + i) * arr.z + j := by rw [Nat.add_mul]; omega
            refine ⟨h'.prOwn h1 e1 (by rw [hprot, e2.z, e]; exact hlt), ?_⟩
            rw [cell_row h3, e, Array.getD_eq_getD_getElem?, Array.getElem?_eq_getElem (by omega)]; rfl
          · have hil : i < len := by
              have := (List.getElem?_eq_some_iff.1 hi).1
              rw [hlen] at this; exact this
            rw [hget i hil] at hi
            obtain ⟨u, q1, q2⟩ := f3 _ d j c hi hj
            rw [Array.getD_eq_getD_getElem?, q1]
            exact q2.kept k
      · cases hd
  | ptr r i f' =>
    simp only [St.byval] at hd
    split at hd
    · cases hd
    · split at hd
      · rename_i arr ha
        split at hd
        · rename_i d0 hi
          cases hd
          obtain ⟨arr', e1, e2, e3⟩ := hf r arr ha
          have hprot := e3 (by simp)
          obtain ⟨g, h1, rfl⟩ := hv arr ha
          obtain ⟨o1, o2, o3, o4⟩ := h.obj r arr ha
          rw [h1] at o4
          rcases o4 with ⟨q, _⟩ | ⟨cs, f1, f2, f3⟩
          · rw [q] at hi; simp at hi
          have hil : i < arr.cells.length := (List.getElem?_eq_some_iff.1 hi).1
          have hdl := (o3 d0 (List.mem_of_getElem? hi)).1
          refine VR.rp _ g (i * arr.z + f') (fun j => cs.getD (i * arr.z + (f' + j)) undef) (block_lt f1) (fun j hj => ?_) (fun j c hj => ?_)
          · rw [List.length_drop, hdl] at hj
            have hlt : i * arr.z + (f' + j) < arr.cells.length * arr.z := idx_lt hil (by omega)
            rw [Nat.add_assoc]
            refine ⟨h'.prOwn h1 e1 (by rw [hprot, e2.z]; exact hlt), ?_⟩
            rw [cell_row f1, Array.getD_eq_getD_getElem?, Array.getElem?_eq_getElem (by omega)]; rfl
          · rw [List.getElem?_drop] at hj
            obtain ⟨u, q1, q2⟩ := f3 i d0 (f' + j) c hi hj
            rw [Array.getD_eq_getD_getElem?, q1]
            exact q2.kept k
        · cases hd
      · cases hd
  | _ => cases hd; exact VR.kept k hv
end
end Go.Proofs.YtkdbphhekpdmhaaDoor
