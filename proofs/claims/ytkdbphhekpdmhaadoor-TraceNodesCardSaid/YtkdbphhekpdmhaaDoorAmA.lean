/-
  A plain machine beside the model's: values without addresses, a state of slots and own objects, and what relates it to a world.
-/
import Derived.Test.YtkdbphhekpdmhaaDoorGlob
namespace Go.Proofs.YtkdbphhekpdmhaaDoor
open Go.RowKit
set_option linter.unusedVariables false
set_option linter.unusedSimpArgs false

/-- a function at one place another -/
def upd {α : Type} (f : Nat → α) (r : Nat) (x : α) : Nat → α := fun s => if s = r then x else f s
theorem upd_same {α : Type} (f : Nat → α) (r : Nat) (x : α) : upd f r x r = x := if_pos rfl
theorem upd_ne {α : Type} (f : Nat → α) {r s : Nat} (x : α) (h : s ≠ r) : upd f r x s = f s := if_neg h

/-- a value without addresses; 'ptr', 'rs': into an own object; 'rp': to cells that nobody writes; 'own': a fresh slice that is handed back -/
inductive AV where
  | und
  | int (k : IntKind) (n : Int)
  | bool (b : Bool)
  | str (s : ByteArray)
  | sl (l : List AV)
  | agg (cs : List AV)
  | tup (vs : List AV)
  | nilp
  | rp (cs : List AV)
  | clo (f : FuncId) (first caps : List AV)
  | ptr (r i f : Nat)
  | rs (r off len : Nat)
  | own (z : Nat) (ty : TypeId) (l : List AV)
  | cst (v : Value)
  | clom (f : FuncId) (r : Nat)
  | mp (r : Nat) (es : List (Int × AV))
  | mv (es : List (Int × AV))

def AV.cells : AV → List AV
  | .agg cs => cs
  | v => [v]

/-- does it lie in one cell? -/
def AV.one : AV → Bool
  | .int .. | .bool _ | .str _ | .sl _ | .nilp | .rp _ | .clo .. | .cst _ | .mv _ => true
  | _ => false

/-- a list's cells lie one behind the other -/
structure LiesAt (Pr : Nat → Nat → Prop) (w : World) (l : List AV) (z b off : Nat) (u : Nat → Nat → Value) : Prop where
  lt : b < w.heap.size
  len : ∀ d, d ∈ l → d.cells.length = z
  at_ : ∀ i j, i < l.length → j < z → Pr b (off + (i * z + j)) ∧ w.cell? ⟨b, off + (i * z + j), none⟩ = some (u i j)

/-- how a value without addresses reads in a world, by cells of which 'Pr' holds -/
inductive VR (Pr : Nat → Nat → Prop) (w : World) : AV → Value → Prop
  | int (k : IntKind) (n : Int) : VR Pr w (.int k n) (.int k n)
  | bool (b : Bool) : VR Pr w (.bool b) (.bool b)
  | str (s : ByteArray) : VR Pr w (.str s) (.string s)
  | sl (l : List AV) (A : Option Addr) (cap z : Nat) (u : Nat → Nat → Value) (hcap : l.length ≤ cap) (hmax : cap ≤ maxLen)
      (hA : 0 < l.length → ∃ b off, A = some ⟨b, off, none⟩ ∧ LiesAt Pr w l z b off u)
      (h : ∀ (i : Nat) (d : AV) (j : Nat) (c : AV), l[i]? = some d → d.cells[j]? = some c → VR Pr w c (u i j)) : VR Pr w (.sl l) (.slice A l.length cap)
  | agg (cs : List AV) (vs : List Value) (hl : cs.length = vs.length) (h : ∀ (j : Nat) (c : AV) (v : Value), cs[j]? = some c → vs[j]? = some v → VR Pr w c v) : VR Pr w (.agg cs) (.agg vs.toArray)
  | tup (cs : List AV) (vs : List Value) (hl : cs.length = vs.length) (h : ∀ (j : Nat) (c : AV) (v : Value), cs[j]? = some c → vs[j]? = some v → VR Pr w c v) : VR Pr w (.tup cs) (.tuple vs.toArray)
  | nilp : VR Pr w .nilp (.pointer none)
  | cst (v : Value) (h1 : v.oneCell' = true) : VR Pr w (.cst v) v
  | rp (cs : List AV) (b off : Nat) (u : Nat → Value) (hb : b < w.heap.size) (hc : ∀ j, j < cs.length → Pr b (off + j) ∧ w.cell? ⟨b, off + j, none⟩ = some (u j))
      (h : ∀ (j : Nat) (c : AV), cs[j]? = some c → VR Pr w c (u j)) : VR Pr w (.rp cs) (.pointer (some ⟨b, off, none⟩))
  | clo (f : FuncId) (first caps : List AV) (vf vc : List Value) (hf : first.length = vf.length) (hc : caps.length = vc.length)
      (h1 : ∀ (j : Nat) (c : AV) (v : Value), first[j]? = some c → vf[j]? = some v → VR Pr w c v) (h2 : ∀ (j : Nat) (c : AV) (v : Value), caps[j]? = some c → vc[j]? = some v → VR Pr w c v) :
      VR Pr w (.clo f first caps) (.func (.func f) vf.toArray vc.toArray)
  | mv (es : List (Int × AV)) (g : Nat) (ms : Array MapEntry) (c : Nat) (hg : g < w.heap.size) (hp : Pr g 0) (hb : w.heap[g]? = some (.map ms c)) (hl : es.length = ms.size)
      (hk : ∀ (i : Nat) (e : Int × AV) (m : MapEntry), es[i]? = some e → ms[i]? = some m → m.key = .int .i64 e.1) (hv : ∀ (i : Nat) (e : Int × AV) (m : MapEntry), es[i]? = some e → ms[i]? = some m → VR Pr w e.2 m.val) :
      VR Pr w (.mv es) (.map (some g))

/-- cells of which 'Pr' holds read in w' as they did in w, and 'Pr'' holds of them -/
structure Kept (Pr Pr' : Nat → Nat → Prop) (w w' : World) : Prop where
  size : w.heap.size ≤ w'.heap.size
  pr : ∀ b o, b < w.heap.size → Pr b o → Pr' b o
  cell : ∀ b o, b < w.heap.size → Pr b o → w'.cell? ⟨b, o, none⟩ = w.cell? ⟨b, o, none⟩
  map : ∀ b ms c, b < w.heap.size → Pr b 0 → w.heap[b]? = some (.map ms c) → w'.heap[b]? = some (.map ms c)

theorem VR.kept {Pr Pr' : Nat → Nat → Prop} {w w' : World} (k : Kept Pr Pr' w w') {d : AV} {v : Value} (h : VR Pr w d v) : VR Pr' w' d v := by
  induction h with
  | int k n => exact .int k n
  | bool b => exact .bool b
  | str s => exact .str s
  | sl l A cap z u hcap hmax hA h ih =>
    refine .sl l A cap z u hcap hmax (fun h0 => ?_) ih
    obtain ⟨b, off, e, hL⟩ := hA h0
    refine ⟨b, off, e, ⟨Nat.lt_of_lt_of_le hL.lt k.size, hL.len, fun i j hi hj => ?_⟩⟩
    obtain ⟨h1, h2⟩ := hL.at_ i j hi hj
    exact ⟨k.pr _ _ hL.lt h1, by rw [k.cell _ _ hL.lt h1]; exact h2⟩
  | agg cs vs hl h ih => exact .agg cs vs hl ih
  | tup cs vs hl h ih => exact .tup cs vs hl ih
  | nilp => exact .nilp
  | cst v h1 => exact .cst v h1
  | rp cs b off u hb hc h ih =>
    exact .rp cs b off u (Nat.lt_of_lt_of_le hb k.size) (fun j hj => ⟨k.pr _ _ hb (hc j hj).1, by rw [k.cell _ _ hb (hc j hj).1]; exact (hc j hj).2⟩) ih
  | clo f first caps vf vc hf hc h1 h2 ih1 ih2 => exact .clo f first caps vf vc hf hc ih1 ih2
  | mv es g ms c hg hp hb hl hk hv ih => exact .mv es g ms c (Nat.lt_of_lt_of_le hg k.size) (k.pr _ _ hg hp) (k.map g ms c hg hp hb) hl hk ih

theorem VR.oneCell {Pr : Nat → Nat → Prop} {w : World} {d : AV} {v : Value} (h : VR Pr w d v) (h1 : d.one = true) : v.oneCell' = true := by
  cases h <;> first | rfl | assumption | (simp [AV.one] at h1)

/-- values that hold no address at all -/
inductive Flat : AV → Prop
  | int (k : IntKind) (n : Int) : Flat (.int k n)
  | bool (b : Bool) : Flat (.bool b)
  | str (s : ByteArray) : Flat (.str s)
  | nilp : Flat .nilp
  | cst (v : Value) : Flat (.cst v)
  | agg (cs : List AV) (h : ∀ c, c ∈ cs → Flat c) : Flat (.agg cs)
  | tup (cs : List AV) (h : ∀ c, c ∈ cs → Flat c) : Flat (.tup cs)

theorem VR.flat {Pr Pr' : Nat → Nat → Prop} {w w' : World} {d : AV} {v : Value} (h : VR Pr w d v) (hf : Flat d) : VR Pr' w' d v := by
  induction h with
  | int k n => exact .int k n
  | bool b => exact .bool b
  | str s => exact .str s
  | sl => cases hf
  | agg cs vs hl h ih =>
    cases hf with
    | agg _ hf => exact .agg cs vs hl fun j c v hc hv => ih j c v hc hv (hf c (List.mem_of_getElem? hc))
  | tup cs vs hl h ih =>
    cases hf with
    | tup _ hf => exact .tup cs vs hl fun j c v hc hv => ih j c v hc hv (hf c (List.mem_of_getElem? hc))
  | nilp => exact .nilp
  | cst v h1 => exact .cst v h1
  | rp => cases hf
  | clo => cases hf
  | mv => cases hf

/-! ### The state -/

/-- an own object: elements of z cells each; the first 'prot' are written no more -/
structure Arr where
  z : Nat
  ty : TypeId
  cells : List AV
  prot : Nat

/-- slots and own objects; an object's name is the slot that it was made at -/
structure St where
  T : Nat → AV
  H : Nat → Option Arr

/-- what stands around: the world at the outermost call's beginning, and what callers' slots read as -/
structure Start where
  w : World
  F : AV → Value → Prop

/-- what is read by others and so written no more: all but an own object's hinder part -/
def PrOf (w0 : Start) (Pr0 : Nat → Nat → Prop) (μ : Nat → Option Nat) (H : Nat → Option Arr) (b o : Nat) : Prop :=
  (b < w0.w.heap.size → Pr0 b o) ∧ ∀ r, μ r = some b → ∃ arr, H r = some arr ∧ o < arr.prot * arr.z

/-- a map's entries read -/
structure MapR (Pr : Nat → Nat → Prop) (w : World) (es : List (Int × AV)) (ms : Array MapEntry) : Prop where
  len : es.length = ms.size
  key : ∀ (i : Nat) (e : Int × AV) (m : MapEntry), es[i]? = some e → ms[i]? = some m → m.key = .int .i64 e.1
  val : ∀ (i : Nat) (e : Int × AV) (m : MapEntry), es[i]? = some e → ms[i]? = some m → VR Pr w e.2 m.val
theorem MapR.kept {Pr Pr' : Nat → Nat → Prop} {w w' : World} (k : Kept Pr Pr' w w') {es : List (Int × AV)} {ms : Array MapEntry} (h : MapR Pr w es ms) : MapR Pr' w' es ms :=
  ⟨h.len, h.key, fun i e m h1 h2 => (h.val i e m h1 h2).kept k⟩
/-- the slice or pointer into an own object -/
def TR (Pr : Nat → Nat → Prop) (μ : Nat → Option Nat) (H : Nat → Option Arr) (w : World) : AV → Value → Prop
  | .und, _ => True
  | .own .., _ => False
  | .ptr r i f, v => ∀ arr, H r = some arr → ∃ g, μ r = some g ∧ v = .pointer (some ⟨g, i * arr.z + f, none⟩)
  | .rs r off len, v => ∀ arr, H r = some arr → (μ r = none ∧ v = .slice none 0 0 ∧ off = 0 ∧ len = 0) ∨
      ∃ g cap cs, μ r = some g ∧ v = .slice (some ⟨g, off * arr.z, none⟩) len cap ∧ w.heap[g]? = some (.cells cs arr.ty (0, 0)) ∧ (off + cap) * arr.z = cs.size ∧ off + len ≤ arr.cells.length ∧ len ≤ cap ∧ cap ≤ maxLen
  | .clom f r, v => ∀ arr, H r = some arr → ∃ g, μ r = some g ∧ v = .func (.func f) #[] #[.pointer (some ⟨g, 0, none⟩)]
  | .mp r es, v => ∀ arr, H r = some arr → ∃ g ms c, μ r = some g ∧ v = .map (some g) ∧ w.heap[g]? = some (.map ms c) ∧ MapR Pr w es ms
  | d, v => VR Pr w d v

/-- an own object in memory -/
def OR (Pr : Nat → Nat → Prop) (μ : Nat → Option Nat) (w : World) (r : Nat) (arr : Arr) : Prop :=
  0 < arr.z ∧ arr.prot ≤ arr.cells.length ∧ (∀ d, d ∈ arr.cells → d.cells.length = arr.z ∧ ∀ c, c ∈ d.cells → c.one = true) ∧
  match μ r with
  | none => arr.cells = []
  | some g => (arr.cells = [] ∧ ∃ ms c, w.heap[g]? = some (.map ms c)) ∨ ∃ cs, w.heap[g]? = some (.cells cs arr.ty (0, 0)) ∧ arr.cells.length * arr.z ≤ cs.size ∧ 
      ∀ (i : Nat) (d : AV) (j : Nat) (c : AV), arr.cells[i]? = some d → d.cells[j]? = some c → ∃ u, cs[i * arr.z + j]? = some u ∧ VR Pr w c u

/-- the object that a value leads into -/
def AV.name : AV → Option Nat
  | .ptr r _ _ => some r
  | .rs r _ _ => some r
  | .clom _ r => some r
  | .mp r _ => some r
  | _ => none

/-- the state stands for a frame's slots and a world, in a call that began at w0 -/
structure SR (w0 : Start) (Pr0 : Nat → Nat → Prop) (n : Nat) (μ : Nat → Option Nat) (σ : St) (a : Act) (w : World) : Prop where
  below : Below w0.w.heap.size w0.w w
  inj : ∀ r r' g, μ r = some g → μ r' = some g → r = r'
  range : ∀ r g, μ r = some g → w0.w.heap.size ≤ g ∧ g < w.heap.size
  live : ∀ r g, μ r = some g → (σ.H r).isSome
  size : a.tmps.size = n
  tmp : ∀ t, TR (PrOf w0 Pr0 μ σ.H) μ σ.H w (σ.T t) (a.tmps.getD t undef)
  obj : ∀ r arr, σ.H r = some arr → OR (PrOf w0 Pr0 μ σ.H) μ w r arr
  defers : a.defers = []
  glob : Glob w0.w
  small : n ≤ 1000
  frame : ∀ d v, w0.F d v → (∀ r, d.name = some r → 1000 ≤ r) ∧ TR (PrOf w0 Pr0 μ σ.H) μ σ.H w d v

theorem Kept.refl (Pr : Nat → Nat → Prop) (w : World) : Kept Pr Pr w w := ⟨Nat.le_refl _, fun _ _ _ h => h, fun _ _ _ _ => rfl, fun _ _ _ _ _ h => h⟩

/-- a slot's reading in a later world, the same objects -/
theorem TR.kept {Pr Pr' : Nat → Nat → Prop} {μ : Nat → Option Nat} {H : Nat → Option Arr} {w w' : World} (k : Kept Pr Pr' w w')
    (hh : ∀ r g, μ r = some g → ∀ cs ty, w.heap[g]? = some (.cells cs ty (0, 0)) → ∃ cs', w'.heap[g]? = some (.cells cs' ty (0, 0)) ∧ cs'.size = cs.size) (hm : ∀ r g, μ r = some g → ∀ ms c, w.heap[g]? = some (.map ms c) → w'.heap[g]? = some (.map ms c)) {d : AV} {v : Value} (h : TR Pr μ H w d v) : TR Pr' μ H w' d v := by
  cases d with
  | und => trivial
  | own => exact h
  | ptr r i f => exact h
  | clom f r => exact h
  | mp r es =>
    intro arr ha
    obtain ⟨g, ms, c, h1, h2, h3, h4⟩ := h arr ha
    exact ⟨g, ms, c, h1, h2, hm r g h1 ms c h3, h4.kept k⟩
  | rs r off len =>
    intro arr ha
    rcases h arr ha with h | ⟨g, cap, cs, h1, h2, h3, h4, h5⟩
    · exact .inl h
    · obtain ⟨cs', e1, e2⟩ := hh r g h1 cs _ h3
      exact .inr ⟨g, cap, cs', h1, h2, e1, by rw [e2]; exact h4, h5⟩
  | _ => exact VR.kept k h

/-- the same state in a later world that keeps all blocks -/
theorem SR.grow {w0 : Start} {Pr0 : Nat → Nat → Prop} {n : Nat} {μ : Nat → Option Nat} {σ : St} {a : Act} {w w' : World} (h : SR w0 Pr0 n μ σ a w) (hb : Below w.heap.size w w') : SR w0 Pr0 n μ σ a w' := by
  have k : Kept (PrOf w0 Pr0 μ σ.H) (PrOf w0 Pr0 μ σ.H) w w' := ⟨hb.size, fun _ _ _ h => h, fun b o hlt _ => hb.cell (p := ⟨b, o, none⟩) hlt, fun b ms c hlt _ e => by rw [hb.block b hlt]; exact e⟩
  have hblk : ∀ r g, μ r = some g → w'.heap[g]? = w.heap[g]? := fun r g hr => hb.block g (h.range r g hr).2
  refine ⟨h.below.trans (hb.mono h.below.size), h.inj, fun r g hr => ⟨(h.range r g hr).1, Nat.lt_of_lt_of_le (h.range r g hr).2 hb.size⟩, h.live, h.size, fun t => (h.tmp t).kept k (fun r g hr cs ty hc => ⟨cs, by rw [hblk r g hr]; exact hc, rfl⟩) (fun r g hr ms c hc => by rw [hblk r g hr]; exact hc), fun r arr ha => ?_, h.defers, h.glob, h.small, fun d v hf => ⟨(h.frame d v hf).1, (h.frame d v hf).2.kept k (fun r g hr cs ty hc => ⟨cs, by rw [hblk r g hr]; exact hc, rfl⟩) (fun r g hr ms c hc => by rw [hblk r g hr]; exact hc)⟩⟩
  obtain ⟨h1, h2, h3, h4⟩ := h.obj r arr ha
  refine ⟨h1, h2, h3, ?_⟩
  cases hr : μ r with
  | none => rw [hr] at h4; exact h4
  | some g =>
    rw [hr] at h4
    rcases h4 with ⟨e0, ms, c, e1⟩ | ⟨cs, e1, e2, e3⟩
    · exact .inl ⟨e0, ms, c, by rw [hblk r g hr]; exact e1⟩
    exact .inr ⟨cs, by rw [hblk r g hr]; exact e1, e2, fun i d j c hi hj => let ⟨u, a1, a2⟩ := e3 i d j c hi hj; ⟨u, a1, a2.kept k⟩⟩

theorem SR.drew {w0 : Start} {Pr0 : Nat → Nat → Prop} {n : Nat} {μ : Nat → Option Nat} {σ : St} {a : Act} {w : World} (h : SR w0 Pr0 n μ σ a w) : SR w0 Pr0 n μ σ a { w with drawn := w.drawn + 1 } :=
  h.grow ⟨rfl, rfl, rfl, Nat.le_refl _, fun _ _ => rfl⟩

/-! ### Slots -/

def St.set (σ : St) (t : Nat) (v : AV) : St := ⟨upd σ.T t v, σ.H⟩

theorem getD_set {l : Array Value} {t s : Nat} {v d : Value} (ht : t < l.size) : (l.setIfInBounds t v).getD s d = if s = t then v else l.getD s d := by
  simp only [Array.getD_eq_getD_getElem?, Array.getElem?_setIfInBounds]
  by_cases h : t = s
  · subst h; simp [ht]
  · rw [if_neg h, if_neg (fun e => h e.symm)]

theorem SR.put {w0 : Start} {Pr0 : Nat → Nat → Prop} {n : Nat} {μ : Nat → Option Nat} {σ : St} {a : Act} {w : World} (h : SR w0 Pr0 n μ σ a w) {t : Nat} (ht : t < n) {d : AV} {v : Value} (hv : TR (PrOf w0 Pr0 μ σ.H) μ σ.H w d v) :
    SR w0 Pr0 n μ (σ.set t d) (a.put (some t) v) w := by
  refine ⟨h.below, h.inj, h.range, h.live, ?_, fun s => ?_, h.obj, ?_, h.glob, h.small, h.frame⟩
  · show (a.tmps.setIfInBounds t v).size = n
    rw [Array.size_setIfInBounds]; exact h.size
  · show TR _ _ _ _ (upd σ.T t d s) ((a.tmps.setIfInBounds t v).getD s undef)
    rw [getD_set (by rw [h.size]; exact ht)]
    by_cases e : s = t
    · rw [e, upd_same, if_pos rfl]; exact hv
    · rw [upd_ne _ _ e, if_neg e]; exact h.tmp s
  · exact h.defers

/-- a slot that is forgotten -/
theorem SR.forget {w0 : Start} {Pr0 : Nat → Nat → Prop} {n : Nat} {μ : Nat → Option Nat} {σ : St} {a : Act} {w : World} (h : SR w0 Pr0 n μ σ a w) (T : Nat → AV) (hT : ∀ t, T t = σ.T t ∨ T t = .und) : SR w0 Pr0 n μ { σ with T := T } a w := by
  refine ⟨h.below, h.inj, h.range, h.live, h.size, fun t => ?_, h.obj, h.defers, h.glob, h.small, h.frame⟩
  rcases hT t with e | e
  · show TR _ _ _ _ (T t) _; rw [e]; exact h.tmp t
  · show TR _ _ _ _ (T t) _; rw [e]; trivial

/-! ### Objects: an end of one, a freeze of one -/

/-- an object's end: whatever led into it is forgotten -/
def St.kill (σ : St) (r : Nat) : St := ⟨fun t => if (σ.T t).name = some r then .und else σ.T t, upd σ.H r none⟩

theorem SR.kill {w0 : Start} {Pr0 : Nat → Nat → Prop} {n : Nat} {μ : Nat → Option Nat} {σ : St} {a : Act} {w : World} (h : SR w0 Pr0 n μ σ a w) (r : Nat) (hr1 : r < 1000) :
    SR w0 Pr0 n (upd μ r none) (σ.kill r) a w := by
  have k : Kept (PrOf w0 Pr0 μ σ.H) (PrOf w0 Pr0 (upd μ r none) (σ.kill r).H) w w := by
    refine ⟨Nat.le_refl _, fun b o _ hp => ⟨hp.1, fun s hs => ?_⟩, fun _ _ _ _ => rfl, fun _ _ _ _ _ h => h⟩
    by_cases e : s = r
    · rw [e, upd_same] at hs; cases hs
    · rw [upd_ne _ _ e] at hs
      show ∃ arr, (upd σ.H r none s) = some arr ∧ _
      rw [upd_ne _ _ e]
      exact hp.2 s hs
  have tr : ∀ d v, d.name ≠ some r → TR (PrOf w0 Pr0 μ σ.H) μ σ.H w d v → TR (PrOf w0 Pr0 (upd μ r none) (σ.kill r).H) (upd μ r none) (σ.kill r).H w d v := by
    intro d v e ht
    cases d with
    | und => trivial
    | own => exact ht
    | clom f s =>
      have hne : s ≠ r := fun e' => e (by rw [e']; rfl)
      intro arr ha
      have ha' : (upd σ.H r none s) = some arr := ha
      rw [upd_ne _ _ hne] at ha'
      rw [upd_ne _ _ hne]
      exact ht arr ha'
    | mp s es =>
      have hne : s ≠ r := fun e' => e (by rw [e']; rfl)
      intro arr ha
      have ha' : (upd σ.H r none s) = some arr := ha
      rw [upd_ne _ _ hne] at ha'
      rw [upd_ne _ _ hne]
      obtain ⟨g, ms, c, q1, q2, q3, q4⟩ := ht arr ha'
      exact ⟨g, ms, c, q1, q2, q3, q4.kept k⟩
    | ptr s i f =>
      have hne : s ≠ r := fun e' => e (by rw [e']; rfl)
      intro arr ha
      have ha' : (upd σ.H r none s) = some arr := ha
      rw [upd_ne _ _ hne] at ha'
      rw [upd_ne _ _ hne]
      exact ht arr ha'
    | rs s off len =>
      have hne : s ≠ r := fun e' => e (by rw [e']; rfl)
      intro arr ha
      have ha' : (upd σ.H r none s) = some arr := ha
      rw [upd_ne _ _ hne] at ha'
      rw [upd_ne _ _ hne]
      exact ht arr ha'
    | _ => exact VR.kept k ht
  refine ⟨h.below, fun s s' g hs hs' => ?_, fun s g hs => ?_, fun s g hs => ?_, h.size, fun t => ?_, fun s arr ha => ?_, h.defers, h.glob, h.small, fun d v hf => ⟨(h.frame d v hf).1, tr d v (fun e => by have := (h.frame d v hf).1 r e; omega) (h.frame d v hf).2⟩⟩
  · by_cases e : s = r
    · rw [e, upd_same] at hs; cases hs
    · by_cases e' : s' = r
      · rw [e', upd_same] at hs'; cases hs'
      · rw [upd_ne _ _ e] at hs; rw [upd_ne _ _ e'] at hs'; exact h.inj s s' g hs hs'
  · by_cases e : s = r
    · rw [e, upd_same] at hs; cases hs
    · rw [upd_ne _ _ e] at hs; exact h.range s g hs
  · by_cases e : s = r
    · rw [e, upd_same] at hs; cases hs
    · rw [upd_ne _ _ e] at hs
      show (upd σ.H r none s).isSome
      rw [upd_ne _ _ e]; exact h.live s g hs
  · have ht := h.tmp t
    show TR _ _ _ _ (if (σ.T t).name = some r then .und else σ.T t) _
    by_cases e : (σ.T t).name = some r
    · rw [if_pos e]; trivial
    · rw [if_neg e]; exact tr _ _ e ht
  · have ha' : (upd σ.H r none s) = some arr := ha
    by_cases e : s = r
    · rw [e, upd_same] at ha'; cases ha'
    · rw [upd_ne _ _ e] at ha'
      obtain ⟨h1, h2, h3, h4⟩ := h.obj s arr ha'
      refine ⟨h1, h2, h3, ?_⟩
      rw [upd_ne _ _ e]
      cases hr : μ s with
      | none => rw [hr] at h4; exact h4
      | some g =>
        rw [hr] at h4
        rcases h4 with h4 | ⟨cs, e1, e2, e3⟩
        · exact .inl h4
        exact .inr ⟨cs, e1, e2, fun i d j c hi hj => let ⟨u, a1, a2⟩ := e3 i d j c hi hj; ⟨u, a1, a2.kept k⟩⟩

/-- the object's cells so far are written no more -/
def Arr.freeze (a : Arr) : Arr := { a with prot := a.cells.length }
def St.fz (σ : St) (r : Nat) : St := ⟨σ.T, upd σ.H r ((σ.H r).map Arr.freeze)⟩

theorem SR.fz {w0 : Start} {Pr0 : Nat → Nat → Prop} {n : Nat} {μ : Nat → Option Nat} {σ : St} {a : Act} {w : World} (h : SR w0 Pr0 n μ σ a w) (r : Nat) :
    SR w0 Pr0 n μ (σ.fz r) a w := by
  have hH : ∀ s arr, (σ.fz r).H s = some arr → ∃ arr0, σ.H s = some arr0 ∧ arr.z = arr0.z ∧ arr.ty = arr0.ty ∧ arr.cells = arr0.cells ∧ (arr.prot = arr0.prot ∨ arr.prot = arr0.cells.length) := by
    intro s arr ha
    have ha' : (upd σ.H r ((σ.H r).map Arr.freeze) s) = some arr := ha
    by_cases e : s = r
    · subst e
      rw [upd_same] at ha'
      cases hs : σ.H s with
      | none => rw [hs] at ha'; cases ha'
      | some a0 => rw [hs] at ha'; cases ha'; exact ⟨a0, rfl, rfl, rfl, rfl, .inr rfl⟩
    · rw [upd_ne _ _ e] at ha'; exact ⟨arr, ha', rfl, rfl, rfl, .inl rfl⟩
  have k : Kept (PrOf w0 Pr0 μ σ.H) (PrOf w0 Pr0 μ (σ.fz r).H) w w := by
    refine ⟨Nat.le_refl _, fun b o _ hp => ⟨hp.1, fun s hs => ?_⟩, fun _ _ _ _ => rfl, fun _ _ _ _ _ h => h⟩
    obtain ⟨arr, h1, h2⟩ := hp.2 s hs
    show ∃ arr, (upd σ.H r ((σ.H r).map Arr.freeze) s) = some arr ∧ _
    by_cases e : s = r
    · subst e
      rw [upd_same, h1]
      exact ⟨arr.freeze, rfl, Nat.lt_of_lt_of_le h2 (Nat.mul_le_mul_right _ (h.obj s arr h1).2.1)⟩
    · rw [upd_ne _ _ e]; exact ⟨arr, h1, h2⟩
  have tr : ∀ d v, TR (PrOf w0 Pr0 μ σ.H) μ σ.H w d v → TR (PrOf w0 Pr0 μ (σ.fz r).H) μ (σ.fz r).H w d v := by
    intro d v ht
    cases d with
    | und => trivial
    | own => exact ht
    | clom f s =>
      intro arr ha
      obtain ⟨a0, e0, e1, e2, e3, _⟩ := hH s arr ha
      exact ht a0 e0
    | mp s es =>
      intro arr ha
      obtain ⟨a0, e0, e1, e2, e3, _⟩ := hH s arr ha
      obtain ⟨g, ms, c, q1, q2, q3, q4⟩ := ht a0 e0
      exact ⟨g, ms, c, q1, q2, q3, q4.kept k⟩
    | ptr s i f =>
      intro arr ha
      obtain ⟨a0, e0, e1, e2, e3, _⟩ := hH s arr ha
      rw [e1]; exact ht a0 e0
    | rs s off len =>
      intro arr ha
      obtain ⟨a0, e0, e1, e2, e3, _⟩ := hH s arr ha
      rw [e1, e2, e3]; exact ht a0 e0
    | _ => exact VR.kept k ht
  refine ⟨h.below, h.inj, h.range, fun s g hs => ?_, h.size, fun t => tr _ _ (h.tmp t), fun s arr ha => ?_, h.defers, h.glob, h.small, fun d v hf => ⟨(h.frame d v hf).1, tr d v (h.frame d v hf).2⟩⟩
  · show (upd σ.H r ((σ.H r).map Arr.freeze) s).isSome
    have := h.live s g hs
    by_cases e : s = r
    · subst e; rw [upd_same, Option.isSome_map]; exact this
    · rw [upd_ne _ _ e]; exact this
  · obtain ⟨a0, e0, e1, e2, e3, e4⟩ := hH s arr ha
    obtain ⟨h1, h2, h3, h4⟩ := h.obj s a0 e0
    refine ⟨by rw [e1]; exact h1, ?_, by rw [e3, e1]; exact h3, ?_⟩
    · rw [e3]; rcases e4 with e | e <;> rw [e]
      · exact h2
      · exact Nat.le_refl _
    · cases hr : μ s with
      | none => rw [hr] at h4; rw [e3]; exact h4
      | some g =>
        rw [hr] at h4
        rcases h4 with ⟨f0, ms, c, f1⟩ | ⟨cs, f1, f2, f3⟩
        · exact .inl ⟨by rw [e3]; exact f0, ms, c, f1⟩
        refine .inr ⟨cs, by rw [e2]; exact f1, by rw [e3, e1]; exact f2, fun i d j c hi hj => ?_⟩
        rw [e3] at hi
        obtain ⟨u, a1, a2⟩ := f3 i d j c hi hj
        exact ⟨u, by rw [e1]; exact a1, a2.kept k⟩
end Go.Proofs.YtkdbphhekpdmhaaDoor
