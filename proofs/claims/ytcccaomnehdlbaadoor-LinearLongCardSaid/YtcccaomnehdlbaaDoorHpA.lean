/-
  A machine with a heap, beside the model's: values with names in the place of addresses, and what relates them to a world.
-/
import Derived.Test.YtcccaomnehdlbaaDoorBase
import Derived.MapKept
import Derived.Below
namespace Go.Proofs.YtcccaomnehdlbaaDoor
open Go.RowKit
set_option linter.unusedVariables false
set_option linter.unusedSimpArgs false
namespace Hm

/-- a function at one place another -/
def upd {α : Type} (f : Nat → α) (r : Nat) (x : α) : Nat → α := fun s => if s = r then x else f s
theorem upd_same {α : Type} (f : Nat → α) (r : Nat) (x : α) : upd f r x r = x := if_pos rfl
theorem upd_ne {α : Type} (f : Nat → α) {r s : Nat} (x : α) (h : s ≠ r) : upd f r x s = f s := if_neg h

/-- what is known of a value that is not: that it lies in one cell; a whole number; a bool; a text -/
inductive UK where
  | cell
  | int (k : IntKind)
  | rng (lo hi : Int)
  | bool
  | str
  deriving DecidableEq
def UK.has : UK → Value → Bool
  | .cell, u => u.oneCell'
  | .int k, .int k' _ => decide (k = k')
  | .rng lo hi, .int k n => decide (k = .i64 ∧ lo ≤ n ∧ n ≤ hi)
  | .bool, .bool _ => true
  | .str, .string _ => true
  | _, _ => false
theorem UK.one {k : UK} {u : Value} (h : k.has u = true) : u.oneCell' = true := by
  cases k <;> cases u <;> first | exact h | rfl | (cases h)

/-- a value: 'lit': the model's own; 'ptr': into a named object; 'sl': elements of z cells each of a named object -/
inductive V where
  | lit (v : Value)
  | ptr (r o : Nat)
  | sl (r o z len : Nat)
  | mp (r : Nat)
  | fn (f : FuncId) (first caps : List V)
  | ifc (t : TypeId) (v : V)
  | agg (cs : List V)
  | tup (vs : List V)
  | any
  | un (k : UK)
  | yl (r : Nat)
  deriving Inhabited

mutual
/-- the model's value, where no name stands in it -/
def V.val? : V → Option Value
  | .lit v => some v
  | .fn f a b => match vals? a, vals? b with
    | some a, some b => some (.func (.func f) a.toArray b.toArray)
    | _, _ => none
  | .ifc t v => match v.val? with
    | some u => some (.iface t u)
    | none => none
  | .agg cs => match vals? cs with
    | some us => some (.agg us.toArray)
    | none => none
  | .tup cs => match vals? cs with
    | some us => some (.tuple us.toArray)
    | none => none
  | _ => none
def vals? : List V → Option (List Value)
  | [] => some []
  | v :: l => match v.val?, vals? l with
    | some u, some us => some (u :: us)
    | _, _ => none
end

/-- a value's cells -/
def V.cells : V → List V
  | .agg cs => cs
  | .lit (.agg cs) => cs.toList.map .lit
  | v => [v]
/-- is it known? -/
def V.known : V → Bool
  | .any => false
  | _ => true
/-- is it known what it is? -/
def V.sure : V → Bool
  | .any => false
  | .un _ => false
  | _ => true
/-- does it lie in one cell? -/
def V.one : V → Bool
  | .lit v => v.oneCell'
  | .ptr .. | .sl .. | .mp _ | .fn .. | .ifc .. | .un _ | .yl _ => true
  | _ => false

inductive Ob where
  | cells (ty : TypeId × Nat) (cs : List V)
  | map (es : List (Value × V))
  | loop (ts : List V) (ps : List Nat) (asg bd : Code) (busy : Bool)
  | defd

/-- where objects lie, which names have been given, what the objects hold -/
structure Mx where
  μ : Nat → Nat × Nat
  U : Nat → Prop
  H : Nat → Option Ob

/-- how a value with names reads -/
inductive Vr (E : Mx) (w : World) : V → Value → Prop
  | lit (v : Value) : Vr E w (.lit v) v
  | ptr (r o : Nat) (a : Addr) (hr : E.U r) (h : (E.H r).isSome → a = ⟨(E.μ r).1, (E.μ r).2 + o, none⟩) : Vr E w (.ptr r o) (.pointer (some a))
  | sl (r o z len : Nat) (A : Option Addr) (cap : Nat) (hr : E.U r) (hz : 0 < z) (hl : len ≤ cap) (hm : cap ≤ maxLen)
      (h : (E.H r).isSome → (∃ a, A = some a ∧ a.block = (E.μ r).1) ∧ (0 < cap → A = some ⟨(E.μ r).1, (E.μ r).2 + o, none⟩) ∧ ∃ vs ty fr, w.heap[(E.μ r).1]? = some (.cells vs ty fr) ∧ (E.μ r).2 + o + cap * z = vs.size) :
      Vr E w (.sl r o z len) (.slice A len cap)
  | mp (r g : Nat) (hr : E.U r) (h : (E.H r).isSome → g = (E.μ r).1) : Vr E w (.mp r) (.map (some g))
  | fn (f : FuncId) (a b : List V) (va vb : List Value) (ha : a.length = va.length) (hb : b.length = vb.length)
      (h1 : ∀ (j : Nat) (c : V) (u : Value), a[j]? = some c → va[j]? = some u → Vr E w c u) (h2 : ∀ (j : Nat) (c : V) (u : Value), b[j]? = some c → vb[j]? = some u → Vr E w c u) :
      Vr E w (.fn f a b) (.func (.func f) va.toArray vb.toArray)
  | ifc (t : TypeId) (v : V) (u : Value) (h : Vr E w v u) : Vr E w (.ifc t v) (.iface t u)
  | agg (cs : List V) (us : List Value) (hl : cs.length = us.length) (h : ∀ (j : Nat) (c : V) (u : Value), cs[j]? = some c → us[j]? = some u → Vr E w c u) : Vr E w (.agg cs) (.agg us.toArray)
  | tup (cs : List V) (us : List Value) (hl : cs.length = us.length) (h : ∀ (j : Nat) (c : V) (u : Value), cs[j]? = some c → us[j]? = some u → Vr E w c u) : Vr E w (.tup cs) (.tuple us.toArray)
  | any (u : Value) : Vr E w .any u
  | un (k : UK) (u : Value) (h : k.has u = true) : Vr E w (.un k) u
  | yl (r g : Nat) (hr : E.U r) (h : (E.H r).isSome → g = (E.μ r).1) : Vr E w (.yl r) (.func (.yield g) #[] #[])

/-- lists of values read -/
structure Vrs (E : Mx) (w : World) (cs : List V) (us : List Value) : Prop where
  len : cs.length = us.length
  at_ : ∀ (j : Nat) (c : V) (u : Value), cs[j]? = some c → us[j]? = some u → Vr E w c u
theorem Vrs.nil {E : Mx} {w : World} : Vrs E w [] [] := ⟨rfl, fun j c u h => by simp at h⟩
theorem Vrs.cons {E : Mx} {w : World} {c : V} {u : Value} {cs : List V} {us : List Value} (h : Vr E w c u) (hs : Vrs E w cs us) : Vrs E w (c :: cs) (u :: us) := by
  refine ⟨by simp [hs.len], fun j d v hd hv => ?_⟩
  match j with
  | 0 => cases hd; cases hv; exact h
  | j + 1 => exact hs.at_ j d v (by simpa using hd) (by simpa using hv)
theorem Vrs.head {E : Mx} {w : World} {c : V} {u : Value} {cs : List V} {us : List Value} (h : Vrs E w (c :: cs) (u :: us)) : Vr E w c u := h.at_ 0 c u rfl rfl
theorem Vrs.tail {E : Mx} {w : World} {c : V} {u : Value} {cs : List V} {us : List Value} (h : Vrs E w (c :: cs) (u :: us)) : Vrs E w cs us :=
  ⟨by have := h.len; simpa using this, fun j d v hd hv => h.at_ (j + 1) d v (by simpa using hd) (by simpa using hv)⟩
theorem Vrs.append {E : Mx} {w : World} {a b : List V} {x y : List Value} (h : Vrs E w a x) (k : Vrs E w b y) : Vrs E w (a ++ b) (x ++ y) := by
  refine ⟨by simp [h.len, k.len], fun j c u hc hu => ?_⟩
  by_cases hj : j < a.length
  · rw [List.getElem?_append_left hj] at hc
    rw [List.getElem?_append_left (by rw [← h.len]; exact hj)] at hu
    exact h.at_ j c u hc hu
  · rw [List.getElem?_append_right (by omega)] at hc
    rw [List.getElem?_append_right (by rw [← h.len]; omega), ← h.len] at hu
    exact k.at_ _ c u hc hu
theorem Vrs.lits {E : Mx} {w : World} (us : List Value) : Vrs E w (us.map .lit) us := by
  refine ⟨by simp, fun j c u hc hu => ?_⟩
  rw [List.getElem?_map, hu] at hc
  cases hc
  exact .lit u
theorem Vrs.get {E : Mx} {w : World} {cs : List V} {us : List Value} (h : Vrs E w cs us) {j : Nat} {c : V} (hc : cs[j]? = some c) : ∃ u, us[j]? = some u ∧ Vr E w c u := by
  have hj := (List.getElem?_eq_some_iff.1 hc).1
  refine ⟨us[j]'(by rw [← h.len]; exact hj), List.getElem?_eq_getElem _, h.at_ j c _ hc (List.getElem?_eq_getElem _)⟩
theorem Vrs.take {E : Mx} {w : World} {cs : List V} {us : List Value} (h : Vrs E w cs us) (n : Nat) : Vrs E w (cs.take n) (us.take n) := by
  refine ⟨by simp [h.len], fun j c u hc hu => ?_⟩
  rw [List.getElem?_take] at hc hu
  split at hc
  · rename_i hj
    rw [if_pos hj] at hu
    exact h.at_ j c u hc hu
  · cases hc
theorem Vrs.drop {E : Mx} {w : World} {cs : List V} {us : List Value} (h : Vrs E w cs us) (n : Nat) : Vrs E w (cs.drop n) (us.drop n) := by
  refine ⟨by simp [h.len], fun j c u hc hu => ?_⟩
  rw [List.getElem?_drop] at hc hu
  exact h.at_ _ c u hc hu

theorem Vr.agg_inv {E : Mx} {w : World} {cs : List V} {u : Value} (h : Vr E w (.agg cs) u) : ∃ us : List Value, u = .agg us.toArray ∧ Vrs E w cs us := by
  cases h with
  | agg _ us hl h => exact ⟨us, rfl, hl, h⟩
theorem Vr.tup_inv {E : Mx} {w : World} {cs : List V} {u : Value} (h : Vr E w (.tup cs) u) : ∃ us : List Value, u = .tuple us.toArray ∧ Vrs E w cs us := by
  cases h with
  | tup _ us hl h => exact ⟨us, rfl, hl, h⟩
theorem Vr.lit_inv {E : Mx} {w : World} {v u : Value} (h : Vr E w (.lit v) u) : u = v := by cases h; rfl
theorem Vrs.agg {E : Mx} {w : World} {cs : List V} {us : List Value} (h : Vrs E w cs us) : Vr E w (.agg cs) (.agg us.toArray) := .agg cs us h.len h.at_
theorem Vrs.tup {E : Mx} {w : World} {cs : List V} {us : List Value} (h : Vrs E w cs us) : Vr E w (.tup cs) (.tuple us.toArray) := .tup cs us h.len h.at_

mutual
theorem Vr.val : ∀ {E : Mx} {w : World} {d : V} {u v : Value}, Vr E w d u → d.val? = some v → u = v
  | E, w, .lit x, u, v, h, e => by simp only [V.val?, Option.some.injEq] at e; rw [h.lit_inv, e]
  | E, w, .ptr .., u, v, h, e => by simp [V.val?] at e
  | E, w, .sl .., u, v, h, e => by simp [V.val?] at e
  | E, w, .mp .., u, v, h, e => by simp [V.val?] at e
  | E, w, .any, u, v, h, e => by simp [V.val?] at e
  | E, w, .un _, u, v, h, e => by simp [V.val?] at e
  | E, w, .yl _, u, v, h, e => by simp [V.val?] at e
  | E, w, .fn f a b, u, v, h, e => by
    cases h with
    | fn _ _ _ va vb ha hb h1 h2 =>
      simp only [V.val?] at e
      split at e
      · rename_i x y e1 e2
        cases e
        rw [Vrs.val ⟨ha, h1⟩ e1, Vrs.val ⟨hb, h2⟩ e2]
      · cases e
  | E, w, .ifc t x, u, v, h, e => by
    cases h with
    | ifc _ _ y h =>
      simp only [V.val?] at e
      split at e
      · rename_i z e1
        cases e
        rw [Vr.val h e1]
      · cases e
  | E, w, .agg cs, u, v, h, e => by
    obtain ⟨us, rfl, hs⟩ := h.agg_inv
    simp only [V.val?] at e
    split at e
    · rename_i z e1
      cases e
      rw [Vrs.val hs e1]
    · cases e
  | E, w, .tup cs, u, v, h, e => by
    obtain ⟨us, rfl, hs⟩ := h.tup_inv
    simp only [V.val?] at e
    split at e
    · rename_i z e1
      cases e
      rw [Vrs.val hs e1]
    · cases e
theorem Vrs.val : ∀ {E : Mx} {w : World} {ds : List V} {us vs : List Value}, Vrs E w ds us → vals? ds = some vs → us = vs
  | E, w, [], us, vs, h, e => by
    simp only [vals?, Option.some.injEq] at e
    rw [← e]
    exact List.length_eq_zero_iff.1 h.len.symm
  | E, w, d :: ds, us, vs, h, e => by
    simp only [vals?] at e
    split at e
    · rename_i x y e1 e2
      cases e
      match us, h with
      | [], h => exact absurd h.len (by simp)
      | u :: us, h => rw [Vr.val h.head e1, Vrs.val h.tail e2]
    · cases e
end

theorem Vr.cells {E : Mx} {w : World} {d : V} {u : Value} (h : Vr E w d u) (hk : d.known = true) : Vrs E w d.cells u.cells.toList := by
  have one : ∀ {d : V} {u : Value}, Vr E w d u → Vrs E w [d] [u] := fun h => .cons h .nil
  cases h with
  | lit _ =>
    cases u with
    | agg cs => exact Vrs.lits cs.toList
    | _ => exact one (.lit _)
  | ptr r o a hr h => exact one (.ptr r o a hr h)
  | sl r o z len A cap hr hz hl hm h => exact one (.sl r o z len A cap hr hz hl hm h)
  | mp r g hr h => exact one (.mp r g hr h)
  | yl r g hr h => exact one (.yl r g hr h)
  | fn f a b va vb ha hb h1 h2 => exact one (.fn f a b va vb ha hb h1 h2)
  | ifc t v u h => exact one (.ifc t v u h)
  | agg cs us hl h => exact ⟨by simpa [V.cells, Value.cells] using hl, fun j c u hc hu => h j c u hc (by simpa [Value.cells] using hu)⟩
  | tup cs us hl h => exact one (.tup cs us hl h)
  | any u => cases hk
  | un k u h =>
    have h1 := UK.one h
    cases u with
    | agg cs => cases h1
    | _ => exact one (.un k _ h)
theorem Vr.oneCell {E : Mx} {w : World} {d : V} {u : Value} (h : Vr E w d u) (h1 : d.one = true) : u.oneCell' = true := by
  cases h <;> first | rfl | exact h1 | (rename_i h; exact UK.one h) | (cases h1)

/-- no object lies in a block -/
def Mx.Un (E : Mx) (g : Nat) : Prop := ∀ r ob, E.H r = some ob → (E.μ r).1 ≠ g

/-- no place of a block is frozen -/
def Unf (fr : Nat × Nat) (n : Nat) : Prop := fr = (0, 0) ∨ fr = (n, n + 1)
/-- an object reads in a block -/
def ObR (E : Mx) (w : World) (b : Nat) : Ob → Obj → Prop
  | .cells t cs, .cells vs ty fr => Unf fr vs.size ∧ (b + cs.length ≤ vs.size ∧ (cs.length = 1 → b = 0) ∧ ty = t.1 ∧ (t.2 < 2 → fr = (0, 0)) ∧ (t.2 = 0 → b = 0 ∧ vs.size = cs.length)) ∧ ∀ j c, cs[j]? = some c → c.one = true ∧ ∃ u, vs[b + j]? = some u ∧ Vr E w c u
  | .map es, .map ms clk => Go.MapKept.Stamped ms clk ∧ es.length = ms.size ∧ ∀ (i : Nat) (e : Value × V) (m : MapEntry), es[i]? = some e → ms[i]? = some m → m.key = e.1 ∧ Vr E w e.2 m.val
  | .loop ts ps asg bd busy, .loop rc => (rc.params.toList = ps ∧ rc.assign = asg ∧ rc.body = bd) ∧ (rc.state = (if busy then .busy else .ready) ∧ rc.pending = none) ∧ Vrs E w ts rc.tmps.toList
  | .defd, .deferred ds => ds = some []
  | _, _ => False

structure Rel (E : Mx) (w : World) : Prop where
  used : ∀ r ob, E.H r = some ob → E.U r
  inj : ∀ r r' ob ob', E.H r = some ob → E.H r' = some ob' → (E.μ r).1 = (E.μ r').1 → r = r'
  obj : ∀ r ob, E.H r = some ob → ∃ o, w.heap[(E.μ r).1]? = some o ∧ ObR E w (E.μ r).2 ob o

/-- a later state -/
structure Step (E : Mx) (w : World) (E' : Mx) (w' : World) : Prop where
  os : w'.os = w.os
  tape : w'.tape = w.tape
  output : w'.output = w.output
  size : w.heap.size ≤ w'.heap.size
  used : ∀ r, E.U r → E'.U r
  same : ∀ r, E.U r → E'.μ r = E.μ r
  live : ∀ r, E.U r → (E'.H r).isSome → (E.H r).isSome
  keep : ∀ g, g < w.heap.size → E.Un g → w'.heap[g]? = w.heap[g]?
  un : ∀ g, g < w.heap.size → E.Un g → E'.Un g
  shape : ∀ r, E.U r → (E'.H r).isSome → ∀ vs ty fr, w.heap[(E.μ r).1]? = some (.cells vs ty fr) → ∃ vs' ty' fr', w'.heap[(E.μ r).1]? = some (.cells vs' ty' fr') ∧ vs'.size = vs.size

theorem Step.refl (E : Mx) (w : World) : Step E w E w :=
  ⟨rfl, rfl, rfl, Nat.le_refl _, fun _ h => h, fun _ _ => rfl, fun _ _ h => h, fun _ _ _ => rfl, fun _ _ h => h, fun _ _ _ vs ty fr h => ⟨vs, ty, fr, h, rfl⟩⟩
theorem Step.trans {E E' E'' : Mx} {w w' w'' : World} (h : Step E w E' w') (k : Step E' w' E'' w'') : Step E w E'' w'' := by
  refine ⟨k.os.trans h.os, k.tape.trans h.tape, k.output.trans h.output, Nat.le_trans h.size k.size, fun r hr => k.used r (h.used r hr), fun r hr => (k.same r (h.used r hr)).trans (h.same r hr),
    fun r hr hl => h.live r hr (k.live r (h.used r hr) hl), fun g hg hu => (k.keep g (Nat.lt_of_lt_of_le hg h.size) (h.un g hg hu)).trans (h.keep g hg hu),
    fun g hg hu => k.un g (Nat.lt_of_lt_of_le hg h.size) (h.un g hg hu), fun r hr hl vs ty fr e => ?_⟩
  obtain ⟨vs', ty', fr', e1, e2⟩ := h.shape r hr (k.live r (h.used r hr) hl) vs ty fr e
  rw [← h.same r hr] at e1
  obtain ⟨vs2, ty2, fr2, f1, f2⟩ := k.shape r (h.used r hr) hl vs' ty' fr' e1
  rw [h.same r hr] at f1
  exact ⟨vs2, ty2, fr2, f1, f2.trans e2⟩
theorem Step.below {E E' : Mx} {w w' : World} (h : Step E w E' w') (hu : ∀ g, g < w.heap.size → E.Un g) : Below w.heap.size w w' :=
  ⟨h.os, h.tape, h.output, h.size, fun g hg => h.keep g hg (hu g hg)⟩

theorem Vr.step {E E' : Mx} {w w' : World} (k : Step E w E' w') {d : V} {u : Value} (h : Vr E w d u) : Vr E' w' d u := by
  induction h with
  | lit v => exact .lit v
  | ptr r o a hr h => exact .ptr r o a (k.used r hr) fun hl => by rw [k.same r hr]; exact h (k.live r hr hl)
  | sl r o z len A cap hr hz hl hm h =>
    refine .sl r o z len A cap (k.used r hr) hz hl hm fun hl' => ?_
    obtain ⟨h1, h2, vs, ty, fr, h3, h4⟩ := h (k.live r hr hl')
    obtain ⟨vs', ty', fr', e1, e2⟩ := k.shape r hr hl' vs ty fr h3
    rw [k.same r hr]
    exact ⟨h1, h2, vs', ty', fr', e1, by rw [e2]; exact h4⟩
  | mp r g hr h => exact .mp r g (k.used r hr) fun hl => by rw [k.same r hr]; exact h (k.live r hr hl)
  | yl r g hr h => exact .yl r g (k.used r hr) fun hl => by rw [k.same r hr]; exact h (k.live r hr hl)
  | fn f a b va vb ha hb h1 h2 ih1 ih2 => exact .fn f a b va vb ha hb ih1 ih2
  | ifc t v u h ih => exact .ifc t v u ih
  | agg cs us hl h ih => exact .agg cs us hl ih
  | tup cs us hl h ih => exact .tup cs us hl ih
  | any u => exact .any u
  | un k u h => exact .un k u h
theorem Vrs.step {E E' : Mx} {w w' : World} (k : Step E w E' w') {cs : List V} {us : List Value} (h : Vrs E w cs us) : Vrs E' w' cs us :=
  ⟨h.len, fun j c u hc hu => (h.at_ j c u hc hu).step k⟩
theorem ObR.step {E E' : Mx} {w w' : World} (k : Step E w E' w') {b : Nat} {ob : Ob} {o : Obj} (h : ObR E w b ob o) : ObR E' w' b ob o := by
  cases ob <;> cases o <;> try exact h.elim
  · obtain ⟨h0, h1, h2⟩ := h
    exact ⟨h0, h1, fun j c hc => let ⟨a1, u, a2, a3⟩ := h2 j c hc; ⟨a1, u, a2, a3.step k⟩⟩
  · obtain ⟨h0, h1, h2⟩ := h
    exact ⟨h0, h1, fun i e m he hm => let ⟨a1, a2⟩ := h2 i e m he hm; ⟨a1, a2.step k⟩⟩
  · obtain ⟨h0, h1, h2⟩ := h
    exact ⟨h0, h1, h2.step k⟩
  · exact h

/-- objects alone may go, and blocks that are no object's may come -/
theorem Rel.grow {E : Mx} {w w' : World} (h : Rel E w) (hb : Below w.heap.size w w') : Rel E w' ∧ Step E w E w' := by
  have k : Step E w E w' := ⟨hb.os, hb.tape, hb.output, hb.size, fun _ h => h, fun _ _ => rfl, fun _ _ h => h, fun g hg _ => hb.block g hg, fun _ _ h => h, fun r hr hl vs ty fr e => by
    obtain ⟨ob, hob⟩ := Option.isSome_iff_exists.1 hl
    exact ⟨vs, ty, fr, by rw [hb.block _ (Array.getElem?_eq_some_iff.1 e).1]; exact e, rfl⟩⟩
  refine ⟨⟨h.used, h.inj, fun r ob hr => ?_⟩, k⟩
  obtain ⟨o, h1, h2⟩ := h.obj r ob hr
  exact ⟨o, by rw [hb.block _ (Array.getElem?_eq_some_iff.1 h1).1]; exact h1, h2.step k⟩
theorem Rel.drew {E : Mx} {w : World} (h : Rel E w) : Rel E { w with drawn := w.drawn + 1 } ∧ Step E w E { w with drawn := w.drawn + 1 } :=
  h.grow ⟨rfl, rfl, rfl, Nat.le_refl _, fun _ _ => rfl⟩

/-- a name is given -/
theorem Rel.use {E : Mx} {w : World} (h : Rel E w) (U' : Nat → Prop) (hU : ∀ r, E.U r → U' r) : Rel { E with U := U' } w ∧ Step E w { E with U := U' } w := by
  have k : Step E w { E with U := U' } w := ⟨rfl, rfl, rfl, Nat.le_refl _, hU, fun _ _ => rfl, fun _ _ h => h, fun _ _ _ => rfl, fun _ _ h => h, fun _ _ _ vs ty fr h => ⟨vs, ty, fr, h, rfl⟩⟩
  exact ⟨⟨fun r ob hr => hU r (h.used r ob hr), h.inj, fun r ob hr => let ⟨o, h1, h2⟩ := h.obj r ob hr; ⟨o, h1, h2.step k⟩⟩, k⟩

/-- the state with one object more, in a new block -/
def Mx.new (E : Mx) (r : Nat) (g b : Nat) (ob : Ob) : Mx := ⟨upd E.μ r (g, b), fun s => E.U s ∨ s = r, upd E.H r (some ob)⟩
theorem Rel.new {E : Mx} {w : World} (h : Rel E w) {r : Nat} (hr : ¬ E.U r) {ob : Ob} {o : Obj} (ho : ObR E w 0 ob o) : Rel (E.new r w.heap.size 0 ob) (w.alloc o) ∧ Step E w (E.new r w.heap.size 0 ob) (w.alloc o) := by
  have hne : ∀ s, E.U s → s ≠ r := fun s hs e => hr (e ▸ hs)
  have hlt : ∀ s ob, E.H s = some ob → (E.μ s).1 < w.heap.size := fun s ob hs => let ⟨o, h1, _⟩ := h.obj s ob hs; (Array.getElem?_eq_some_iff.1 h1).1
  have hblk : ∀ g, g < w.heap.size → (w.alloc o).heap[g]? = w.heap[g]? := fun g hg => Below.heap_alloc w o g hg
  have k : Step E w (E.new r w.heap.size 0 ob) (w.alloc o) := by
    refine ⟨rfl, rfl, rfl, by simp, fun s hs => .inl hs, fun s hs => upd_ne _ _ (hne s hs), fun s hs hl => ?_, fun g hg _ => hblk g hg, fun g hg hu s ob' hs => ?_, fun s hs hl vs ty fr e => ?_⟩
    · have hl' : (upd E.H r (some ob) s).isSome := hl
      rwa [upd_ne _ _ (hne s hs)] at hl'
    · have hs' : upd E.H r (some ob) s = some ob' := hs
      show (upd E.μ r (w.heap.size, 0) s).1 ≠ g
      by_cases e : s = r
      · subst e; rw [upd_same]; show w.heap.size ≠ g; omega
      · rw [upd_ne _ _ e] at hs' ⊢; exact hu s ob' hs'
    · exact ⟨vs, ty, fr, by rw [hblk _ (Array.getElem?_eq_some_iff.1 e).1]; exact e, rfl⟩
  refine ⟨⟨fun s ob' hs => ?_, fun s s' a a' hs hs' e => ?_, fun s ob' hs => ?_⟩, k⟩
  · have hs' : upd E.H r (some ob) s = some ob' := hs
    by_cases e : s = r
    · exact .inr e
    · rw [upd_ne _ _ e] at hs'; exact .inl (h.used s ob' hs')
  · have hs1 : upd E.H r (some ob) s = some a := hs
    have hs2 : upd E.H r (some ob) s' = some a' := hs'
    have e1 : (upd E.μ r (w.heap.size, 0) s).1 = (upd E.μ r (w.heap.size, 0) s').1 := e
    by_cases q : s = r <;> by_cases q' : s' = r
    · rw [q, q']
    · subst q; rw [upd_same, upd_ne _ _ q'] at e1; rw [upd_ne _ _ q'] at hs2; have := hlt s' a' hs2; omega
    · subst q'; rw [upd_same, upd_ne _ _ q] at e1; rw [upd_ne _ _ q] at hs1; have := hlt s a hs1; omega
    · rw [upd_ne _ _ q, upd_ne _ _ q'] at e1; rw [upd_ne _ _ q] at hs1; rw [upd_ne _ _ q'] at hs2; exact h.inj s s' a a' hs1 hs2 e1
  · have hs' : upd E.H r (some ob) s = some ob' := hs
    show ∃ o', (w.alloc o).heap[(upd E.μ r (w.heap.size, 0) s).1]? = some o' ∧ ObR _ _ (upd E.μ r (w.heap.size, 0) s).2 ob' o'
    by_cases e : s = r
    · subst e
      rw [upd_same] at hs' ⊢
      cases hs'
      exact ⟨o, (Go.MapKept.heap_alloc w o).1, ho.step k⟩
    · rw [upd_ne _ _ e] at hs' ⊢
      obtain ⟨o', h1, h2⟩ := h.obj s ob' hs'
      exact ⟨o', by rw [hblk _ (Array.getElem?_eq_some_iff.1 h1).1]; exact h1, h2.step k⟩

/-- an object ends -/
def Mx.kill (E : Mx) (r : Nat) : Mx := { E with H := upd E.H r none }
theorem Rel.kill {E : Mx} {w : World} (h : Rel E w) (r : Nat) : Rel (E.kill r) w ∧ Step E w (E.kill r) w := by
  have hs : ∀ s ob, (E.kill r).H s = some ob → E.H s = some ob := fun s ob hs => by
    have hs' : upd E.H r none s = some ob := hs
    by_cases e : s = r
    · subst e; rw [upd_same] at hs'; cases hs'
    · rwa [upd_ne _ _ e] at hs'
  have k : Step E w (E.kill r) w := by
    refine ⟨rfl, rfl, rfl, Nat.le_refl _, fun _ h => h, fun _ _ => rfl, fun s _ hl => ?_, fun _ _ _ => rfl, fun g _ hu s ob' hs' => hu s ob' (hs s ob' hs'), fun _ _ _ vs ty fr h => ⟨vs, ty, fr, h, rfl⟩⟩
    obtain ⟨ob, hob⟩ := Option.isSome_iff_exists.1 hl
    rw [hs s ob hob]; rfl
  exact ⟨⟨fun s ob q => h.used s ob (hs s ob q), fun s s' a a' q q' e => h.inj s s' a a' (hs s a q) (hs s' a' q') e, fun s ob q => let ⟨o, h1, h2⟩ := h.obj s ob (hs s ob q); ⟨o, h1, h2.step k⟩⟩, k⟩

/-- another world that differs in one block -/
structure Only (g : Nat) (w w' : World) : Prop where
  os : w'.os = w.os
  tape : w'.tape = w.tape
  output : w'.output = w.output
  size : w'.heap.size = w.heap.size
  block : ∀ k, k ≠ g → w'.heap[k]? = w.heap[k]?

/-- an object's block is written: the object has another content -/
theorem Rel.write {E : Mx} {w w' : World} (h : Rel E w) {r : Nat} {ob ob' : Ob} {o o' : Obj} (hr : E.H r = some ob) (ho : w.heap[(E.μ r).1]? = some o) (hw : Only (E.μ r).1 w w') (ho' : w'.heap[(E.μ r).1]? = some o')
    (hsz : ∀ vs ty fr, o = .cells vs ty fr → ∃ vs' ty' fr', o' = .cells vs' ty' fr' ∧ vs'.size = vs.size) (hob : ObR E w (E.μ r).2 ob' o') :
    Rel { E with H := upd E.H r (some ob') } w' ∧ Step E w { E with H := upd E.H r (some ob') } w' := by
  have hs : ∀ s, ((upd E.H r (some ob')) s).isSome → (E.H s).isSome := fun s hl => by
    by_cases e : s = r
    · subst e; rw [hr]; rfl
    · rwa [upd_ne _ _ e] at hl
  have k : Step E w { E with H := upd E.H r (some ob') } w' := by
    refine ⟨hw.os, hw.tape, hw.output, Nat.le_of_eq hw.size.symm, fun _ h => h, fun _ _ => rfl, fun s _ hl => hs s hl, fun g hg hu => hw.block g fun e => hu r ob hr e.symm, fun g hg hu s ob'' hs' => ?_, fun s hs' hl vs ty fr e => ?_⟩
    · obtain ⟨ob3, h3⟩ := Option.isSome_iff_exists.1 (hs s (by rw [show upd E.H r (some ob') s = some ob'' from hs']; rfl))
      exact hu s ob3 h3
    · by_cases q : (E.μ s).1 = (E.μ r).1
      · rw [q] at e ⊢
        rw [ho] at e
        cases e
        obtain ⟨vs', ty', fr', e1, e2⟩ := hsz vs ty fr rfl
        exact ⟨vs', ty', fr', by rw [ho', e1], e2⟩
      · exact ⟨vs, ty, fr, by rw [hw.block _ q]; exact e, rfl⟩
  refine ⟨⟨fun s ob'' hs' => ?_, fun s s' a a' q q' e => ?_, fun s ob'' hs' => ?_⟩, k⟩
  · obtain ⟨ob3, h3⟩ := Option.isSome_iff_exists.1 (hs s (by rw [show upd E.H r (some ob') s = some ob'' from hs']; rfl))
    exact h.used s ob3 h3
  · obtain ⟨x, hx⟩ := Option.isSome_iff_exists.1 (hs s (by rw [show upd E.H r (some ob') s = some a from q]; rfl))
    obtain ⟨x', hx'⟩ := Option.isSome_iff_exists.1 (hs s' (by rw [show upd E.H r (some ob') s' = some a' from q']; rfl))
    exact h.inj s s' x x' hx hx' e
  · have hs2 : upd E.H r (some ob') s = some ob'' := hs'
    by_cases e : s = r
    · subst e
      rw [upd_same] at hs2
      cases hs2
      exact ⟨o', ho', hob.step k⟩
    · rw [upd_ne _ _ e] at hs2
      obtain ⟨o3, h1, h2⟩ := h.obj s ob'' hs2
      refine ⟨o3, ?_, h2.step k⟩
      rw [hw.block _ fun q => e (h.inj s r ob'' ob hs2 hr q)]; exact h1

/-- an object's block is taken over by a new name, from another place on -/
theorem Rel.take {E : Mx} {w : World} (h : Rel E w) {r s : Nat} {ob ob' : Ob} {o : Obj} (hr : E.H r = some ob) (hs : ¬ E.U s) {b : Nat} (ho : w.heap[(E.μ r).1]? = some o) (hob : ObR E w b ob' o) :
    Rel ((E.kill r).new s (E.μ r).1 b ob') w ∧ Step E w ((E.kill r).new s (E.μ r).1 b ob') w := by
  have hsr : s ≠ r := fun e => hs (e ▸ h.used r ob hr)
  have hne : ∀ q, E.U q → q ≠ s := fun q hq e => hs (e ▸ hq)
  have hH : ∀ q x, upd (upd E.H r none) s (some ob') q = some x → (q = s ∧ x = ob') ∨ (q ≠ s ∧ q ≠ r ∧ E.H q = some x) := fun q x hq => by
    by_cases e : q = s
    · subst e; rw [upd_same] at hq; cases hq; exact .inl ⟨rfl, rfl⟩
    · rw [upd_ne _ _ e] at hq
      by_cases e2 : q = r
      · subst e2; rw [upd_same] at hq; cases hq
      · rw [upd_ne _ _ e2] at hq; exact .inr ⟨e, e2, hq⟩
  have k : Step E w ((E.kill r).new s (E.μ r).1 b ob') w := by
    refine ⟨rfl, rfl, rfl, Nat.le_refl _, fun q hq => .inl hq, fun q hq => upd_ne _ _ (hne q hq), fun q hq hl => ?_, fun _ _ _ => rfl, fun g hg hu q x hq => ?_, fun _ _ _ vs ty fr e => ⟨vs, ty, fr, e, rfl⟩⟩
    · obtain ⟨x, hx⟩ := Option.isSome_iff_exists.1 hl
      rcases hH q x hx with ⟨e, _⟩ | ⟨_, _, e⟩
      · exact absurd e (hne q hq)
      · rw [e]; rfl
    · show (upd E.μ s ((E.μ r).1, b) q).1 ≠ g
      rcases hH q x hq with ⟨e, _⟩ | ⟨e, _, e2⟩
      · rw [e, upd_same]; exact hu r ob hr
      · rw [upd_ne _ _ e]; exact hu q x e2
  refine ⟨⟨fun q x hq => ?_, fun q q' x x' hq hq' e => ?_, fun q x hq => ?_⟩, k⟩
  · rcases hH q x hq with ⟨e, _⟩ | ⟨_, _, e⟩
    · exact .inr e
    · exact .inl (h.used q x e)
  · have e' : (upd E.μ s ((E.μ r).1, b) q).1 = (upd E.μ s ((E.μ r).1, b) q').1 := e
    rcases hH q x hq with ⟨e1, _⟩ | ⟨e1, e2, e3⟩ <;> rcases hH q' x' hq' with ⟨f1, _⟩ | ⟨f1, f2, f3⟩
    · rw [e1, f1]
    · rw [e1, upd_same, upd_ne _ _ f1] at e'; exact absurd (h.inj r q' ob x' hr f3 e').symm f2
    · rw [f1, upd_same, upd_ne _ _ e1] at e'; exact absurd (h.inj q r x ob e3 hr e') e2
    · rw [upd_ne _ _ e1, upd_ne _ _ f1] at e'; exact h.inj q q' x x' e3 f3 e'
  · show ∃ o', w.heap[(upd E.μ s ((E.μ r).1, b) q).1]? = some o' ∧ ObR _ _ (upd E.μ s ((E.μ r).1, b) q).2 x o'
    rcases hH q x hq with ⟨e, e'⟩ | ⟨e, _, e2⟩
    · rw [e, upd_same, e']; exact ⟨o, ho, hob.step k⟩
    · rw [upd_ne _ _ e]
      obtain ⟨o3, h1, h2⟩ := h.obj q x e2
      exact ⟨o3, h1, h2.step k⟩
end Hm
end Go.Proofs.YtcccaomnehdlbaaDoor
