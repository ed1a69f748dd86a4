/-
  The plain machine, seventh part: what a function comes to; operations that make memory, and calls.
-/
import Derived.Test.YtkdbphhekpdmhaaDoorAmF
namespace Go.Proofs.YtkdbphhekpdmhaaDoor
open Go.RowKit
set_option linter.unusedVariables false
set_option linter.unusedSimpArgs false

/-- a function that can be entered -/
def funcOk (P : Program) (f : FuncId) : Bool := match P.funcs[f]? with
  | some fn => fn.name != "runtime.NumGoroutine" && fn.body.isSome
  | none => false

/-- a fresh slice: nobody else reads its block -/
def OwnRes (Pr : Nat → Nat → Prop) (base : Nat) (w : World) (z : Nat) (ty : TypeId) (l : List AV) (v : Value) : Prop :=
  0 < z ∧ (∀ d, d ∈ l → d.cells.length = z ∧ ∀ c, c ∈ d.cells → c.one = true) ∧
  ((l = [] ∧ v = .slice none 0 0) ∨ ∃ g cap cs, v = .slice (some ⟨g, 0, none⟩) l.length cap ∧ base ≤ g ∧ w.heap[g]? = some (.cells cs ty (0, 0)) ∧ cap * z = cs.size ∧ l.length ≤ cap ∧ cap ≤ maxLen ∧
    ∀ (i : Nat) (d : AV) (j : Nat) (c : AV), l[i]? = some d → d.cells[j]? = some c → ∃ u, cs[i * z + j]? = some u ∧ VR (fun b o => Pr b o ∧ b ≠ g) w c u)

/-- how a result reads -/
def RR (Pr : Nat → Nat → Prop) (base : Nat) (w : World) : AV → Value → Prop
  | .own z ty l, v => OwnRes Pr base w z ty l v
  | d, v => VR Pr w d v

/-- what a function answers, at whatever world its arguments read in -/
structure AFn (P : Program) (f : FuncId) (args : List AV) (r : AV) : Prop where
  ok : funcOk P f = true
  calls : ∀ (w : World) (Pr : Nat → Nat → Prop) (vs : List Value), Glob w → (∀ b o, Pr b o → b < w.heap.size) → args.length = vs.length →
    (∀ (j : Nat) (d : AV) (v : Value), args[j]? = some d → vs[j]? = some v → VR Pr w d v) →
    Calls P f vs.toArray w fun e w' => ∃ v, e = .returned v ∧ Below w.heap.size w w' ∧ RR (fun b o => Pr b o ∨ w.heap.size ≤ b) w.heap.size w' r v

mutual
/-- holds it no address at all? -/
def AV.flatB : AV → Bool
  | .int .. | .bool _ | .str _ | .nilp | .cst _ => true
  | .agg cs => AV.flatBs cs
  | .tup vs => AV.flatBs vs
  | _ => false
def AV.flatBs : List AV → Bool
  | [] => true
  | v :: l => v.flatB && AV.flatBs l
end

mutual
theorem AV.flat_of : ∀ (d : AV), d.flatB = true → Flat d
  | .int k n, _ => .int k n
  | .bool b, _ => .bool b
  | .str s, _ => .str s
  | .nilp, _ => .nilp
  | .cst v, _ => .cst v
  | .agg cs, h => .agg cs (AV.flats_of cs (by simpa [AV.flatB] using h))
  | .tup cs, h => .tup cs (AV.flats_of cs (by simpa [AV.flatB] using h))
  | .und, h => by simp [AV.flatB] at h
  | .sl _, h => by simp [AV.flatB] at h
  | .rp _, h => by simp [AV.flatB] at h
  | .clo .., h => by simp [AV.flatB] at h
  | .ptr .., h => by simp [AV.flatB] at h
  | .rs .., h => by simp [AV.flatB] at h
  | .own .., h => by simp [AV.flatB] at h
theorem AV.flats_of : ∀ (l : List AV), AV.flatBs l = true → ∀ c, c ∈ l → Flat c
  | [], _, c, hc => by cases hc
  | v :: l, h, c, hc => by
    simp only [AV.flatBs, Bool.and_eq_true] at h
    rcases List.mem_cons.1 hc with e | e
    · rw [e]; exact AV.flat_of v h.1
    · exact AV.flats_of l h.2 c e
end

/-- a result, as a slot's value and an own object -/
def takeRes (dst : Nat) (fz : List Nat) (K : AV → Option Arr → List Nat → Prop) : AV → Prop
  | .own z ty l => K (.rs dst 0 l.length) (some ⟨z, ty, l, 0⟩) fz
  | r => if r.flatB then K r none [] else K r none fz

/-! ### Operations that are as calls of the library: 0: a text as bytes; 1: bytes as a text; 2: a new slice; 3, 4: shifts -/
def AV.byteB : AV → Bool
  | .int .u8 n => decide (0 ≤ n) && decide (n < 256)
  | _ => false
def AV.toB : AV → UInt8
  | .int _ n => UInt8.ofNat n.toNat
  | _ => 0
def primOk : Nat → List AV → Prop
  | 0, [.str s] => s.size ≤ 9223372036854775807
  | 1, [.sl l] => l.all AV.byteB = true
  | 2, [.int _ bytes, .int _ z, .int _ _, zero, .int .i64 n] => 0 ≤ n ∧ n ≤ 9223372036854775807 ∧ bytes * n ≤ 281474976710656 ∧ 0 ≤ bytes ∧ zero.cells.length = z.toNat ∧ 0 < z.toNat ∧ zero.cells.all AV.one = true
  | 3, [.int _ _, .int _ b] => 0 ≤ b
  | 4, [.int _ _, .int _ b] => 0 ≤ b
  | _, _ => False
def primVal : Nat → List AV → AV
  | 0, [.str s] => .sl (s.data.toList.map fun b => .int .u8 (b.toNat : Int))
  | 1, [.sl l] => .str ⟨(l.map AV.toB).toArray⟩
  | 2, [.int _ _, .int _ z, .int _ ty, zero, .int _ n] => .own z.toNat ty.toNat (List.replicate n.toNat zero)
  | 3, [.int k a, .int _ b] => .int k (k.wrap (a * 2 ^ min b.toNat k.bits))
  | 4, [.int k a, .int _ b] => .int k (a.fdiv (2 ^ min b.toNat k.bits))
  | _, _ => .und

/-- what an operation of a kind comes to that yields a value, or makes memory, or calls -/
def evalM (C : FuncId → List AV → AV → Prop) (dst : Nat) (hid : List Nat) (σ : St) (K : AV → Option Arr → List Nat → Prop) : IOp → Prop
  | .alloc z ty zero => zero.cells.length = z ∧ 0 < z ∧ zero.cells.all AV.one = true ∧ K (.ptr dst 0 0) (some ⟨z, ty, [zero], 0⟩) []
  | .box z ty x => match σ.byval hid (σ.get x) with
    | some (d, fz) => d.cells.length = z ∧ 0 < z ∧ d.cells.all AV.one = true ∧ K (.ptr dst 0 0) (some ⟨z, ty, [d], 0⟩) fz
    | none => False
  | .mknil z ty => 0 < z ∧ K (.rs dst 0 0) (some ⟨z, ty, [], 0⟩) []
  | .bsl z ty xs => match σ.byvals hid (xs.map σ.get) with
    | some (ds, fz) => 0 < z ∧ (∀ d, d ∈ ds → d.cells.length = z ∧ d.cells.all AV.one = true) ∧ K (.rs dst 0 ds.length) (some ⟨z, ty, ds, 0⟩) fz
    | none => False
  | .callv fx xs => match σ.get fx with
    | .clo f first caps => match σ.byvals hid (xs.map σ.get) with
      | some (ds, fz) => ∃ r, C f (first ++ ds ++ caps) r ∧ takeRes dst fz K r
      | none => False
    | _ => False
  | .call p xs => match σ.byvals hid (xs.map σ.get) with
    | some (ds, fz) => primOk p ds ∧ takeRes dst fz K (primVal p ds)
    | none => False
  | io => evalV hid σ (fun v fz => K v none fz) io

/-- a slot's value, and perhaps an own object of its name -/
def St.made (σ : St) (dst : Nat) (v : AV) (s : Option Arr) : St := ⟨upd σ.T dst v, match s with
  | some arr => upd σ.H dst (some arr)
  | none => σ.H⟩

section
variable {P : Program} {w0 : Start} {Pr0 : Nat → Nat → Prop} {n : Nat} {μ : Nat → Option Nat} {σ : St} {a : Act} {w : World} {Pr : Nat → Nat → Prop} {H : Nat → Option Arr}

/-- a new block becomes an own object -/
theorem SR.adopt (h : SR w0 Pr0 n μ σ a w) {w' : World} (hb : Below w.heap.size w w') {g : Nat} (hg : w.heap.size ≤ g) {d : Nat} (hd1 : d < 1000) (hd : σ.H d = none) (hT : ∀ t, (σ.T t).name ≠ some d) {arr : Arr} {cs : Array Value} (hp : arr.prot = 0) (hz : 0 < arr.z)
    (hones : ∀ x, x ∈ arr.cells → x.cells.length = arr.z ∧ ∀ c, c ∈ x.cells → c.one = true) (hblk : w'.heap[g]? = some (.cells cs arr.ty (0, 0))) (hsz : arr.cells.length * arr.z ≤ cs.size)
    (hel : ∀ (i : Nat) (x : AV) (j : Nat) (c : AV), arr.cells[i]? = some x → x.cells[j]? = some c → ∃ u, cs[i * arr.z + j]? = some u ∧ VR (fun b o => PrOf w0 Pr0 μ σ.H b o ∧ b ≠ g) w' c u) :
    SR w0 Pr0 n (upd μ d (some g)) ⟨σ.T, upd σ.H d (some arr)⟩ a w' := by
  have hμd : μ d = none := by
    cases e : μ d with
    | none => rfl
    | some b => have := h.live d b e; rw [hd] at this; cases this
  have h' := h.grow hb
  have hne : ∀ r b, μ r = some b → b ≠ g := fun r b hr e => by have := (h.range r b hr).2; omega
  have kpr : ∀ b o, PrOf w0 Pr0 μ σ.H b o → b ≠ g → PrOf w0 Pr0 (upd μ d (some g)) (upd σ.H d (some arr)) b o := by
    intro b o hp hbg
    refine ⟨hp.1, fun r hr => ?_⟩
    by_cases e : r = d
    · subst e; rw [upd_same] at hr; cases hr; exact absurd rfl hbg
    · rw [upd_ne _ _ e] at hr ⊢; exact hp.2 r hr
  have k : Kept (PrOf w0 Pr0 μ σ.H) (PrOf w0 Pr0 (upd μ d (some g)) (upd σ.H d (some arr))) w w' :=
    ⟨hb.size, fun b o hlt hp => kpr b o hp (by omega), fun b o hlt _ => hb.cell (p := ⟨b, o, none⟩) hlt, fun b ms c hlt _ e => by rw [hb.block b hlt]; exact e⟩
  have k2 : Kept (fun b o => PrOf w0 Pr0 μ σ.H b o ∧ b ≠ g) (PrOf w0 Pr0 (upd μ d (some g)) (upd σ.H d (some arr))) w' w' :=
    ⟨Nat.le_refl _, fun b o _ hp => kpr b o hp.1 hp.2, fun _ _ _ _ => rfl, fun _ _ _ _ _ h => h⟩
  have tr : ∀ v u, v.name ≠ some d → TR (PrOf w0 Pr0 μ σ.H) μ σ.H w v u → TR (PrOf w0 Pr0 (upd μ d (some g)) (upd σ.H d (some arr))) (upd μ d (some g)) (upd σ.H d (some arr)) w' v u := by
    intro v u hn ht
    cases v with
    | und => trivial
    | own => exact ht
    | clom f r =>
      have hr : r ≠ d := fun e => hn (by rw [e]; rfl)
      intro ar har
      have har := (upd_ne σ.H _ hr).symm.trans har
      rw [upd_ne _ _ hr]
      exact ht ar har
    | mp r es =>
      have hr : r ≠ d := fun e => hn (by rw [e]; rfl)
      intro ar har
      have har := (upd_ne σ.H _ hr).symm.trans har
      rw [upd_ne _ _ hr]
      obtain ⟨b, ms, c, q1, q2, q3, q4⟩ := ht ar har
      exact ⟨b, ms, c, q1, q2, by rw [hb.block b (h.range r b q1).2]; exact q3, q4.kept k⟩
    | ptr r i f =>
      have hr : r ≠ d := fun e => hn (by rw [e]; rfl)
      intro ar har
      have har := (upd_ne σ.H _ hr).symm.trans har
      rw [upd_ne _ _ hr]
      exact ht ar har
    | rs r off len =>
      have hr : r ≠ d := fun e => hn (by rw [e]; rfl)
      intro ar har
      have har := (upd_ne σ.H _ hr).symm.trans har
      rw [upd_ne _ _ hr]
      rcases ht ar har with q | ⟨b, cap, cs', q1, q2, q3, q4⟩
      · exact .inl q
      · exact .inr ⟨b, cap, cs', q1, q2, by rw [hb.block b (h.range r b q1).2]; exact q3, q4⟩
    | _ => exact VR.kept k ht
  refine ⟨h'.below, fun r r' b hr hr' => ?_, fun r b hr => ?_, fun r b hr => ?_, h.size, fun t => tr _ _ (hT t) (h.tmp t), fun r ar har => ?_, h.defers, h.glob, h.small, fun v u hf => ⟨(h.frame v u hf).1, tr v u (fun e => by have := (h.frame v u hf).1 d e; omega) (h.frame v u hf).2⟩⟩
  · by_cases e : r = d
    · subst e; rw [upd_same] at hr; cases hr
      by_cases e' : r' = r
      · exact e'.symm
      · rw [upd_ne _ _ e'] at hr'; exact absurd rfl (hne r' _ hr')
    · rw [upd_ne _ _ e] at hr
      by_cases e' : r' = d
      · subst e'; rw [upd_same] at hr'; cases hr'; exact absurd rfl (hne r _ hr)
      · rw [upd_ne _ _ e'] at hr'; exact h.inj r r' b hr hr'
  · by_cases e : r = d
    · subst e; rw [upd_same] at hr; cases hr
      exact ⟨Nat.le_trans h.below.size hg, block_lt hblk⟩
    · rw [upd_ne _ _ e] at hr; exact h'.range r b hr
  · show (upd σ.H d (some arr) r).isSome
    by_cases e : r = d
    · subst e; rw [upd_same]; rfl
    · rw [upd_ne _ _ e] at hr ⊢; exact h.live r b hr
  · have har' : upd σ.H d (some arr) r = some ar := har
    by_cases e : r = d
    · subst e
      rw [upd_same] at har'
      cases har'
      refine ⟨hz, by rw [hp]; exact Nat.zero_le _, hones, ?_⟩
      rw [upd_same]
      exact .inr ⟨cs, hblk, hsz, fun i x j c hi hj => let ⟨u, q1, q2⟩ := hel i x j c hi hj; ⟨u, q1, q2.kept k2⟩⟩
    · rw [upd_ne _ _ e] at har'
      obtain ⟨q1, q2, q3, q4⟩ := h.obj r ar har'
      refine ⟨q1, q2, q3, ?_⟩
      rw [upd_ne _ _ e]
      cases hr : μ r with
      | none => rw [hr] at q4; exact q4
      | some b =>
        rw [hr] at q4
        rcases q4 with ⟨p0, ms, c, p1⟩ | ⟨cs', p1, p2, p3⟩
        · exact .inl ⟨p0, ms, c, by rw [hb.block b (h.range r b hr).2]; exact p1⟩
        exact .inr ⟨cs', by rw [hb.block b (h.range r b hr).2]; exact p1, p2, fun i x j c hi hj => let ⟨u, m1, m2⟩ := p3 i x j c hi hj; ⟨u, m1, m2.kept k⟩⟩

/-- a nil slice becomes an own object -/
theorem SR.adoptNil (h : SR w0 Pr0 n μ σ a w) {d : Nat} (hd1 : d < 1000) (hd : σ.H d = none) (hT : ∀ t, (σ.T t).name ≠ some d) {z : Nat} {ty : TypeId} (hz : 0 < z) :
    SR w0 Pr0 n μ ⟨σ.T, upd σ.H d (some ⟨z, ty, [], 0⟩)⟩ a w ∧ μ d = none := by
  have hμd : μ d = none := by
    cases e : μ d with
    | none => rfl
    | some b => have := h.live d b e; rw [hd] at this; cases this
  have k : Kept (PrOf w0 Pr0 μ σ.H) (PrOf w0 Pr0 μ (upd σ.H d (some ⟨z, ty, [], 0⟩))) w w := by
    refine ⟨Nat.le_refl _, fun b o _ hp => ⟨hp.1, fun r hr => ?_⟩, fun _ _ _ _ => rfl, fun _ _ _ _ _ h => h⟩
    have e : r ≠ d := fun e => by rw [e, hμd] at hr; cases hr
    rw [upd_ne _ _ e]; exact hp.2 r hr
  have tr : ∀ v u, v.name ≠ some d → TR (PrOf w0 Pr0 μ σ.H) μ σ.H w v u → TR (PrOf w0 Pr0 μ (upd σ.H d (some ⟨z, ty, [], 0⟩))) μ (upd σ.H d (some ⟨z, ty, [], 0⟩)) w v u := by
    intro v u hn ht
    cases v with
    | und => trivial
    | own => exact ht
    | clom f r =>
      have hr : r ≠ d := fun e => hn (by rw [e]; rfl)
      intro ar har
      have har := (upd_ne σ.H _ hr).symm.trans har
      exact ht ar har
    | mp r es =>
      have hr : r ≠ d := fun e => hn (by rw [e]; rfl)
      intro ar har
      have har := (upd_ne σ.H _ hr).symm.trans har
      obtain ⟨b, ms, c, q1, q2, q3, q4⟩ := ht ar har
      exact ⟨b, ms, c, q1, q2, q3, q4.kept k⟩
    | ptr r i f =>
      have hr : r ≠ d := fun e => hn (by rw [e]; rfl)
      intro ar har
      have har := (upd_ne σ.H _ hr).symm.trans har
      exact ht ar har
    | rs r off len =>
      have hr : r ≠ d := fun e => hn (by rw [e]; rfl)
      intro ar har
      have har := (upd_ne σ.H _ hr).symm.trans har
      exact ht ar har
    | _ => exact VR.kept k ht
  refine ⟨⟨h.below, h.inj, h.range, fun r b hr => ?_, h.size, fun t => tr _ _ (hT t) (h.tmp t), fun r ar har => ?_, h.defers, h.glob, h.small, fun v u hf => ⟨(h.frame v u hf).1, tr v u (fun e => by have := (h.frame v u hf).1 d e; omega) (h.frame v u hf).2⟩⟩, hμd⟩
  · have e : r ≠ d := fun e => by rw [e, hμd] at hr; cases hr
    show (upd σ.H d _ r).isSome
    rw [upd_ne _ _ e]; exact h.live r b hr
  · have har' : upd σ.H d (some ⟨z, ty, [], 0⟩) r = some ar := har
    by_cases e : r = d
    · subst e
      rw [upd_same] at har'
      cases har'
      refine ⟨hz, Nat.le_refl _, by simp, ?_⟩
      rw [hμd]
    · rw [upd_ne _ _ e] at har'
      obtain ⟨q1, q2, q3, q4⟩ := h.obj r ar har'
      refine ⟨q1, q2, q3, ?_⟩
      cases hr : μ r with
      | none => rw [hr] at q4; exact q4
      | some b =>
        rw [hr] at q4
        rcases q4 with q4 | ⟨cs', p1, p2, p3⟩
        · exact .inl q4
        exact .inr ⟨cs', p1, p2, fun i x j c hi hj => let ⟨u, m1, m2⟩ := p3 i x j c hi hj; ⟨u, m1, m2.kept k⟩⟩
end
end Go.Proofs.YtkdbphhekpdmhaaDoor
