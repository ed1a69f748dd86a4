/-
  What all walks of this seat lean on: frames ('Below'), slices that read as lists, and the last step of a law's row.
-/
import Derived.Test.YtcccaomnehdlbaaDoorRows
import Derived.WalkKit
import Derived.ProofKit
import Derived.OpenShut
import Derived.ShutString
import Derived.JoinedCond
import Derived.WalkSpells
import Derived.WalkLawsBesides
import Derived.Deep.QuietTactic
import Derived.BigQuiet
import Derived.Lib.Hide
import Derived.Lib.MinMax
import Derived.Deep.Slices
import Derived.Deep.Fields
import Derived.ChangeSame
namespace Go.Proofs.YtcccaomnehdlbaaDoor
open Go.ChangeShapes Go.WideShapes Go.ChangeAt Go.RowKit Go.Deep
open Go.ChangeMaps (open_string shut_string)
set_option linter.unusedVariables false

theorem ownK : ownKnob Tryd.prog.godebug = none := by kernel_rfl
theorem laidOut : laidOutB Tryd.prog = true := by kernel_rfl

/-- a draw or more behind a frame -/
theorem below_drewN {B : Nat} {a w : World} (h : Below B a w) (n : Nat) : Below B a (w.drewN n) := ⟨h.os, h.tape, h.output, h.size, h.block⟩
theorem below_of_drewN (B : Nat) (w : World) (n : Nat) : Below B w (w.drewN n) := ⟨rfl, rfl, rfl, Nat.le_refl _, fun _ _ => rfl⟩

/-- what a world's old cells and marks read as behind a frame, as rules of the walk -/
theorem bcell {B : Nat} {W w1 : World} (hb : Below B W w1) : (∀ b o, b < B → w1.cell? ⟨b, o, none⟩ = W.cell? ⟨b, o, none⟩) ∧ (∀ b o, b < B → w1.frozen? ⟨b, o, none⟩ = W.frozen? ⟨b, o, none⟩) :=
  ⟨fun b o h => hb.cell (p := ⟨b, o, none⟩) h, fun b o h => hb.frozen (p := ⟨b, o, none⟩) h⟩

/-- a contract that only draws, met in a quiet region of a world that has drawn already -/
theorem q_add {P : Program} {f : FuncId} {args : Array Value} {w : World} {a n : Nat} {v : Value}
    (h : Calls P f args (w.drewN (a + n)) fun e w' => e = .returned v ∧ ∃ m, w' = (w.drewN (a + n)).drewN m) :
    Calls P f args (w.drewN (a + n)) fun e w'' => e = .returned v ∧ ∃ m, w'' = w.drewN (a + m) :=
  h.mono fun _ _ ⟨he, m, hm⟩ => ⟨he, n + m, by rw [hm, World.drewN_drewN, Nat.add_assoc]⟩
theorem q_same {P : Program} {f : FuncId} {args : Array Value} {w : World} {a n : Nat} {v : Value}
    (h : Calls P f args (w.drewN (a + n)) fun e w' => e = .returned v ∧ w.drewN (a + n) = w') :
    Calls P f args (w.drewN (a + n)) fun e w'' => e = .returned v ∧ ∃ m, w'' = w.drewN (a + m) :=
  h.mono fun _ _ ⟨he, hm⟩ => ⟨he, n, hm.symm⟩

section
variable {H : Type} {enc : TypeId × Value → H} {P : Program}

/-- A LAW's LAST STEP: it returned true, below the old heap nothing has turned: its row's 'post'. -/
theorem post_of_below {f : Func} {s : ChangeSpec} {apart fresh handsOn again : Bool} {W W' : World} {args : Array Value} {v : Value} {ds gs : List (DataW H)} {before pa pv : List MemPlace}
    (hW : DataW.Whole enc P f.params.toList s.vars apart W args.toList ds gs before)
    (hres : ∀ (b : Nat) (sp : Nat → Bool) (hd : Bool), DataW.TrodAll enc P W' b sp hd f.resultTypes.toList (v.resultList f.resultTypes.size) (s.fn H (ds ++ gs)).results [])
    (hargs : ∀ sp : Nat → Bool, (∀ p ∈ before, sp p.block = true) → DataW.TrodAll enc P W' 0 sp true f.params.toList args.toList (s.fn H (ds ++ gs)).args pa)
    (hvars : ∀ sp : Nat → Bool, (∀ p ∈ before, sp p.block = true) → DataW.TrodVars enc P W' sp s.vars (s.fn H (ds ++ gs)).vars pv)
    (hps : before = pa ++ pv) (hb : Below W.heap.size W W')
    (hok : ∀ (j : Nat) (t : TypeId) (r : Value), f.resultTypes[j]? = some t → (v.resultList f.resultTypes.size)[j]? = some r → Value.okWide P W' .any 0 t r) :
    s.post enc P f apart fresh handsOn again W args v W' := by
  have hlt : ∀ p ∈ before, p.block < W.heap.size := fun p hp => hW.lt p hp
  have hold : ∀ p ∈ before, (fun b => decide (b < W.heap.size)) p.block = true := fun p hp => by simpa using hlt p hp
  refine ⟨ds, gs, before, [], pa, pv, hW, hres _ _ _, hargs _ hold, hvars _ hold, World.keptBut_mono (fun p hp => ⟨hp, ?_⟩) (hb.frame (· ∈ before)), fun _ => ?_⟩
  · rw [hps, List.mem_append] at hp
    exact Or.inr hp
  · obtain ⟨_, _, _, _, _, hz, hn⟩ := hW
    refine ⟨hok, _, _, ([] ++ pa) ++ pv, ⟨[] ++ pa, pv, trodAll_append (hargs _ (fun _ _ => rfl)) (hres _ _ _), hvars _ (fun _ _ => rfl), rfl, ?_, ?_⟩, ?_⟩
    · intro b off hp
      have hin : MemPlace.cell b off ∈ before := by rw [hps]; simpa using hp
      rw [hb.frozen (hlt _ hin)]
      exact hz b off hin
    · intro ha
      have := hn ha
      rw [hps] at this
      simpa using this
    · intro p hp _
      rw [hps]
      simpa using hp

/-- arguments read again behind the call, under whatever mode shows their places' spare -/
theorem trodAll_stays (hl : laidOutB P = true) {W W' : World} {sp : Nat → Bool} (hb : Below W.heap.size W W') :
    ∀ {ts : List TypeId} {vs : List Value} {ds : List (DataW H)} {ps : List MemPlace}, (∀ t ∈ ts, P.readableRec t = true ∧ t < P.types.size) →
      DataW.TrodAll enc P W 0 (fun _ => true) true ts vs ds ps → (∀ x ∈ ps, x.block < W.heap.size) → (∀ x ∈ ps, sp x.block = true) → DataW.TrodAll enc P W' 0 sp true ts vs ds ps
  | [], [], [], _, _, h, _, _ => h
  | t :: ts, v :: vs, d :: ds, ps, ht, ⟨p, q, h1, h2, e⟩, hlt, hsp => by
    subst e
    refine ⟨p, q, WideElems.Trod_stays hl (ht t (by simp)).1 (ht t (by simp)).2 h1 (fun x hx => hb.same (hlt x (by simp [hx]))) (fun x hx => hsp x (by simp [hx])), ?_, rfl⟩
    exact trodAll_stays hl hb (fun t' h' => ht t' (by simp [h'])) h2 (fun x hx => hlt x (by simp [hx])) (fun x hx => hsp x (by simp [hx]))
  | [], _ :: _, _, _, _, h, _, _ => by simp [DataW.TrodAll] at h
  | [], [], _ :: _, _, _, h, _, _ => by simp [DataW.TrodAll] at h
  | _ :: _, [], _, _, _, h, _, _ => by simp [DataW.TrodAll] at h
  | _ :: _, _ :: _, [], _, _, h, _, _ => by simp [DataW.TrodAll] at h

/-- THE SAME FOR A LAW: its one result is the bool true, its arguments read as they did. -/
theorem post_law (hl : laidOutB P = true) {f : Func} {s : ChangeSpec} {W W' : World} {args : Array Value} {ds gs : List (DataW H)} {before : List MemPlace}
    (hW : DataW.Whole enc P f.params.toList s.vars false W args.toList ds gs before)
    (hv : s.vars = []) (hres : (s.fn H (ds ++ gs)).results = [.lit (.bool true)]) (hargs : (s.fn H (ds ++ gs)).args = ds) (hvs : (s.fn H (ds ++ gs)).vars = [])
    {t : TypeId} (hr : f.resultTypes = #[t]) (ht : P.underlying t = some .bool)
    (hts : ∀ t ∈ f.params.toList, P.readableRec t = true ∧ t < P.types.size) (hb : Below W.heap.size W W') :
    s.post enc P f false true false false W args (.bool true) W' := by
  obtain ⟨p, q, hA, hV, hpq, hz, hn⟩ := id hW
  have hgq : gs = [] ∧ q = [] := by
    rw [hv] at hV
    cases gs with
    | nil => exact ⟨rfl, hV⟩
    | cons g gs => simp [DataW.TrodVars] at hV
  obtain ⟨hg, hq⟩ := hgq
  have hpb : before = p := by rw [hpq, hq, List.append_nil]
  refine post_of_below (pa := p) (pv := []) hW ?_ ?_ ?_ (by rw [hpb, List.append_nil]) hb ?_
  · intro b sp hd
    rw [hres, hr]
    exact trodAll_cons_mk (shut_bool ht true) trodAll_mk0
  · intro sp hsp
    rw [hargs]
    exact trodAll_stays hl hb hts hA (fun x hx => hW.lt x (by rw [hpb]; exact hx)) (fun x hx => hsp x (by rw [hpb]; exact hx))
  · intro sp _
    rw [hv, hvs]
    rfl
  · exact ok_one hr rfl (okWide_bool_mk ht true)
end


/-! ### Slices that read as lists -/

/-- how an element lies in memory: so many cells -/
structure Enc (α : Type) where
  size : Nat
  cells : α → List Value
  ok : α → Prop
  pos : 0 < size
  len : ∀ a, (cells a).length = size
  one : ∀ a, ∀ u ∈ cells a, u.oneCell' = true

/-- a list's cells, one behind the other -/
def Enc.flat {α : Type} (E : Enc α) (l : List α) : List Value := l.flatMap E.cells

theorem Enc.flat_length {α : Type} (E : Enc α) : ∀ l : List α, (E.flat l).length = l.length * E.size
  | [] => by simp [Enc.flat]
  | a :: l => by
    have := Enc.flat_length E l
    unfold Enc.flat at *
    rw [List.flatMap_cons, List.length_append, this, E.len, List.length_cons, Nat.succ_mul]; omega

theorem Enc.flat_append {α : Type} (E : Enc α) (l m : List α) : E.flat (l ++ m) = E.flat l ++ E.flat m := by simp [Enc.flat]
theorem Enc.flat_one {α : Type} (E : Enc α) (a : α) : E.flat [a] = E.cells a := by simp [Enc.flat]
theorem Enc.flat_oneCell {α : Type} (E : Enc α) (l : List α) : ∀ u ∈ E.flat l, u.oneCell' = true := by
  intro u hu
  obtain ⟨a, _, ha⟩ := List.mem_flatMap.1 hu
  exact E.one a u ha

theorem Enc.flat_get {α : Type} (E : Enc α) : ∀ (l : List α) (i : Nat) (a : α), l[i]? = some a → ∀ j, j < E.size → (E.flat l)[i * E.size + j]? = (E.cells a)[j]?
  | [], i, a, hi, j, hj => by simp at hi
  | x :: l, 0, a, hi, j, hj => by
    simp at hi; subst hi
    unfold Enc.flat
    rw [List.flatMap_cons, List.getElem?_append_left (by rw [E.len]; omega), Nat.zero_mul, Nat.zero_add]
  | x :: l, i + 1, a, hi, j, hj => by
    have ih := Enc.flat_get E l i a (by simpa using hi) j hj
    unfold Enc.flat at *
    rw [List.flatMap_cons, List.getElem?_append_right (by rw [E.len, Nat.succ_mul]; omega), E.len, ← ih]
    rw [show (i + 1) * E.size + j - E.size = i * E.size + j by rw [Nat.succ_mul]; omega]

theorem Enc.flat_at {α : Type} (E : Enc α) {l : List α} {j : Nat} {u : Value} (h : (E.flat l)[j]? = some u) :
    ∃ a, l[j / E.size]? = some a ∧ (E.cells a)[j % E.size]? = some u := by
  have hj : j < l.length * E.size := by rw [← E.flat_length]; exact (List.getElem?_eq_some_iff.1 h).1
  have hi : j / E.size < l.length := Nat.div_lt_of_lt_mul (by rw [Nat.mul_comm]; exact hj)
  refine ⟨l[j / E.size], List.getElem?_eq_getElem hi, ?_⟩
  have := E.flat_get l (j / E.size) _ (List.getElem?_eq_getElem hi) (j % E.size) (Nat.mod_lt _ E.pos)
  rw [← this, show j / E.size * E.size + j % E.size = j by rw [Nat.mul_comm]; exact Nat.div_add_mod j E.size]
  exact h

/-- v is a slice whose elements read as l -/
def Sl {α : Type} (E : Enc α) (w : World) (v : Value) (l : List α) : Prop :=
  ∃ (A : Option Addr) (cap : Nat), v = .slice A l.length cap ∧ l.length ≤ cap ∧ cap ≤ maxLen ∧ l.length ≤ 281474976710656 ∧ (∀ (i : Nat) (a : α), l[i]? = some a → E.ok a) ∧
    (0 < l.length → ∃ b off, A = some ⟨b, off, none⟩ ∧ b < w.heap.size ∧ ∀ (j : Nat) (u : Value), (E.flat l)[j]? = some u → w.cell? ⟨b, off + j, none⟩ = some u)

theorem Sl.mono {α : Type} {E : Enc α} {w w' : World} {v : Value} {l : List α} (h : Sl E w v l) {B : Nat} (hb : Below B w w') (hB : w.heap.size ≤ B) : Sl E w' v l := by
  obtain ⟨A, cap, h1, h2, h3, hL, h4, h5⟩ := h
  refine ⟨A, cap, h1, h2, h3, hL, h4, fun h0 => ?_⟩
  obtain ⟨b, off, e, hlt, hc⟩ := h5 h0
  exact ⟨b, off, e, Nat.lt_of_lt_of_le hlt hb.size, fun j u hj => by rw [hb.cell (p := ⟨b, _, none⟩) (Nat.lt_of_lt_of_le hlt hB)]; exact hc j u hj⟩

theorem Sl.nil {α : Type} (E : Enc α) (w : World) : Sl E w (.slice none 0 0) ([] : List α) :=
  ⟨none, 0, rfl, Nat.le_refl _, Nat.zero_le _, by simp, by simp, fun h => absurd h (by simp)⟩

theorem Sl.drewN {α : Type} {E : Enc α} {w : World} {v : Value} {l : List α} (h : Sl E w v l) (n : Nat) : Sl E (w.drewN n) v l := h

/-- the call owns a slice that reads as l, in blocks from 'base' on -/
def Own {α : Type} (E : Enc α) (t : TypeId) (w : World) (base : Nat) (v : Value) (l : List α) : Prop := w.ownsRow base t E.size v l.length (E.flat l)

theorem Own.drewN {α : Type} {E : Enc α} {t : TypeId} {w : World} {base : Nat} {v : Value} {l : List α} (h : Own E t w base v l) (n : Nat) : Own E t (w.drewN n) base v l := h

/-- how long a slice in a slot is -/
def lenOf : Value → Nat | .slice _ n _ => n | _ => 0
theorem Own.lenOf {α : Type} {E : Enc α} {t : TypeId} {w : World} {base : Nat} {v : Value} {l : List α} (h : Own E t w base v l) : lenOf v = l.length := by
  rcases h.2 with ⟨rfl, hn⟩ | ⟨g, cap, cur, rfl, _⟩
  · rw [hn]; rfl
  · rfl
theorem Own.shape {α : Type} {E : Enc α} {t : TypeId} {w : World} {base : Nat} {v : Value} {l : List α} (h : Own E t w base v l) : ∃ A cap, v = .slice A l.length cap := by
  rcases h.2 with ⟨rfl, hn⟩ | ⟨g, cap, cur, rfl, _⟩
  · exact ⟨none, 0, by rw [hn]⟩
  · exact ⟨_, cap, rfl⟩

/-- a slice that the call owns reads as its row -/
theorem Sl.of_own {α : Type} {E : Enc α} {w : World} {base : Nat} {t : TypeId} {v : Value} {l : List α} (hok : ∀ (i : Nat) (a : α), l[i]? = some a → E.ok a) (hL : l.length ≤ 281474976710656)
    (h : Own E t w base v l) : Sl E w v l := by
  obtain ⟨h1, h2⟩ := h
  rcases h2 with ⟨rfl, hn⟩ | ⟨g, cap, cur, rfl, hg, hh, hnc, hcm, hsz, hxs⟩
  · have : l = [] := List.length_eq_zero_iff.1 hn
    subst this
    exact Sl.nil E w
  · refine ⟨_, cap, rfl, hnc, hcm, hL, hok, fun h0 => ⟨g, 0, rfl, ?_, ?_⟩⟩
    · rcases Nat.lt_or_ge g w.heap.size with h | h
      · exact h
      · rw [Array.getElem?_eq_none h] at hh; cases hh
    · intro j u hj
      rw [← hxs, List.getElem?_take] at hj
      split at hj
      · rw [Nat.zero_add]
        show w.cell? _ = _
        simp only [World.cell?, hh]
        simpa using hj
      · cases hj

theorem maxLen_eq : maxLen = 9223372036854775807 := rfl

def strE : Enc ByteArray := ⟨1, fun s => [.string s], fun s => s.size ≤ 281474976710656, by decide, fun _ => rfl, fun a u hu => by simp at hu; subst hu; rfl⟩
def intE : Enc Int := ⟨1, fun n => [.int .i64 n], fun n => -9223372036854775808 ≤ n ∧ n ≤ 9223372036854775807, by decide, fun _ => rfl, fun a u hu => by simp at hu; subst hu; rfl⟩

/-- what an element of one cell lies at -/
theorem Sl.cell1 {α : Type} {E : Enc α} (hs : E.size = 1) {w : World} {b off : Nat} {l : List α} (hc : ∀ (j : Nat) (u : Value), (E.flat l)[j]? = some u → w.cell? ⟨b, off + j, none⟩ = some u)
    {i : Nat} {a : α} {u : Value} (hi : l[i]? = some a) (hu : E.cells a = [u]) : w.cell? ⟨b, off + i, none⟩ = some u := by
  refine hc i u ?_
  have := E.flat_get l i a hi 0 (by omega)
  rw [hs, Nat.mul_one, Nat.add_zero] at this
  rw [this, hu]; rfl

/-- what an element's cell number j lies at -/
theorem Sl.cellAt {α : Type} {E : Enc α} {w : World} {b off : Nat} {l : List α} (hc : ∀ (j : Nat) (u : Value), (E.flat l)[j]? = some u → w.cell? ⟨b, off + j, none⟩ = some u)
    {i : Nat} {a : α} (hi : l[i]? = some a) {j : Nat} {u : Value} (hu : (E.cells a)[j]? = some u) : w.cell? ⟨b, off + (i * E.size + j), none⟩ = some u := by
  refine hc _ u ?_
  rw [E.flat_get l i a hi j (by rw [← E.len a]; exact (List.getElem?_eq_some_iff.1 hu).1), hu]

theorem Enc.flat_one_get {α : Type} (E : Enc α) (hs : E.size = 1) {l : List α} {i : Nat} {a : α} {u : Value} (hi : l[i]? = some a) (hu : E.cells a = [u]) : (E.flat l)[i]? = some u := by
  have := E.flat_get l i a hi 0 (by omega)
  rw [hs, Nat.mul_one, Nat.add_zero] at this
  rw [this, hu]; rfl

theorem Enc.flat_set1 {α : Type} (E : Enc α) (hs : E.size = 1) (a : α) (u : Value) (hu : E.cells a = [u]) : ∀ (l : List α) (i : Nat), E.flat (l.set i a) = (E.flat l).set i u
  | [], i => by simp [Enc.flat]
  | x :: l, 0 => by
    obtain ⟨v, hv⟩ : ∃ v, E.cells x = [v] := by
      have := E.len x
      rw [hs] at this
      match h : E.cells x, this with
      | [v], _ => exact ⟨v, rfl⟩
    simp [Enc.flat, hv, hu]
  | x :: l, i + 1 => by
    obtain ⟨v, hv⟩ : ∃ v, E.cells x = [v] := by
      have := E.len x
      rw [hs] at this
      match h : E.cells x, this with
      | [v], _ => exact ⟨v, rfl⟩
    have ih := Enc.flat_set1 E hs a u hu l i
    unfold Enc.flat at *
    simp [hv, ih]

/-- an element of a row that the call owns -/
theorem Own.cell1 {α : Type} {E : Enc α} (hs : E.size = 1) {t : TypeId} {w : World} {base g cap : Nat} {l : List α} (h : Own E t w base (.slice (some ⟨g, 0, none⟩) l.length cap) l)
    {i : Nat} {a : α} {u : Value} (hi : l[i]? = some a) (hu : E.cells a = [u]) : w.cell? ⟨g, i, none⟩ = some u := by
  have hl : i < l.length := (List.getElem?_eq_some_iff.1 hi).1
  rw [World.ownsRow.cellAt h i (by rw [hs]; omega)]
  exact E.flat_one_get hs hi hu
theorem Own.frozen1 {α : Type} {E : Enc α} {t : TypeId} {w : World} {base g n cap : Nat} {l : List α} (h : Own E t w base (.slice (some ⟨g, 0, none⟩) n cap) l) (hn : n = l.length) (i : Nat) : w.frozen? ⟨g, i, none⟩ = false := by
  subst hn
  exact World.ownsRow.frozenAt h i
/-- a store into it -/
theorem Own.stored1 {α : Type} {E : Enc α} (hs : E.size = 1) {t : TypeId} {w : World} {base g cap : Nat} {l : List α} (h : Own E t w base (.slice (some ⟨g, 0, none⟩) l.length cap) l)
    (i : Nat) {a : α} {u : Value} (hu : E.cells a = [u]) : Own E t (w.setCell ⟨g, i, none⟩ u) base (.slice (some ⟨g, 0, none⟩) (l.set i a).length cap) (l.set i a) := by
  have h1 := (World.ownsRow.stored h i u).1
  show World.ownsRow _ _ _ _ _ _ _
  rw [E.flat_set1 hs a u hu, List.length_set]
  exact h1

theorem Own.mono {α : Type} {E : Enc α} {t : TypeId} {w w' : World} {base : Nat} {v : Value} {l : List α} (h : Own E t w base v l) (hb : Below w.heap.size w w') : Own E t w' base v l := by
  refine ⟨h.1, ?_⟩
  rcases h.2 with h' | ⟨g, cap, cur, h1, h2, h3, h4⟩
  · exact .inl h'
  · refine .inr ⟨g, cap, cur, h1, h2, ?_, h4⟩
    rw [hb.block g]
    · exact h3
    · rcases Nat.lt_or_ge g w.heap.size with h | h
      · exact h
      · rw [Array.getElem?_eq_none h] at h3; cases h3

theorem flat_zeros (n : Nat) : intE.flat (List.replicate n 0) = List.replicate n (Value.int .i64 0) := by
  induction n with
  | zero => rfl
  | succ n ih =>
    unfold Enc.flat at *
    rw [List.replicate_succ, List.flatMap_cons, ih, List.replicate_succ]; rfl

/-- zeros that a make has laid -/
theorem Own.made_int {t : TypeId} {w : World} {base : Nat} {v : Value} {n : Nat} (h : w.ownsRow base t 1 v n (madeCells #[Value.int .i64 0] n).toList) : Own intE t w base v (List.replicate n 0) := by
  show World.ownsRow _ _ _ _ _ _ _
  rw [List.length_replicate]
  have e : intE.flat (List.replicate n 0) = (madeCells #[Value.int .i64 0] n).toList := by
    rw [toList_madeCells_one, flat_zeros]
  rw [e]; exact h

section
variable {H : Type} {enc : TypeId × Value → H} {P : Program} {w : World} {sp : Nat → Bool} {held : Bool}

theorem weightsAll_mem {e : TypeId} {l : List (DataW H)} (h : (DataW.weightsAll P e l).all (· ≤ reachBytes) = true) {d : DataW H} (hd : d ∈ l) : (d.weights P e).all (· ≤ reachBytes) = true := by
  induction l with
  | nil => cases hd
  | cons x l ih =>
    simp only [DataW.weightsAll, List.all_append, Bool.and_eq_true] at h
    rcases List.mem_cons.1 hd with rfl | hd
    · exact h.1
    · exact ih h.2 hd

theorem weightsEach_mem : ∀ {ts : List TypeId} {l : List (DataW H)}, (DataW.weightsEach P ts l).all (· ≤ reachBytes) = true → ∀ (j : Nat) (t : TypeId) (d : DataW H), ts[j]? = some t → l[j]? = some d → (d.weights P t).all (· ≤ reachBytes) = true
  | [], _, _, j, t, d, h1, _ => by simp at h1
  | _ :: _, [], _, j, t, d, _, h2 => by simp at h2
  | t :: ts, x :: l, h, j, t', d, h1, h2 => by
    simp only [DataW.weightsEach, List.all_append, Bool.and_eq_true] at h
    cases j with
    | zero => simp at h1 h2; subst h1; subst h2; exact h.1
    | succ j => exact weightsEach_mem h.2 j t' d (by simpa using h1) (by simpa using h2)

theorem str_reach {s : ByteArray} {e : TypeId} (h : ((DataW.lit (H := H) (.string s.data.toList)).weights P e).all (· ≤ reachBytes) = true) : s.size ≤ 281474976710656 := by
  simp only [DataW.weights, List.all_cons, List.all_nil, Bool.and_true, decide_eq_true_eq, Array.length_toList] at h
  exact Nat.le_trans h (by decide)

/-- a slice that came in, of elements of so many cells: 'hel' says what an element's cells read as -/
theorem Sl.of_trod {α : Type} [Inhabited α] {E : Enc α} {Q : α → Prop} {t e : TypeId} {fuel : Nat} {v : Value} {x : DataW H × List MemPlace} (ht : P.underlying t = some (.slice e)) (hC : P.cellsOf e = E.size)
    (hel : ∀ (n : Nat) (cs' : List Value) (y : DataW H × List MemPlace), DataW.trod enc P w 0 sp held n e cs' = some y → (y.1.weights P e).all (· ≤ reachBytes) = true → cs'.length = E.size → ∃ a : α, cs' = E.cells a ∧ E.ok a ∧ Q a)
    (hbz : 1 ≤ P.bytesOf e) (hw : (x.1.weights P t).all (· ≤ reachBytes) = true) (h : DataW.trod enc P w 0 sp held fuel t [v] = some x) :
    ∃ l : List α, Sl E w v l ∧ ∀ (i : Nat) (a : α), l[i]? = some a → Q a := by
  rcases open_slice ht h with ⟨hv, _⟩ | ⟨a, len, cap, m, n, D, Pl, hv, _, hl, hm, hmm, hx, hi⟩
  · simp at hv; subst hv
    exact ⟨[], Sl.nil _ _, by simp⟩
  · simp at hv; subst hv
    have hlm : len ≤ m := by rw [hmm]; split <;> omega
    rw [hC] at hi
    rw [hx] at hw
    simp only [DataW.weights, ht, List.all_cons, Bool.and_eq_true, decide_eq_true_eq, List.length_map, List.length_range, List.all_append] at hw
    have hlr : len ≤ reachBytes := Nat.le_trans (Nat.le_trans (Nat.le_add_right len (m - len)) (Nat.le_mul_of_pos_right _ hbz)) hw.1
    have hwi : ∀ i, i < len → ((D i).weights P e).all (· ≤ reachBytes) = true := fun i hil => weightsAll_mem hw.2.1 (List.mem_map.2 ⟨i, List.mem_range.2 hil, rfl⟩)
    have each : ∀ i, i < len → ∃ y : α, w.cells? 0 (a.add (i * E.size)) E.size = some (E.cells y) ∧ E.ok y ∧ Q y := fun i him => by
      obtain ⟨cs', h1, h2⟩ := hi i (by omega)
      obtain ⟨_, hlen, _⟩ := World.cells?_some h1
      obtain ⟨y, rfl, h3, h4⟩ := hel _ _ _ h2 (hwi i him) hlen
      exact ⟨y, h1, h3, h4⟩
    obtain ⟨S, hS⟩ := choose_lt each
    have hL : ((List.range len).map S).length = len := by simp
    have hget : ∀ (i : Nat) (y : α), ((List.range len).map S)[i]? = some y → i < len ∧ y = S i := by
      intro i y hy
      rw [List.getElem?_map] at hy
      by_cases hlt : i < len
      · rw [List.getElem?_range hlt] at hy; simp at hy
        exact ⟨hlt, hy.symm⟩
      · rw [List.getElem?_eq_none (by simp; omega)] at hy; cases hy
    have hcell : ∀ i, i < len → ∀ (j : Nat) (u : Value), (E.cells (S i))[j]? = some u → w.cell? (a.add (i * E.size + j)) = some u := by
      intro i hil j u hj
      obtain ⟨_, hlen, hat⟩ := World.cells?_some (hS i (by omega)).1
      have hjl : j < E.size := by rw [← hlen]; exact (List.getElem?_eq_some_iff.1 hj).1
      rw [← Go.Deep.add_add, hat j hjl, hj]
    refine ⟨(List.range len).map S, ⟨some a, cap, by rw [hL], by omega, hm, by rw [hL]; exact Nat.le_trans hlr (by decide), ?_, ?_⟩, ?_⟩
    · intro i y hy
      obtain ⟨hlt, rfl⟩ := hget i y hy
      exact (hS i (by omega)).2.1
    · intro h0
      have h0' : 0 < len := by omega
      have hpos := E.pos
      obtain ⟨ab, ao, asp⟩ := a
      obtain ⟨_, hlen, _⟩ := World.cells?_some (hS 0 (by omega)).1
      have hu : (E.cells (S 0))[0]? = some ((E.cells (S 0))[0]'(by omega)) := List.getElem?_eq_getElem _
      have hc0 := hcell 0 h0' 0 _ hu
      have e0 : (⟨ab, ao, asp⟩ : Addr).add (0 * E.size + 0) = ⟨ab, ao, asp⟩ := by simp [Addr.add]
      rw [e0] at hc0
      have hsp : asp = none := by
        cases asp with
        | none => rfl
        | some k =>
          simp only [World.cell?] at hc0
          split at hc0
          · simp at hc0
          · cases hc0
      subst hsp
      refine ⟨ab, ao, rfl, block_lt_of_cell hc0, ?_⟩
      intro j u hj
      obtain ⟨y, hy, hu⟩ := E.flat_at hj
      obtain ⟨hlt, rfl⟩ := hget _ y hy
      have := hcell _ hlt _ u hu
      rw [show j / E.size * E.size + j % E.size = j by rw [Nat.mul_comm]; exact Nat.div_add_mod j E.size] at this
      have e : (⟨ab, ao, none⟩ : Addr).add j = ⟨ab, ao + j, none⟩ := by
        unfold Addr.add; split
        · rename_i h; rw [h]; rfl
        · rfl
      rwa [e] at this
    · intro i y hy
      obtain ⟨hlt, rfl⟩ := hget i y hy
      exact (hS i (by omega)).2.2

theorem one_of_len {cs : List Value} (h : cs.length = 1) : ∃ v, cs = [v] := by
  match cs, h with
  | [v], _ => exact ⟨v, rfl⟩

/-- a []string that came in -/
theorem Sl.of_strs {t e : TypeId} {fuel : Nat} {v : Value} {x : DataW H × List MemPlace} (ht : P.underlying t = some (.slice e)) (he : P.underlying e = some .string) (hc : P.cellsOf e = 1) (hbz : 1 ≤ P.bytesOf e) (hw : (x.1.weights P t).all (· ≤ reachBytes) = true)
    (h : DataW.trod enc P w 0 sp held fuel t [v] = some x) : ∃ l : List ByteArray, Sl strE w v l := by
  obtain ⟨l, h1, _⟩ := Sl.of_trod (E := strE) (Q := fun _ => True) ht hc (fun n cs' y hy hwy hlen => by
    obtain ⟨v, rfl⟩ := one_of_len hlen
    obtain ⟨s, h1, h2, h3⟩ := DataW.trod_string he hy
    simp at h1; subst h1
    rw [h2] at hwy
    exact ⟨s, rfl, str_reach hwy, trivial⟩) hbz hw h
  exact ⟨l, h1⟩

/-- a []int that came in -/
theorem Sl.of_ints {t e : TypeId} {fuel : Nat} {v : Value} {x : DataW H × List MemPlace} (ht : P.underlying t = some (.slice e)) (he : P.underlying e = some (.int .i64)) (hc : P.cellsOf e = 1) (hbz : 1 ≤ P.bytesOf e) (hw : (x.1.weights P t).all (· ≤ reachBytes) = true)
    (h : DataW.trod enc P w 0 sp held fuel t [v] = some x) : ∃ l : List Int, Sl intE w v l := by
  obtain ⟨l, h1, _⟩ := Sl.of_trod (E := intE) (Q := fun _ => True) ht hc (fun n cs' y hy _ hlen => by
    obtain ⟨v, rfl⟩ := one_of_len hlen
    obtain ⟨s, h1, _, h3⟩ := DataW.trod_int he hy
    simp at h1; subst h1
    exact ⟨s, rfl, bounds_i64 h3, trivial⟩) hbz hw h
  exact ⟨l, h1⟩
end

end Go.Proofs.YtcccaomnehdlbaaDoor
