/-
  What all walks of this seat lean on: frames ('Below'), slices that read as lists, and the last step of a law's row.
-/
import Derived.Test.YtkdbphhekpdmhaaDoorRows
import Derived.WalkKit
import Derived.ProofKit
import Derived.OpenShut
import Derived.ShutString
import Derived.JoinedCond
import Derived.WalkSpells
import Derived.WalkLawsBesides
import Derived.Deep.QuietTactic
import Derived.BigQuiet
import Derived.Lib.Hide
import Derived.Lib.MinMax
import Derived.Deep.Slices
import Derived.Deep.Fields
import Derived.ChangeSame
namespace Go.Proofs.YtkdbphhekpdmhaaDoor
open Go.ChangeShapes Go.WideShapes Go.ChangeAt Go.RowKit Go.Deep
open Go.ChangeMaps (open_string shut_string)
set_option linter.unusedVariables false

theorem ownK : ownKnob Tryd.prog.godebug = none := by kernel_rfl
theorem laidOut : laidOutB Tryd.prog = true := by kernel_rfl

section
variable {H : Type} {enc : TypeId × Value → H} {P : Program}

/-- A LAW's LAST STEP: it returned true, below the old heap nothing has turned: its row's 'post'. -/
theorem post_of_below {f : Func} {s : ChangeSpec} {apart fresh handsOn again : Bool} {W W' : World} {args : Array Value} {v : Value} {ds gs : List (DataW H)} {before pa pv : List MemPlace}
    (hW : DataW.Whole enc P f.params.toList s.vars apart W args.toList ds gs before)
    (hres : ∀ (b : Nat) (sp : Nat → Bool) (hd : Bool), DataW.TrodAll enc P W' b sp hd f.resultTypes.toList (v.resultList f.resultTypes.size) (s.fn H (ds ++ gs)).results [])
    (hargs : ∀ sp : Nat → Bool, (∀ p ∈ before, sp p.block = true) → DataW.TrodAll enc P W' 0 sp true f.params.toList args.toList (s.fn H (ds ++ gs)).args pa)
    (hvars : ∀ sp : Nat → Bool, (∀ p ∈ before, sp p.block = true) → DataW.TrodVars enc P W' sp s.vars (s.fn H (ds ++ gs)).vars pv)
    (hps : before = pa ++ pv) (hb : Below W.heap.size W W')
    (hok : ∀ (j : Nat) (t : TypeId) (r : Value), f.resultTypes[j]? = some t → (v.resultList f.resultTypes.size)[j]? = some r → Value.okWide P W' .any 0 t r) :
    s.post enc P f apart fresh handsOn again W args v W' := by
  have hlt : ∀ p ∈ before, p.block < W.heap.size := fun p hp => hW.lt p hp
  have hold : ∀ p ∈ before, (fun b => decide (b < W.heap.size)) p.block = true := fun p hp => by simpa using hlt p hp
  refine ⟨ds, gs, before, [], pa, pv, hW, hres _ _ _, hargs _ hold, hvars _ hold, World.keptBut_mono (fun p hp => ⟨hp, ?_⟩) (hb.frame (· ∈ before)), fun _ => ?_⟩
  · rw [hps, List.mem_append] at hp
    exact Or.inr hp
  · obtain ⟨_, _, _, _, _, hz, hn⟩ := hW
    refine ⟨hok, _, _, ([] ++ pa) ++ pv, ⟨[] ++ pa, pv, trodAll_append (hargs _ (fun _ _ => rfl)) (hres _ _ _), hvars _ (fun _ _ => rfl), rfl, ?_, ?_⟩, ?_⟩
    · intro b off hp
      have hin : MemPlace.cell b off ∈ before := by rw [hps]; simpa using hp
      rw [hb.frozen (hlt _ hin)]
      exact hz b off hin
    · intro ha
      have := hn ha
      rw [hps] at this
      simpa using this
    · intro p hp _
      rw [hps]
      simpa using hp

/-- arguments read again behind the call, under whatever mode shows their places' spare -/
theorem trodAll_stays (hl : laidOutB P = true) {W W' : World} {sp : Nat → Bool} (hb : Below W.heap.size W W') :
    ∀ {ts : List TypeId} {vs : List Value} {ds : List (DataW H)} {ps : List MemPlace}, (∀ t ∈ ts, P.readableRec t = true ∧ t < P.types.size) →
      DataW.TrodAll enc P W 0 (fun _ => true) true ts vs ds ps → (∀ x ∈ ps, x.block < W.heap.size) → (∀ x ∈ ps, sp x.block = true) → DataW.TrodAll enc P W' 0 sp true ts vs ds ps
  | [], [], [], _, _, h, _, _ => h
  | t :: ts, v :: vs, d :: ds, ps, ht, ⟨p, q, h1, h2, e⟩, hlt, hsp => by
    subst e
    refine ⟨p, q, WideElems.Trod_stays hl (ht t (by simp)).1 (ht t (by simp)).2 h1 (fun x hx => hb.same (hlt x (by simp [hx]))) (fun x hx => hsp x (by simp [hx])), ?_, rfl⟩
    exact trodAll_stays hl hb (fun t' h' => ht t' (by simp [h'])) h2 (fun x hx => hlt x (by simp [hx])) (fun x hx => hsp x (by simp [hx]))
  | [], _ :: _, _, _, _, h, _, _ => by simp [DataW.TrodAll] at h
  | [], [], _ :: _, _, _, h, _, _ => by simp [DataW.TrodAll] at h
  | _ :: _, [], _, _, _, h, _, _ => by simp [DataW.TrodAll] at h
  | _ :: _, _ :: _, [], _, _, h, _, _ => by simp [DataW.TrodAll] at h

/-- THE SAME FOR A LAW: its one result is the bool true, its arguments read as they did. -/
theorem post_law (hl : laidOutB P = true) {f : Func} {s : ChangeSpec} {W W' : World} {args : Array Value} {ds gs : List (DataW H)} {before : List MemPlace}
    (hW : DataW.Whole enc P f.params.toList s.vars false W args.toList ds gs before)
    (hv : s.vars = []) (hres : (s.fn H (ds ++ gs)).results = [.lit (.bool true)]) (hargs : (s.fn H (ds ++ gs)).args = ds) (hvs : (s.fn H (ds ++ gs)).vars = [])
    {t : TypeId} (hr : f.resultTypes = #[t]) (ht : P.underlying t = some .bool)
    (hts : ∀ t ∈ f.params.toList, P.readableRec t = true ∧ t < P.types.size) (hb : Below W.heap.size W W') :
    s.post enc P f false true false false W args (.bool true) W' := by
  obtain ⟨p, q, hA, hV, hpq, hz, hn⟩ := id hW
  have hgq : gs = [] ∧ q = [] := by
    rw [hv] at hV
    cases gs with
    | nil => exact ⟨rfl, hV⟩
    | cons g gs => simp [DataW.TrodVars] at hV
  obtain ⟨hg, hq⟩ := hgq
  have hpb : before = p := by rw [hpq, hq, List.append_nil]
  refine post_of_below (pa := p) (pv := []) hW ?_ ?_ ?_ (by rw [hpb, List.append_nil]) hb ?_
  · intro b sp hd
    rw [hres, hr]
    exact trodAll_cons_mk (shut_bool ht true) trodAll_mk0
  · intro sp hsp
    rw [hargs]
    exact trodAll_stays hl hb hts hA (fun x hx => hW.lt x (by rw [hpb]; exact hx)) (fun x hx => hsp x (by rw [hpb]; exact hx))
  · intro sp _
    rw [hv, hvs]
    rfl
  · exact ok_one hr rfl (okWide_bool_mk ht true)
end

/-! ### Slices that read as lists -/

/-- how an element lies in memory: so many cells -/
structure Enc (α : Type) where
  size : Nat
  cells : α → List Value
  ok : α → Prop
  pos : 0 < size
  len : ∀ a, (cells a).length = size
  one : ∀ a, ∀ u ∈ cells a, u.oneCell' = true

/-- a list's cells, one behind the other -/
def Enc.flat {α : Type} (E : Enc α) (l : List α) : List Value := l.flatMap E.cells

theorem Enc.flat_get {α : Type} (E : Enc α) : ∀ (l : List α) (i : Nat) (a : α), l[i]? = some a → ∀ j, j < E.size → (E.flat l)[i * E.size + j]? = (E.cells a)[j]?
  | [], i, a, hi, j, hj => by simp at hi
  | x :: l, 0, a, hi, j, hj => by
    simp at hi; subst hi
    unfold Enc.flat
    rw [List.flatMap_cons, List.getElem?_append_left (by rw [E.len]; omega), Nat.zero_mul, Nat.zero_add]
  | x :: l, i + 1, a, hi, j, hj => by
    have ih := Enc.flat_get E l i a (by simpa using hi) j hj
    unfold Enc.flat at *
    rw [List.flatMap_cons, List.getElem?_append_right (by rw [E.len, Nat.succ_mul]; omega), E.len, ← ih]
    rw [show (i + 1) * E.size + j - E.size = i * E.size + j by rw [Nat.succ_mul]; omega]

/-- v is a slice whose elements read as l -/
def Sl {α : Type} (E : Enc α) (w : World) (v : Value) (l : List α) : Prop :=
  ∃ (A : Option Addr) (cap : Nat), v = .slice A l.length cap ∧ l.length ≤ cap ∧ cap ≤ maxLen ∧ l.length ≤ 281474976710656 ∧ (∀ (i : Nat) (a : α), l[i]? = some a → E.ok a) ∧
    (0 < l.length → ∃ b off, A = some ⟨b, off, none⟩ ∧ b < w.heap.size ∧ ∀ (j : Nat) (u : Value), (E.flat l)[j]? = some u → w.cell? ⟨b, off + j, none⟩ = some u)

theorem Sl.mono {α : Type} {E : Enc α} {w w' : World} {v : Value} {l : List α} (h : Sl E w v l) {B : Nat} (hb : Below B w w') (hB : w.heap.size ≤ B) : Sl E w' v l := by
  obtain ⟨A, cap, h1, h2, h3, hL, h4, h5⟩ := h
  refine ⟨A, cap, h1, h2, h3, hL, h4, fun h0 => ?_⟩
  obtain ⟨b, off, e, hlt, hc⟩ := h5 h0
  exact ⟨b, off, e, Nat.lt_of_lt_of_le hlt hb.size, fun j u hj => by rw [hb.cell (p := ⟨b, _, none⟩) (Nat.lt_of_lt_of_le hlt hB)]; exact hc j u hj⟩

theorem Sl.nil {α : Type} (E : Enc α) (w : World) : Sl E w (.slice none 0 0) ([] : List α) :=
  ⟨none, 0, rfl, Nat.le_refl _, Nat.zero_le _, by simp, by simp, fun h => absurd h (by simp)⟩

theorem Sl.drewN {α : Type} {E : Enc α} {w : World} {v : Value} {l : List α} (h : Sl E w v l) (n : Nat) : Sl E (w.drewN n) v l := h

/-- the call owns a slice that reads as l, in blocks from 'base' on -/
def Own {α : Type} (E : Enc α) (t : TypeId) (w : World) (base : Nat) (v : Value) (l : List α) : Prop := w.ownsRow base t E.size v l.length (E.flat l)

theorem Own.drewN {α : Type} {E : Enc α} {t : TypeId} {w : World} {base : Nat} {v : Value} {l : List α} (h : Own E t w base v l) (n : Nat) : Own E t (w.drewN n) base v l := h

/-- how long a slice in a slot is -/
def lenOf : Value → Nat | .slice _ n _ => n | _ => 0
theorem Own.lenOf {α : Type} {E : Enc α} {t : TypeId} {w : World} {base : Nat} {v : Value} {l : List α} (h : Own E t w base v l) : lenOf v = l.length := by
  rcases h.2 with ⟨rfl, hn⟩ | ⟨g, cap, cur, rfl, _⟩
  · rw [hn]; rfl
  · rfl
theorem Own.shape {α : Type} {E : Enc α} {t : TypeId} {w : World} {base : Nat} {v : Value} {l : List α} (h : Own E t w base v l) : ∃ A cap, v = .slice A l.length cap := by
  rcases h.2 with ⟨rfl, hn⟩ | ⟨g, cap, cur, rfl, _⟩
  · exact ⟨none, 0, by rw [hn]⟩
  · exact ⟨_, cap, rfl⟩

theorem Own.mono {α : Type} {E : Enc α} {t : TypeId} {w w' : World} {base : Nat} {v : Value} {l : List α} (h : Own E t w base v l) (hb : Below w.heap.size w w') : Own E t w' base v l := by
  refine ⟨h.1, ?_⟩
  rcases h.2 with h' | ⟨g, cap, cur, h1, h2, h3, h4⟩
  · exact .inl h'
  · refine .inr ⟨g, cap, cur, h1, h2, ?_, h4⟩
    rw [hb.block g]
    · exact h3
    · rcases Nat.lt_or_ge g w.heap.size with h | h
      · exact h
      · rw [Array.getElem?_eq_none h] at h3; cases h3

section
variable {H : Type} {enc : TypeId × Value → H} {P : Program} {w : World} {sp : Nat → Bool} {held : Bool}

theorem weightsAll_mem {e : TypeId} {l : List (DataW H)} (h : (DataW.weightsAll P e l).all (· ≤ reachBytes) = true) {d : DataW H} (hd : d ∈ l) : (d.weights P e).all (· ≤ reachBytes) = true := by
  induction l with
  | nil => cases hd
  | cons x l ih =>
    simp only [DataW.weightsAll, List.all_append, Bool.and_eq_true] at h
    rcases List.mem_cons.1 hd with rfl | hd
    · exact h.1
    · exact ih h.2 hd

theorem weightsEach_mem : ∀ {ts : List TypeId} {l : List (DataW H)}, (DataW.weightsEach P ts l).all (· ≤ reachBytes) = true → ∀ (j : Nat) (t : TypeId) (d : DataW H), ts[j]? = some t → l[j]? = some d → (d.weights P t).all (· ≤ reachBytes) = true
  | [], _, _, j, t, d, h1, _ => by simp at h1
  | _ :: _, [], _, j, t, d, _, h2 => by simp at h2
  | t :: ts, x :: l, h, j, t', d, h1, h2 => by
    simp only [DataW.weightsEach, List.all_append, Bool.and_eq_true] at h
    cases j with
    | zero => simp at h1 h2; subst h1; subst h2; exact h.1
    | succ j => exact weightsEach_mem h.2 j t' d (by simpa using h1) (by simpa using h2)

theorem str_reach {s : ByteArray} {e : TypeId} (h : ((DataW.lit (H := H) (.string s.data.toList)).weights P e).all (· ≤ reachBytes) = true) : s.size ≤ 281474976710656 := by
  simp only [DataW.weights, List.all_cons, List.all_nil, Bool.and_true, decide_eq_true_eq, Array.length_toList] at h
  exact Nat.le_trans h (by decide)

end

end Go.Proofs.YtkdbphhekpdmhaaDoor
