/-
  A machine with a heap: a map's keys in order: sound.
-/
import Derived.Test.YtbpagknllngfkaaHpN
import Derived.Test.YtbpagknllngfkaaKeys
namespace Go.Proofs.Ytbpagknllngfkaa
open Go.RowKit Go.Maps Go.Sort Go.Shelf
open Go.WideElems (Fit rg)
set_option linter.unusedVariables false
set_option linter.unusedSimpArgs false
namespace Hm
def I64 (n : Int) : Prop := -9223372036854775808 ≤ n ∧ n ≤ 9223372036854775807
def R1 : Value → Option (DataW Unit × List MemPlace) := fun _ => some (.nil, [])
theorem rd_int {m : MapEntry} {n : Int} (hk : m.key = .int .i64 n) (hn : I64 n) : Go.WideElems.rd Try.prog 3 R1 m = some (.int .i64 n, .nil) := by
  have hw : (Lit.int .i64 n).wf = true := by
    unfold I64 at hn
    show (decide (IntKind.min .i64 ≤ n) && decide (n ≤ IntKind.max .i64)) = true
    have h1 : IntKind.min .i64 = -9223372036854775808 := by decide
    have h2 : IntKind.max .i64 = 9223372036854775807 := by decide
    rw [h1, h2]; simp; omega
  have : keyOf Try.prog 3 m.key = some (.int .i64 n) := by
    rw [hk]
    simp [keyOf, mapKey, Try.underlying3, hw]
  unfold Go.WideElems.rd
  rw [this]
  rfl
structure Kys (ks : List Int) (D : DataW Unit) : Prop where
  perm : (intKeys D).Perm ks
  nodup : ks.Nodup
  size : Go.Maps.size D = ks.length
theorem own_map {w : World} {ks : List Int} {g : Nat} {ms : Array MapEntry} {c : Nat} (hb : w.heap[g]? = some (.map ms c)) (hst : Go.MapKept.Stamped ms c) (hl : ks.length = ms.size)
    (hk : ∀ (i : Nat) (n : Int) (m : MapEntry), ks[i]? = some n → ms[i]? = some m → m.key = .int .i64 n) (hin : ∀ n, n ∈ ks → I64 n) (hm : ks.length ≤ 1000000) :
    ∃ D, w.ownsMap Try.prog 3 R1 g ks.length D ∧ Kys ks D := by
  have hat : ∀ (i : Nat) (m : MapEntry), ms[i]? = some m → ∃ n, ks[i]? = some n ∧ m.key = .int .i64 n ∧ Go.WideElems.rd Try.prog 3 R1 m = some (.int .i64 n, .nil) := fun i m h => by
    have hi : i < ks.length := by rw [hl]; exact (Array.getElem?_eq_some_iff.1 h).1
    have he : ks[i]? = some ks[i] := List.getElem?_eq_getElem hi
    have h1 := hk i _ m he h
    exact ⟨_, he, h1, rd_int h1 (hin _ (List.mem_of_getElem? he))⟩
  have hlist : ms.toList.map (rg Try.prog 3 R1) = ks.map fun n => ((.int .i64 n : Lit), (.nil : DataW Unit)) := by
    refine List.ext_getElem? fun i => ?_
    rw [List.getElem?_map, List.getElem?_map, Array.getElem?_toList (xs := ms)]
    cases h : ms[i]? with
    | none =>
      have : ks.length ≤ i := by rw [hl]; exact Array.getElem?_eq_none_iff.1 h
      rw [List.getElem?_eq_none this]; rfl
    | some m =>
      obtain ⟨e, he, _, hr⟩ := hat i m h
      rw [he]
      simp only [Option.map_some]
      rw [Go.WideElems.rg_of hr]
  have hkey : List.map (fun n : Int => Value.int .i64 n) ks = ms.toList.map (·.key) := by
    refine List.ext_getElem? fun i => ?_
    rw [List.getElem?_map, List.getElem?_map, Array.getElem?_toList (xs := ms)]
    cases h : ms[i]? with
    | none =>
      have : ks.length ≤ i := by rw [hl]; exact Array.getElem?_eq_none_iff.1 h
      rw [List.getElem?_eq_none this]; rfl
    | some m =>
      obtain ⟨e, he, h1, _⟩ := hat i m h
      rw [he]
      simp only [Option.map_some, h1]
  refine ⟨_, ⟨ms, c, hb, ⟨by rw [← hl]; unfold maxLen; omega, hst, fun x hx => ?_⟩, by omega, rfl⟩, ⟨?_, ?_, ?_⟩⟩
  · obtain ⟨i, hi⟩ := List.mem_iff_getElem?.1 hx
    obtain ⟨e, _, _, hr⟩ := hat i x (by rw [← Array.getElem?_toList]; exact hi)
    exact ⟨_, hr⟩
  · rw [hlist]
    have hp := (Go.WideShapes.sorted_perm (ks.map fun n => ((.int .i64 n : Lit), (.nil : DataW Unit)))).map (fun p => _root_.Go.intOf p.1)
    rw [List.map_map] at hp
    have e : List.map ((fun p => _root_.Go.intOf p.1) ∘ fun n => ((.int .i64 n : Lit), (.nil : DataW Unit))) ks = ks := by
      conv => rhs; rw [← List.map_id ks]
      rfl
    rw [e] at hp
    exact hp
  · have h3 := hst.2.2
    rw [← hkey] at h3
    exact (List.pairwise_map.1 h3).imp fun h e => h (by rw [e])
  · show List.length _ = _
    rw [hlist, (Go.WideShapes.sorted_perm _).length_eq, List.length_map]

/-! ### Whole numbers in order -/
theorem insI_perm (n : Int) : ∀ l, (insI n l).Perm (n :: l)
  | [] => .refl _
  | m :: l => by
    simp only [insI]
    split
    · exact .refl _
    · exact ((insI_perm n l).cons m).trans (.swap n m l)
theorem srtI_perm : ∀ l, (srtI l).Perm l
  | [] => .refl _
  | n :: l => (insI_perm n (srtI l)).trans ((srtI_perm l).cons n)
theorem insI_sorted (n : Int) : ∀ l, l.Pairwise (· ≤ ·) → (insI n l).Pairwise (· ≤ ·)
  | [], _ => by simp [insI]
  | m :: l, h => by
    simp only [insI]
    have h' := List.pairwise_cons.1 h
    split
    · rename_i hle
      simp only [decide_eq_true_eq] at hle
      refine List.pairwise_cons.2 ⟨fun x hx => ?_, h⟩
      rcases List.mem_cons.1 hx with rfl | hx
      · exact hle
      · exact Int.le_trans hle (h'.1 x hx)
    · rename_i hle
      simp only [decide_eq_false_iff_not] at hle
      refine List.pairwise_cons.2 ⟨fun x hx => ?_, insI_sorted n l h'.2⟩
      rcases List.mem_cons.1 ((insI_perm n l).mem_iff.1 hx) with rfl | hx
      · omega
      · exact h'.1 x hx
theorem srtI_sorted : ∀ l, (srtI l).Pairwise (· ≤ ·)
  | [] => .nil
  | n :: l => insI_sorted n _ (srtI_sorted l)
theorem sorted_uniq : ∀ {a b : List Int}, a.Pairwise (· ≤ ·) → b.Pairwise (· ≤ ·) → a.Perm b → a = b
  | [], b, _, _, h => h.nil_eq.symm ▸ rfl
  | x :: a, [], _, _, h => absurd h.length_eq (by simp)
  | x :: a, y :: b, ha, hb, h => by
    have ha' := List.pairwise_cons.1 ha
    have hb' := List.pairwise_cons.1 hb
    have e : x = y := by
      have h1 : x ∈ y :: b := h.mem_iff.1 (by simp)
      have h2 : y ∈ x :: a := h.mem_iff.2 (by simp)
      have l1 : y ≤ x := by
        rcases List.mem_cons.1 h1 with q | q
        · omega
        · exact hb'.1 x q
      have l2 : x ≤ y := by
        rcases List.mem_cons.1 h2 with q | q
        · omega
        · exact ha'.1 y q
      omega
    subst e
    rw [sorted_uniq ha'.2 hb'.2 (List.Perm.cons_inv h)]
theorem srt_merge {ss ks : List Int} (h : ss.Perm ks) : (ss.mergeSort fun x y => decide (x ≤ y)) = srtI ks := by
  have tr : ∀ a b c : Int, decide (a ≤ b) = true → decide (b ≤ c) = true → decide (a ≤ c) = true := fun a b c h1 h2 => by simp only [decide_eq_true_eq] at *; omega
  have to : ∀ a b : Int, (decide (a ≤ b) || decide (b ≤ a)) = true := fun a b => by simp only [Bool.or_eq_true, decide_eq_true_eq]; omega
  refine sorted_uniq ((List.pairwise_mergeSort tr to ss).imp fun h => by simpa using h) (srtI_sorted ks) ?_
  exact ((List.mergeSort_perm ss fun x y => decide (x ≤ y)).trans h).trans (srtI_perm ks).symm

theorem sortsI (m : Nat) : AnyZI.SortsIn Try.prog Try.sortedA_ren Fence.wide m :=
  ⟨fun blk off cap ss W hH hblk hsz => callsIn_wide.2 (Try.slices_Sort_int blk off cap ss W hH hblk hsz),
   fun p cap W => callsIn_wide.2 (Try.slices_Sort_int_none p cap W)⟩

/-- a block that has come takes a name -/
theorem Rel.adopt {E : Mx} {w w' : World} (h : Rel E w) (hb : Below w.heap.size w w') {r g b : Nat} (hr : ¬ E.U r) (hg : w.heap.size ≤ g) {ob : Ob} {o : Obj} (ho : w'.heap[g]? = some o) (hob : ∀ E' : Mx, ObR E' w' b ob o) : Rel (E.new r g b ob) w' ∧ Step E w (E.new r g b ob) w' := by
  have hne : ∀ s, E.U s → s ≠ r := fun s hs e => hr (e ▸ hs)
  have hlt : ∀ s ob, E.H s = some ob → (E.μ s).1 < w.heap.size := fun s ob hs => let ⟨o, h1, _⟩ := h.obj s ob hs; (Array.getElem?_eq_some_iff.1 h1).1
  have k : Step E w (E.new r g b ob) w' := by
    refine ⟨hb.os, hb.tape, hb.output, hb.size, fun s hs => .inl hs, fun s hs => upd_ne _ _ (hne s hs), fun s hs hl => ?_, fun g' hg' _ => hb.block g' hg', fun g' hg' hu s ob' hs => ?_, fun s hs hl vs ty fr e => ⟨vs, ty, fr, by rw [hb.block _ (Array.getElem?_eq_some_iff.1 e).1]; exact e, rfl⟩⟩
    · have hl' : (upd E.H r (some ob) s).isSome := hl
      rwa [upd_ne _ _ (hne s hs)] at hl'
    · have hs' : upd E.H r (some ob) s = some ob' := hs
      show (upd E.μ r (g, b) s).1 ≠ g'
      by_cases e : s = r
      · subst e; rw [upd_same]; show g ≠ g'; omega
      · rw [upd_ne _ _ e] at hs' ⊢; exact hu s ob' hs'
  refine ⟨⟨fun s ob' hs => ?_, fun s s' a a' hs hs' e => ?_, fun s ob' hs => ?_⟩, k⟩
  · have hs' : upd E.H r (some ob) s = some ob' := hs
    by_cases e : s = r
    · exact .inr e
    · rw [upd_ne _ _ e] at hs'; exact .inl (h.used s ob' hs')
  · have hs1 : upd E.H r (some ob) s = some a := hs
    have hs2 : upd E.H r (some ob) s' = some a' := hs'
    have e1 : (upd E.μ r (g, b) s).1 = (upd E.μ r (g, b) s').1 := e
    by_cases q : s = r <;> by_cases q' : s' = r
    · rw [q, q']
    · subst q; rw [upd_same, upd_ne _ _ q'] at e1; rw [upd_ne _ _ q'] at hs2; have := hlt s' a' hs2; have e1 : g = (E.μ s').1 := e1; omega
    · subst q'; rw [upd_same, upd_ne _ _ q] at e1; rw [upd_ne _ _ q] at hs1; have := hlt s a hs1; have e1 : (E.μ s).1 = g := e1; omega
    · rw [upd_ne _ _ q, upd_ne _ _ q'] at e1; rw [upd_ne _ _ q] at hs1; rw [upd_ne _ _ q'] at hs2; exact h.inj s s' a a' hs1 hs2 e1
  · have hs' : upd E.H r (some ob) s = some ob' := hs
    show ∃ o', w'.heap[(upd E.μ r (g, b) s).1]? = some o' ∧ ObR _ _ (upd E.μ r (g, b) s).2 ob' o'
    by_cases e : s = r
    · subst e
      rw [upd_same] at hs' ⊢
      cases hs'
      exact ⟨o, ho, hob _⟩
    · rw [upd_ne _ _ e] at hs' ⊢
      obtain ⟨o', h1, h2⟩ := h.obj s ob' hs'
      exact ⟨o', by rw [hb.block _ (Array.getElem?_eq_some_iff.1 h1).1]; exact h1, h2.step k⟩
theorem intsE_out {E : Mx} {w : World} : ∀ {es : List (Value × V)} {ks : List Int}, intsE es = some ks → ks.length = es.length ∧ (∀ n, n ∈ ks → I64 n) ∧ ∀ (i : Nat) (n : Int) (e : Value × V), ks[i]? = some n → es[i]? = some e → e.1 = .int .i64 n
  | [], ks, h => by cases h; exact ⟨rfl, (fun n h => by simp at h), fun i n e h => by simp at h⟩
  | (k, v) :: es, ks, h => by
    unfold intsE at h
    split at h
    · rename_i heq; exact absurd heq (by simp)
    · rename_i n v' es' heq
      cases heq
      split at h
      · rename_i l h1 h2
        cases h
        obtain ⟨g1, g2, g3⟩ := intsE_out (E := E) (w := w) h1
        simp only [decide_eq_true_eq] at h2
        refine ⟨by simp [g1], fun m hm => ?_, fun i m e hi he => ?_⟩
        · rcases List.mem_cons.1 hm with rfl | hm
          · exact h2
          · exact g2 m hm
        · cases i with
          | zero => cases hi; cases he; rfl
          | succ i => exact g3 i m e (by simpa using hi) (by simpa using he)
      · cases h
    · cases h
theorem upsX_set {h : Hx} {r : Nat} {x : Option Ob} (hr : r < 1000000) (q : Nat) : (h.H.set 20 r x).get q = if q = r then x else h.H.get q := Tr.get_set20 hr
theorem keysX_sound : CSound Try.prog (keysX 34 51) := by
  intro f args h r h' e
  unfold keysX at e
  split at e
  case h_2 => cases e
  rename_i hf
  have hf := Nat.eq_of_beq_eq_true hf
  subst hf
  split at e
  case h_2 => cases e
  rename_i g rr
  split at e
  case h_2 => cases e
  rename_i q hg hcell
  have hg := Nat.eq_of_beq_eq_true hg
  subst hg
  split at e
  case h_2 => cases e
  rename_i es hmap
  split at e
  case h_2 => cases e
  rename_i ks hks
  unfold mkI at e
  split at e
  case h_2 => cases e
  rename_i hb hlen hpos
  have hlen := Nat.le_of_ble_eq_true hlen
  have hpos := blt_lt hpos
  cases e
  have hb := blt_lt hb
  refine ⟨⟨Nat.le_succ _, fun q hq e => ?_, fun q hq _ => ?_, fun q hq => hq, fun q hq => ?_⟩, fun E w us hR hH hfr hus => ?_⟩
  · show (h.H.set 20 h.nx _).get q = none
    rw [upsX_set hb, if_neg (by omega)]; exact e
  · show (h.H.set 20 h.nx _).get q = _
    rw [upsX_set hb, if_neg (by omega)]
  · have hq : h.nx + 1 ≤ q := hq
    show (h.H.set 20 h.nx _).get q = _
    rw [upsX_set hb, if_neg (by omega)]
  have hnu : ¬ E.U h.nx := fun z => Nat.lt_irrefl _ (hfr _ z)
  match us, hus with
  | [], hus => exact absurd hus.len (by simp)
  | _ :: _ :: _, hus => exact absurd hus.len (by simp)
  | [u], hus =>
  have hu := hus.head
  generalize hfirst : ([] : List V) = fi at hu
  cases hu with
  | fn _ _ _ va vb ha hb' h1 h2 =>
  subst hfirst
  have hva : va = [] := List.length_eq_zero_iff.1 ha.symm
  subst hva
  match vb, hb', h2 with
  | [], hb', _ => exact absurd hb' (by simp)
  | _ :: _ :: _, hb', _ => exact absurd hb' (by simp)
  | [u], hb', h2 =>
  have hp := (h2 0 _ _ rfl rfl).ptr_live (hH _ _ hcell)
  subst hp
  obtain ⟨um, hc1, hc2⟩ := hR.cell (hH _ _ hcell) (j := 0) (c := .mp q) rfl
  have hum := hc2.mp_live (hH _ _ hmap)
  subst hum
  rw [Nat.add_zero] at hc1
  obtain ⟨ms, clk, hm1, hm2, hm3, hm4⟩ := hR.map (hH _ _ hmap)
  obtain ⟨i1, i2, i3⟩ := intsE_out (E := E) (w := w) hks
  have hsmall : ks.length ≤ 1000000 := by rw [← (srtI_perm ks).length_eq]; exact hlen
  obtain ⟨D, hD, hk⟩ := own_map (ks := ks) hm1 hm2 (by rw [i1, hm3]) (fun i n m hi hm => by
    have hes : es[i]? = some (es[i]'(by have := (List.getElem?_eq_some_iff.1 hi).1; omega)) := List.getElem?_eq_getElem _
    rw [(hm4 i _ m hes hm).1]
    exact i3 i n _ hi hes) i2 hsmall
  have hbase : (E.μ rr).2 = 0 := by
    obtain ⟨ob, g1, g2⟩ := hR.obj rr _ (hH _ _ hcell)
    cases ob <;> try exact g2.elim
    exact g2.2.1.2 rfl
  rw [hbase] at hc1
  have hBlt : (E.μ rr).1 < w.heap.size := by
    obtain ⟨ob, g1, g2⟩ := hR.obj rr _ (hH _ _ hcell)
    exact (Array.getElem?_eq_some_iff.1 g1).1
  have hseq : SeqGives Fence.wide 2 Try.prog 51 #[.pointer (some ⟨(E.μ rr).1, 0, none⟩)] encZ (fun ss => ss.Perm (intKeys D)) (Go.Maps.size D) w :=
    AnyZI.keys_gives (ρ := Try.keysA_ren) { Try.keysA with } Fence.wide _ trivial rfl (by omega) _ _ _ D _ hBlt hc1 hD
  have cS := AnyZI.sorted_in Try.sortedA Fence.wide 5 trivial trivial trivial trivial rfl (by omega) (sortsI _) (enters_of Try.func50 (by kernel_rfl) rfl) 51 #[.pointer (some ⟨(E.μ rr).1, 0, none⟩)] trivial (enters_of Try.func51 (by kernel_rfl) rfl) _ _ (by rw [hk.size]; unfold maxLen; omega) (by rw [hk.size]; omega) _ hseq
  change CallsIn _ _ Try.prog 34 _ _ _ at cS
  rw [hbase]
  change Calls Try.prog 34 #[.func (.func 51) #[] #[.pointer (some ⟨(E.μ rr).1, 0, none⟩)]] w _
  refine (callsIn_wide.1 cS).mono ?_
  rintro e w' ⟨v, ss, rfl, hS, hrow, hnil, hbel⟩
  have hmg := srt_merge (hS.trans hk.perm)
  have hsl : ss.length = (srtI ks).length := by rw [← hmg, List.length_mergeSort]
  rw [hmg] at hrow
  rcases hrow.2 with ⟨q1, q2⟩ | ⟨g, cap, cur, q1, q2, q3, q4, q5, q6, q7⟩
  · omega
  have hob : ∀ E' : Mx, ObR E' w' 0 (.cells ((srtI ks).map fun n => .lit (.int .i64 n))) (.cells cur 3 (0, 0)) := fun E' => by
    refine ⟨rfl, ⟨by simp; omega, fun _ => rfl⟩, fun j c hc => ?_⟩
    rw [List.getElem?_map] at hc
    obtain ⟨n, hn, rfl⟩ := Option.map_eq_some_iff.1 hc
    have hj := (List.getElem?_eq_some_iff.1 hn).1
    have h1 : (cur.toList.take (ss.length * 1))[j]? = ((srtI ks).map encZ)[j]? := by rw [q7]
    rw [List.getElem?_take, if_pos (by omega), Array.getElem?_toList, List.getElem?_map, hn] at h1
    exact ⟨rfl, _, by rw [Nat.zero_add]; exact h1, .lit _⟩
  obtain ⟨hR', hS'⟩ := hR.adopt hbel hnu q2 q3 hob
  refine ⟨v, _, rfl, ?_, hR', hS', fun q ob hq => ?_, fun q hq => ?_, fun q hq hn => ?_⟩
  · rw [q1, hsl]
    refine .sl _ _ _ _ _ _ (.inr rfl) (by omega) (by omega) q5 fun _ => ?_
    refine ⟨⟨_, rfl, ?_⟩, fun _ => ?_, cur, 3, (0, 0), ?_, ?_⟩
    · show g = (upd E.μ h.nx (g, 0) h.nx).1
      rw [upd_same]
    · show _ = some (⟨(upd E.μ h.nx (g, 0) h.nx).1, (upd E.μ h.nx (g, 0) h.nx).2 + 0, none⟩ : Addr)
      rw [upd_same]
    · show w'.heap[(upd E.μ h.nx (g, 0) h.nx).1]? = _
      rw [upd_same]; exact q3
    · show (upd E.μ h.nx (g, 0) h.nx).2 + 0 + cap * 1 = _
      rw [upd_same]
      show 0 + 0 + cap * 1 = _
      omega
  · show upd E.H h.nx _ q = _
    have hq : (h.H.set 20 h.nx (some (.cells ((srtI ks).map fun n => .lit (.int .i64 n))))).get q = some ob := hq
    rw [upsX_set hb] at hq
    by_cases e : q = h.nx
    · subst e; rw [if_pos rfl] at hq; rw [upd_same]; exact hq
    · rw [if_neg e] at hq; rw [upd_ne _ _ e]; exact hH q ob hq
  · rcases hq with z | z
    · exact .inl z
    · exact .inr ⟨by omega, show q < h.nx + 1 by omega⟩
  · exact upd_ne _ _ (fun e => hnu (e ▸ hq))
end Hm
end Go.Proofs.Ytbpagknllngfkaa
