/-
  key.Sorted: the clone, sorted by the library's sort, each once: the one rising list of its members.
-/
import Derived.Test.YtdjkefndigijjaaKeySorts
import Derived.Test.YtdjkefndigijjaaShelf
import Derived.Shelf.SlSortCmp.NoneTotal
namespace Go.Proofs.Ytdjkefndigijjaa
open Go.RowKit Go.Lib Go.Sort
open Go.Op (bytesLess)
set_option linter.unusedVariables false

def toBA (x : List UInt8) : ByteArray := ⟨x.toArray⟩
theorem toBA_data (s : ByteArray) : toBA s.data.toList = s := by obtain ⟨⟨x⟩⟩ := s; rfl
theorem data_toBA (x : List UInt8) : (toBA x).data.toList = x := rfl
theorem toBA_inj {x y : List UInt8} (h : toBA x = toBA y) : x = y := by rw [← data_toBA x, h, data_toBA]
theorem ltS_toBA {x y : List UInt8} : kp.ltS (toBA x) (toBA y) ↔ bytesLess x y = true := by
  rw [kp.ltS, ByteArray.toList_eq, ByteArray.toList_eq, data_toBA, data_toBA]

/-- what 'Compact' leaves of a list in order -/
theorem compact_upTo (d : Array (List UInt8)) (hs : ∀ i j, i < j → j < d.size → bytesLess d[j]! d[i]! = false) : ∀ m, m ≤ d.size →
    kp.Rising ((Lib.compactUpTo d m).map toBA) ∧ ∀ x, x ∈ Lib.compactUpTo d m ↔ ∃ j, j < m ∧ d[j]! = x
  | 0, _ => ⟨fun i x y h => by simp [Lib.compactUpTo] at h, fun x => by simp [Lib.compactUpTo]⟩
  | m + 1, hm => by
    obtain ⟨h1, h2⟩ := compact_upTo d hs m (by omega)
    rw [Lib.compactUpTo_succ]
    by_cases hk : Lib.keeps d m = true
    · rw [if_pos hk]
      refine ⟨?_, fun x => ?_⟩
      · rw [List.map_append]
        refine h1.snoc (fun x hx => ?_)
        obtain ⟨y, hy, rfl⟩ := List.mem_map.1 hx
        obtain ⟨j, hj, rfl⟩ := (h2 y).1 hy
        rw [ltS_toBA]
        have n1 : bytesLess d[m]! d[j]! = false := hs j m hj (by omega)
        by_cases hl : bytesLess d[j]! d[m]! = true
        · exact hl
        · exfalso
          have e := kp.less_total _ _ (by simpa using hl) n1
          simp only [Lib.keeps, decide_eq_true_eq] at hk
          rcases hk with hk | hk
          · omega
          · refine hk ?_
            by_cases e1 : j = m - 1
            · rw [← e1, e]
            · have n2 : bytesLess d[m - 1]! d[j]! = false := hs j (m - 1) (by omega) (by omega)
              have n3 : bytesLess d[m]! d[m - 1]! = false := hs (m - 1) m (by omega) (by omega)
              rw [e] at n2
              exact kp.less_total _ _ n3 n2
      · rw [List.mem_append, h2]
        constructor
        · rintro (⟨j, hj, e⟩ | hx)
          · exact ⟨j, by omega, e⟩
          · simp at hx; exact ⟨m, by omega, hx.symm⟩
        · rintro ⟨j, hj, e⟩
          rcases Nat.lt_or_ge j m with h | h
          · exact .inl ⟨j, h, e⟩
          · rw [show j = m by omega] at e; exact .inr (by simp [e])
    · rw [if_neg hk, List.append_nil]
      refine ⟨h1, fun x => ?_⟩
      rw [h2]
      simp only [Lib.keeps, decide_eq_true_eq, not_or, Decidable.not_not] at hk
      constructor
      · rintro ⟨j, hj, e⟩; exact ⟨j, by omega, e⟩
      · rintro ⟨j, hj, e⟩
        rcases Nat.lt_or_ge j m with h | h
        · exact ⟨j, h, e⟩
        · rw [show j = m by omega, hk.2] at e
          exact ⟨m - 1, by omega, e⟩

/-- the order that 'key.Compare' makes, on bytes -/
def cmpL (x y : List UInt8) : Int := cmpS (toBA x) (toBA y)
theorem ltOf_cmpL (x y : List UInt8) : ltOf cmpL x y = bytesLess x y := by
  unfold ltOf cmpL cmpS
  rw [data_toBA, data_toBA]
  cases h1 : bytesLess x y
  · cases h2 : bytesLess y x <;> simp
  · simp
theorem swo_cmpL : SWO (ltOf cmpL) where
  irrefl x := by rw [ltOf_cmpL, kp.less_irrefl]
  trans x y z h1 h2 := by rw [ltOf_cmpL] at *; exact kp.less_trans _ _ _ h1 h2
  ntrans x y z h1 h2 := by
    rw [ltOf_cmpL] at *
    cases h : bytesLess x z
    · rfl
    · exfalso
      by_cases h3 : bytesLess y x = true
      · have := kp.less_trans _ _ _ h3 h
        rw [this] at h2; cases h2
      · have e := kp.less_total x y h1 (by simpa using h3)
        subst e
        rw [h] at h2; cases h2

theorem ext_all {α : Type} (d : Array α) : d.extract 0 d.size = d := by simp

theorem compact_sorted {l : List ByteArray} {d' : Array (List UInt8)} (hp : PermIn 0 (l.map fun s => s.data.toList).toArray.size (l.map fun s => s.data.toList).toArray d')
    (hs : SortedIn (ltOf cmpL) 0 (l.map fun s => s.data.toList).toArray.size d') : kp.SortedOf l ((Lib.compactUpTo d' d'.size).map toBA) := by
  obtain ⟨h1, _, h3⟩ := hp
  obtain ⟨h4, h5⟩ := compact_upTo d' (fun i j hij hj => by
    have := hs i j (Nat.zero_le _) hij (by rw [← h1]; exact hj)
    rwa [ltOf_cmpL] at this) d'.size (Nat.le_refl _)
  refine ⟨h4, fun x => ?_⟩
  have e1 : d'.extract 0 (l.map fun s => s.data.toList).toArray.size = d' := by rw [← h1]; simp
  have e2 : (l.map fun s => s.data.toList).toArray.extract 0 (l.map fun s => s.data.toList).toArray.size = (l.map fun s => s.data.toList).toArray := ext_all _
  rw [e1, e2] at h3
  have hmem : ∀ y, y ∈ d'.toList ↔ y ∈ l.map fun s => s.data.toList := fun y => by rw [h3.mem_iff]
  have hget : ∀ y, (∃ j, j < d'.size ∧ d'[j]! = y) ↔ y ∈ d'.toList := fun y => by
    rw [List.mem_iff_getElem]
    constructor
    · rintro ⟨j, hj, e⟩
      exact ⟨j, by simpa using hj, by rw [← e, getElem!_pos d' j hj]; simp⟩
    · rintro ⟨j, hj, e⟩
      have hj' : j < d'.size := by simpa using hj
      exact ⟨j, hj', by rw [getElem!_pos d' j hj', ← e]; simp⟩
  rw [List.mem_map]
  constructor
  · rintro ⟨y, hy, rfl⟩
    have := (hmem y).1 ((hget y).1 ((h5 y).1 hy))
    obtain ⟨s, hs, rfl⟩ := List.mem_map.1 this
    rw [toBA_data]; exact hs
  · intro hx
    refine ⟨x.data.toList, (h5 _).2 ((hget _).2 ((hmem _).2 (List.mem_map.2 ⟨x, hx, rfl⟩))), toBA_data x⟩


theorem encStr_data (s : ByteArray) : encStr s.data.toList = Value.string s := by rw [show encStr s.data.toList = Value.string (toBA s.data.toList) from rfl, toBA_data]

theorem strE_flat (l : List ByteArray) : strE.flat l = l.map Value.string := by
  induction l with
  | nil => rfl
  | cons a l ih => unfold Enc.flat at *; rw [List.flatMap_cons, ih]; rfl

/-- a row of texts that the call owns, in the words of the library's sort -/
theorem holds_own {t : TypeId} {w : World} {base g cap : Nat} {l : List ByteArray} (h : Own strE t w base (.slice (some ⟨g, 0, none⟩) l.length cap) l) :
    Holds encStr w g 0 (l.map fun s => s.data.toList).toArray := by
  intro j hj
  have hj' : j < l.length := by simpa using hj
  refine ⟨?_, ?_⟩
  · rw [Nat.zero_add]
    have := Own.cell1 (E := strE) rfl h (List.getElem?_eq_getElem hj') rfl
    rw [this]
    simp only [getElem!_pos, hj, List.getElem_toArray, List.getElem_map, encStr_data]
  · rw [Nat.zero_add]
    exact Own.frozen1 h rfl j

theorem below_grow {B : Nat} {a w : World} (h : Below B a w) (hB : B ≤ w.heap.size) (os : Array Obj) : Below B a (grow w os) :=
  h.trans ⟨rfl, rfl, rfl, by simp [grow], fun k hk => by
    show (w.heap ++ os)[k]? = _
    rw [Array.getElem?_append_left (by omega)]⟩

theorem below_putRow {α : Type} [Inhabited α] {B g : Nat} {a w : World} (h : Below B a w) (hg : B ≤ g) (enc : α → Value) (off : Nat) (d : Array α) : Below B a (putRow enc w g off d) :=
  h.trans ⟨rfl, rfl, rfl, by rw [size_putRow]; exact Nat.le_refl _, fun k hk => by
    show (mapBlock w g _).heap[k]? = _
    unfold mapBlock
    simp only [Array.getElem?_modify]
    rw [if_neg (by omega)]⟩

theorem below_ahead {B : Nat} {a w : World} (h : Below B a w) (n : Nat) : Below B a (Sort.ahead w n) := ⟨h.os, h.tape, h.output, h.size, h.block⟩

theorem below_sortWorld {B g : Nat} {a w : World} (h : Below B a w) (hB : B ≤ w.heap.size) (hg : B ≤ g) (off m : Nat) (d : Array (List UInt8)) (os : Array Obj) : Below B a (sortWorld encStr w g off m d os) := by
  unfold sortWorld
  refine below_grow (below_putRow (below_ahead h m) hg encStr off d) ?_ os
  rw [size_putRow]
  exact hB


theorem cmpReads (blk off size : Nat) (w : World) : CmpReads Try.prog 102 #[] encStr cmpL blk off size w :=
  fun _ _ _ _ x y => (compare_any (toBA x) (toBA y) _).mono fun _ _ ⟨he, hw⟩ => ⟨he, 0, hw.symm⟩

theorem sortNone (p : Option Addr) (cap : Nat) (fv : Value) (w : World) :
    Calls Try.prog 101 #[.slice p 0 cap, fv] w fun e w' => e = .returned (.tuple #[]) ∧ w' = w :=
  AnyF.slices_SortFunc_none { Try.laysSlF6_f101 with } p cap fv w

theorem sortStrs (blk cap : Nat) (d : Array (List UInt8)) (w : World) (hH : Holds encStr w blk 0 d) (hblk : blk < w.heap.size) (hsz : d.size < 4611686018427387904) :
    Calls Try.prog 101 #[.slice (some ⟨blk, 0, none⟩) d.size cap, .func (.func 102) #[] #[]] w fun e w' =>
      e = .returned (.tuple #[]) ∧ ∃ d' n os, PermIn 0 d.size d d' ∧ SortedIn (ltOf cmpL) 0 d.size d' ∧ w' = sortWorld encStr w blk 0 n d' os :=
  Try.slices_SortFunc encStr (fun _ => rfl) cmpL swo_cmpL 102 #[] blk 0 cap d w (Go.Proofs.enters_of Try.func102 (by kernel_rfl) rfl) (cmpReads blk 0 d.size w).lays hH hblk hsz

/-- what comes of the sort: a row that holds d' -/
theorem sorted_world {w : World} {blk n : Nat} {d d' : Array (List UInt8)} {os : Array Obj} (hH : Holds encStr w blk 0 d) (hblk : blk < w.heap.size) (hs : d'.size = d.size) :
    Holds encStr (sortWorld encStr w blk 0 n d' os) blk 0 d' := by
  unfold sortWorld
  exact holds_grow encStr _ os blk 0 d' (by simpa using hblk) (holds_putRow encStr _ blk 0 d d' (holds_ahead encStr w n blk 0 d hH) hs)

/-- the front of a row reads as a slice of texts -/
theorem sl_front {w : World} {blk cap : Nat} {d : Array (List UInt8)} (hH : Holds encStr w blk 0 d) (hblk : blk < w.heap.size) (R : List ByteArray) (hR : ∀ (j : Nat) (s : ByteArray), R[j]? = some s → d[j]! = s.data.toList ∧ j < d.size)
    (hcap : R.length ≤ cap) (hm : cap ≤ maxLen) (hL : R.length ≤ 281474976710656) (hok : ∀ (i : Nat) (a : ByteArray), R[i]? = some a → strE.ok a) : Sl strE w (.slice (some ⟨blk, 0, none⟩) R.length cap) R := by
  refine ⟨_, cap, rfl, hcap, hm, hL, hok, fun _ => ⟨blk, 0, rfl, hblk, fun j u hj => ?_⟩⟩
  rw [strE_flat, List.getElem?_map] at hj
  obtain ⟨s, hs, rfl⟩ := Option.map_eq_some_iff.1 hj
  obtain ⟨h1, h2⟩ := hR j s hs
  rw [(hH j h2).1, h1, encStr_data]

set_option maxRecDepth 100000 in
set_option maxHeartbeats 1000000 in
theorem sorted_any (v : Value) (l : List ByteArray) (w : World) (h : Sl strE w v l) (hbound : l.length ≤ 1000000) :
    Calls Try.prog 56 #[v] w fun e w' => (∃ v' R, e = .returned v' ∧ Sl strE w' v' R ∧ kp.SortedOf l R ∧ ∀ p n c, v' = .slice (some p) n c → w.heap.size ≤ p.block) ∧ Below w.heap.size w w' := by
  have hS := h
  obtain ⟨A, cap, rfl, hcap, hmax, hL, hok, hA⟩ := h
  cases A with
  | none =>
    have hl : l = [] := by
      rcases Nat.eq_zero_or_pos l.length with h0 | h0
      · exact List.length_eq_zero_iff.1 h0
      · obtain ⟨b, off, e, _⟩ := hA h0
        cases e
    subst hl
    go_enter Try.func56, Try.ntmps56
    go_wp2_with fail
    refine (Try.slices_Clone_string_nil _ _ _).mono ?_
    rintro e w1 ⟨rfl, rfl⟩
    go_wp2_with fail
    refine (sortNone _ _ _ _).mono ?_
    rintro e w1 ⟨rfl, rfl⟩
    go_wp2_with fail
    refine (Try.slices_Compact_string_empty _ _ _).mono ?_
    rintro e w1 ⟨rfl, rfl⟩
    go_wp2_with fail
    go_ret
    exact ⟨⟨_, [], rfl, Sl.nil _ _, ⟨fun i x y hx => by simp at hx, by simp⟩, fun p n c e => by cases e⟩, Below.refl _ _⟩
  | some ad =>
    have hclone : Calls Try.prog 100 #[.slice (some ad) l.length cap] w fun e w' => ∃ g cap', e = .returned (.slice (some ⟨g, 0, none⟩) l.length cap') ∧ Own strE 9 w' w.heap.size (.slice (some ⟨g, 0, none⟩) l.length cap') l ∧ Below w.heap.size w w' := by
      have hshape : ∀ (v' : Value) (w' : World), Own strE 9 w' w.heap.size v' l → v' ≠ .slice none 0 0 → ∃ g cap', v' = .slice (some ⟨g, 0, none⟩) l.length cap' := by
        intro v' w' ho hn
        rcases ho.2 with ⟨e, _⟩ | ⟨g, cap', cur, e, _⟩
        · exact absurd e hn
        · exact ⟨g, cap', e⟩
      rcases Nat.eq_zero_or_pos l.length with h0 | h0
      · have hl : l = [] := List.length_eq_zero_iff.1 h0
        subst hl
        refine (Try.slices_Clone_string_zero ad cap w).mono ?_
        rintro e w' ⟨v', rfl, ho, hn, hb⟩
        obtain ⟨g, cap', rfl⟩ := hshape v' w' ho hn
        exact ⟨g, cap', rfl, ho, hb⟩
      · obtain ⟨b, off, e, hb, hc⟩ := hA h0
        injection e with e
        subst e
        refine (Try.slices_Clone_string b off l.length cap l w (Nat.le_refl _) (by omega) (fun j hj => ?_)).mono ?_
        · have := Sl.cell1 (E := strE) rfl hc (List.getElem?_eq_getElem hj) rfl
          rw [this]
          simp [List.getD, List.getElem?_eq_getElem hj]
        · rintro e w' ⟨v', rfl, ho, hn, hb⟩
          rw [List.take_length, ← strE_flat] at ho
          obtain ⟨g, cap', rfl⟩ := hshape v' w' ho hn
          exact ⟨g, cap', rfl, ho, hb⟩
    clear hA
    have HC := Lib.hid hclone
    clear hclone
    have HOK := Lib.hid hok
    clear hok hS
    go_enter Try.func56, Try.ntmps56
    go_wp2_with fail
    refine HC.out.mono ?_
    rintro e w1 ⟨g, cap', rfl, ho, hb⟩
    have hg : w.heap.size ≤ g ∧ g < w1.heap.size := ho.lt g rfl
    have hH := holds_own ho
    have hcaps : l.length ≤ cap' ∧ cap' ≤ maxLen := by
      rcases ho.2 with ⟨e, _⟩ | ⟨g', cap'', cur, e, _, _, h1, h2, _⟩
      · simp at e
      · simp at e; obtain ⟨_, rfl⟩ := e; exact ⟨h1, h2⟩
    have hsz : (l.map fun s => s.data.toList).toArray.size = l.length := by simp
    have hsort := sortStrs g cap' (l.map fun s => s.data.toList).toArray w1 hH hg.2 (by rw [hsz]; omega)
    have HO := Lib.hid ho
    have HB := Lib.hid hb
    have HH := Lib.hid hH
    have HSZ := Lib.hid hsz
    rw [hsz] at hsort
    have HSO := Lib.hid hsort
    clear ho hb hH hsz hsort
    go_wp2_with fail
    refine HSO.out.mono ?_
    rintro e w2 ⟨rfl, d', m, os, hp, hs, hw2⟩
    rw [← HSZ.out] at hp hs
    have hd : d'.size = l.length := by rw [hp.1, HSZ.out]
    have hH2 : Holds encStr w2 g 0 d' := by rw [hw2]; exact sorted_world HH.out hg.2 (by rw [hd, HSZ.out])
    have hg2 : g < w2.heap.size := by
      rw [hw2]; unfold sortWorld
      simp [grow]; omega
    have HB2 : Hid (Below w.heap.size w w2) := by rw [hw2]; exact below_sortWorld HB.out HB.out.size hg.1 0 m d' os
    have HSD := Lib.hid (compact_sorted hp hs)
    clear hw2 hp hs
    have hcomp := Try.slices_Compact_string_arr g 0 cap' d' w2 hH2 (by rw [hd]; have := hcaps.1; omega) (by rw [hd]; exact hcaps.1)
    rw [hd] at hcomp
    have HCO := Lib.hid hcomp
    have HD := Lib.hid hd
    have HH2 := Lib.hid hH2
    clear hcomp hd hH2
    go_wp2_with fail
    refine HCO.out.mono ?_
    rintro e w3 ⟨rfl, q, hw3⟩
    rw [← HD.out] at hw3
    obtain ⟨R, hR⟩ : ∃ R, (Lib.compactUpTo d' d'.size) = R := ⟨_, rfl⟩
    have hle : R.length ≤ l.length := by
      have := HSD.out
      rw [hR] at this
      have h1 := kp.nodup_le this.rise.nodup (fun x hx => (this.mem x).1 hx)
      simpa using h1
    have hsd := HSD.out
    rw [hR] at hsd
    have HB3 : Hid (Below w.heap.size w w3) := by rw [hw3]; exact below_putRow (below_ahead HB2.out q) hg.1 encStr 0 _
    have hH3 : Holds encStr w3 g 0 (R ++ List.replicate (d'.size - R.length) []).toArray := by
      rw [hw3, hR]
      refine holds_putRow encStr _ g 0 d' _ (holds_ahead encStr w2 q g 0 d' HH2.out) ?_
      have := HD.out
      simp; omega
    have hg3 : g < w3.heap.size := by rw [hw3, size_putRow]; exact hg2
    have HSL : Hid (Sl strE w3 (.slice (some ⟨g, 0, none⟩) R.length cap') (R.map toBA)) := by
      have hlen : (R.map toBA).length = R.length := by simp
      have := sl_front (cap := cap') hH3 hg3 (R.map toBA) (fun j s hs => by
        rw [List.getElem?_map] at hs
        obtain ⟨x, hx, rfl⟩ := Option.map_eq_some_iff.1 hs
        have hj : j < R.length := (List.getElem?_eq_some_iff.1 hx).1
        refine ⟨?_, by simp; omega⟩
        rw [data_toBA, getElem!_pos _ j (by simp; omega)]
        simp only [List.getElem_toArray]
        rw [List.getElem_append_left hj]
        have := (List.getElem?_eq_some_iff.1 hx).2
        exact this) (by rw [hlen]; omega) hcaps.2 (by rw [hlen]; omega) (fun i a ha => by
        have hm := (hsd.mem a).1 (List.mem_of_getElem? ha)
        obtain ⟨j, hj⟩ := List.mem_iff_getElem?.1 hm
        exact HOK.out j a hj)
      rw [hlen] at this
      exact this
    have HR := Lib.hid hR
    have HSD2 := Lib.hid hsd
    have hcl : (Lib.compactUpTo d' l.length).length = R.length := by rw [← HD.out, hR]
    rw [hcl]
    clear hw3 hH3 hR hsd hcl
    go_wp2_with fail
    go_ret
    exact ⟨⟨_, R.map toBA, rfl, HSL.out, HSD2.out, fun p n c e => by cases e; exact hg.1⟩, HB3.out⟩

set_option maxRecDepth 100000 in
set_option maxHeartbeats 1000000 in
theorem keySorts_walk (v : Value) (l : List ByteArray) (w : World) (h : Sl strE w v l) :
    Calls Try.prog 9 #[v] w fun e w' => e = .returned (.bool true) ∧ Below w.heap.size w w' := by
  have HS := Lib.hid h
  obtain ⟨A, cap, rfl, hcap, hmax, hL, hok, hA⟩ := h
  clear hok hA
  go_enter Try.func9, Try.ntmps9
  go_wp2_with fail
  refine (long_any _ l 2000 _ HS.out (by omega) (by omega)).mono ?_
  rintro e w1 ⟨⟨n, rfl, hn⟩, d, hw1⟩
  have HB1 : Hid (Below w.heap.size w w1) := by rw [hw1]; exact below_of_drewN _ _ _
  clear hw1
  by_cases c1 : 2000 < n
  · clear hn
    go_wp2_with fail
    refine (keyAwake_any _).mono ?_
    rintro e w2 ⟨rfl, d2, hw2⟩
    have HB2 : Hid (Below w.heap.size w w2) := by rw [hw2]; exact below_drewN HB1.out _
    clear hw2
    go_wp2_with fail
    go_ret
    exact ⟨rfl, HB2.out⟩
  · have hl : l.length ≤ 2000 := by have := hn (by omega); omega
    clear hn
    go_wp2_with fail
    refine (sorted_any _ l _ (HS.out.mono HB1.out (Nat.le_refl _)) (by omega)).mono ?_
    rintro e w2 ⟨⟨v2, R, rfl, hs2, hso, -⟩, hb2⟩
    have HS2 := Lib.hid hs2
    have HSO := Lib.hid hso
    have HB2 : Hid (Below w.heap.size w w2) := HB1.out.trans (hb2.mono HB1.out.size)
    obtain ⟨A2, cap2, rfl, hcap2, hmax2, hL2, -, -⟩ := hs2
    clear hso hb2
    have hrr : (kp.risingB l == kp.risingB l) = true := by simp
    have hR1 : kp.risingB R = true := (kp.risingB_iff R).2 HSO.out.rise
    go_wp2_with fail
    refine (rising_any _ l _ (HS.out.mono HB2.out (Nat.le_refl _))).mono ?_
    rintro e w3 ⟨rfl, d3, hw3⟩
    have HB3 : Hid (Below w2.heap.size w2 w3) := by rw [hw3]; exact below_of_drewN _ _ _
    have HB3' : Hid (Below w.heap.size w w3) := by rw [hw3]; exact below_drewN HB2.out _
    clear hw3
    go_wp2_with fail
    refine (refRising_any _ l _ (HS.out.mono HB3'.out (Nat.le_refl _))).mono ?_
    rintro e w4 ⟨rfl, d4, hw4⟩
    have HB4 : Hid (Below w2.heap.size w2 w4) := by rw [hw4]; exact below_drewN HB3.out _
    have HB4' : Hid (Below w.heap.size w w4) := by rw [hw4]; exact below_drewN HB3'.out _
    clear hw4
    go_wp2_with fail
    refine (refSorted_any _ l _ (HS.out.mono HB4'.out (Nat.le_refl _)) (by omega)).mono ?_
    rintro e w5 ⟨⟨v5, R5, rfl, ho5, hso5⟩, hb5⟩
    have e5 : R5 = R := hso5.unique HSO.out
    subst e5
    have HB5 : Hid (Below w2.heap.size w2 w5) := HB4.out.trans (hb5.mono HB4.out.size)
    have HB5' : Hid (Below w.heap.size w w5) := HB4'.out.trans (hb5.mono HB4'.out.size)
    have hss : sameB R5 R5 = true := by simp [sameB]
    have HS5 : Hid (Sl strE w5 v5 R5) := Sl.of_own (by have := HS2.out; exact this.choose_spec.choose_spec.2.2.2.2.1) hL2 ho5
    have hv5 := ho5.shape
    obtain ⟨A5, cap5, rfl⟩ := hv5
    clear ho5 hso5 hb5
    go_wp2_with fail
    refine (same_any _ _ R5 R5 _ (HS2.out.mono HB5.out (Nat.le_refl _)) HS5.out).mono ?_
    rintro e w6 ⟨rfl, d6, hw6⟩
    rw [hss]
    have HB6 : Hid (Below w2.heap.size w2 w6) := by rw [hw6]; exact below_drewN HB5.out _
    have HB6' : Hid (Below w.heap.size w w6) := by rw [hw6]; exact below_drewN HB5'.out _
    clear hw6
    go_wp2_with fail
    refine (rising_any _ R5 _ (HS2.out.mono HB6.out (Nat.le_refl _))).mono ?_
    rintro e w7 ⟨rfl, d7, hw7⟩
    rw [hR1]
    have HB7' : Hid (Below w.heap.size w w7) := by rw [hw7]; exact below_drewN HB6'.out _
    clear hw7
    go_wp2_with fail
    refine (keyAwake_any _).mono ?_
    rintro e w8 ⟨rfl, d8, hw8⟩
    have HB8 : Hid (Below w.heap.size w w8) := by rw [hw8]; exact below_drewN HB7'.out _
    clear hw8
    go_wp2_with fail
    go_ret
    exact ⟨rfl, HB8.out⟩
end Go.Proofs.Ytdjkefndigijjaa
