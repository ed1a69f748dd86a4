/-
  The walks over lists of texts of layer 1 (key): Long, Rising, Has, Same, Sorted, of the program and of the reference.
-/
import Derived.Test.YtdjkefndigijjaaBase
import Derived.Test.YtdjkefndigijjaaKeyWalk
import Derived.Test.YtdjkefndigijjaaSortPure
namespace Go.Proofs.Ytdjkefndigijjaa
open Go.RowKit Go.Lib
open Go.Op (bytesLess)
set_option linter.unusedVariables false

set_option maxHeartbeats 400000 in
theorem long_any (v : Value) (l : List ByteArray) (most : Int) (w : World) (h : Sl strE w v l) (h1 : 0 ≤ most) (h2 : most ≤ 1000000) :
    Calls Try.prog 54 #[v, .int .i64 most] w fun e w' => (∃ n : Int, e = .returned (.int .i64 n) ∧ (n ≤ most → l.length ≤ n)) ∧ ∃ n, w' = w.drewN n := by
  obtain ⟨A, cap, rfl, hcap, hmax, hL, hok, hA⟩ := h
  rw [maxLen_eq] at hmax
  have HOK := Lib.hid hok; clear hok
  go_enter Try.func54, Try.ntmps54
  go_wp2_with fail
  go_loopw [5, 6] (fun n i wr => ∃ (k d : Nat) (s : Int), k ≤ l.length ∧ i = .int .i64 k ∧ n = .int .i64 s ∧ k ≤ s ∧ s ≤ most + 281474976710657 ∧ wr = w.drewN d) (fun _ i _ => l.length - (intOf i).toNat)
  case atStart => exact ⟨0, 0, 0, Nat.zero_le _, rfl, rfl, by omega, by omega, rfl⟩
  case round =>
    obtain ⟨k, d, s, hk, rfl, rfl, hks, hs, rfl⟩ := hrel
    by_cases h3 : k < l.length
    · by_cases h4 : s ≤ most
      · obtain ⟨b, off, rfl, hb, hc⟩ := hA (by omega)
        have hx : l[k]? = some l[k] := List.getElem?_eq_getElem h3
        have hck := Sl.cell1 (E := strE) rfl hc hx rfl
        have hsz : l[k].size ≤ 281474976710656 := HOK.out k _ hx
        clear hx hc hA
        go_wp2_with fail
        go_roundw
        case rel => exact ⟨k + 1, d, s + (l[k].size + 1), by omega, by go_num, rfl, by omega, by omega, rfl⟩
        case measure => simp [intOf]; omega
      · clear hA
        go_wp2_with fail
        go_ret
        exact ⟨⟨s, rfl, by omega⟩, _, rfl⟩
    · clear hA
      go_wp2_with fail
      go_ret
      exact ⟨⟨s, rfl, by omega⟩, _, rfl⟩

/-- the walk of a loop over neighbours: the same for the program and the reference, up to the test -/
theorem rising_step {l : List ByteArray} {k : Nat} (h : ∀ i x y, i + 1 < k → l[i]? = some x → l[i + 1]? = some y → kp.ltS x y) (hk : 1 ≤ k)
    {x y : ByteArray} (hx : l[k - 1]? = some x) (hy : l[k]? = some y) (hl : kp.ltS x y) : ∀ i x y, i + 1 < k + 1 → l[i]? = some x → l[i + 1]? = some y → kp.ltS x y := by
  intro i a b hi ha hb
  rcases Nat.lt_or_ge (i + 1) k with h1 | h1
  · exact h i a b h1 ha hb
  · have e : i = k - 1 := by omega
    subst e
    rw [show k - 1 + 1 = k by omega] at hb
    rw [hx] at ha; rw [hy] at hb
    simp at ha hb; subst ha; subst hb
    exact hl

theorem not_rising {l : List ByteArray} {k : Nat} (hk : 1 ≤ k) {x y : ByteArray} (hx : l[k - 1]? = some x) (hy : l[k]? = some y) (hl : ¬ kp.ltS x y) : kp.risingB l = false := by
  rw [← Bool.not_eq_true, kp.risingB_iff]
  intro h
  exact hl (h (k - 1) x y hx (by rw [show k - 1 + 1 = k by omega]; exact hy))

set_option maxHeartbeats 400000 in
theorem rising_any (v : Value) (l : List ByteArray) (w : World) (h : Sl strE w v l) :
    Calls Try.prog 57 #[v] w fun e w' => e = .returned (.bool (kp.risingB l)) ∧ ∃ n, w' = w.drewN n := by
  obtain ⟨A, cap, rfl, hcap, hmax, hL, hok, hA⟩ := h
  rw [maxLen_eq] at hmax
  clear hok
  go_enter Try.func57, Try.ntmps57
  go_wp2_with fail
  go_loopw [3] (fun i wr => ∃ (k d : Nat), 1 ≤ k ∧ i = .int .i64 k ∧ Hid (∀ i x y, i + 1 < k → l[i]? = some x → l[i + 1]? = some y → kp.ltS x y) ∧ wr = w.drewN d) (fun i _ => l.length - (intOf i).toNat)
  case atStart => exact ⟨1, 0, by omega, rfl, (fun i x y hi => absurd hi (by omega)), rfl⟩
  case round =>
    obtain ⟨k, d, hk, rfl, HR, rfl⟩ := hrel
    by_cases h3 : k < l.length
    · obtain ⟨b, off, rfl, hb, hc⟩ := hA (by omega)
      have hx : l[k - 1]? = some l[k - 1] := List.getElem?_eq_getElem (by omega)
      have hy : l[k]? = some l[k] := List.getElem?_eq_getElem h3
      have hck1 := Sl.cell1 (E := strE) rfl hc hx rfl
      have hck2 := Sl.cell1 (E := strE) rfl hc hy rfl
      generalize l[k - 1] = x at *
      generalize l[k] = y at *
      have HX := Lib.hid hx
      have HY := Lib.hid hy
      have ek : ((k : Int) - 1).toNat = k - 1 := by omega
      have ek1 : 0 ≤ (k : Int) - 1 := by omega
      clear hx hy hc hA
      have ew : IntKind.i64.wrap ((k : Int) - 1) = (k : Int) - 1 := IntWalk.i64_in _ (by omega)
      rcases h4 : bytesLess x.toList y.toList
      · have HB : Hid (kp.risingB l = false) := not_rising hk HX.out HY.out (by simp [kp.ltS, h4])
        go_wp2_with fail
        go_quiet (fail)
        go_wp2_with fail
        go_ret
        exact ⟨by rw [HB.out]; rfl, _, by first | rfl | (simp only [World.drewN_drewN]; rfl)⟩
      · have HB := Lib.hid (rising_step HR.out hk HX.out HY.out h4)
        go_wp2_with fail
        go_quiet (fail)
        go_wp2_with fail
        go_roundw
        case rel => exact ⟨k + 1, _, by omega, by go_num, HB, by first | rfl | (simp only [World.drewN_drewN]; rfl)⟩
        case measure => simp [intOf]; omega
    · have HB : Hid (kp.risingB l = true) := (kp.risingB_iff l).2 (fun i x y hx hy => by
        have : i + 1 < l.length := (List.getElem?_eq_some_iff.1 hy).1
        exact HR.out i x y (by omega) hx hy)
      clear hA
      go_wp2_with fail
      go_ret
      exact ⟨by rw [HB.out]; rfl, _, by first | rfl | (simp only [World.drewN_drewN]; rfl)⟩

set_option maxHeartbeats 400000 in
theorem refRising_any (v : Value) (l : List ByteArray) (w : World) (h : Sl strE w v l) :
    Calls Try.prog 58 #[v] w fun e w' => e = .returned (.bool (kp.risingB l)) ∧ ∃ n, w' = w.drewN n := by
  obtain ⟨A, cap, rfl, hcap, hmax, hL, hok, hA⟩ := h
  rw [maxLen_eq] at hmax
  have HOK := Lib.hid hok; clear hok
  go_enter Try.func58, Try.ntmps58
  go_wp2_with fail
  go_loopw [3] (fun i wr => ∃ (k d : Nat), 1 ≤ k ∧ i = .int .i64 k ∧ Hid (∀ i x y, i + 1 < k → l[i]? = some x → l[i + 1]? = some y → kp.ltS x y) ∧ wr = w.drewN d) (fun i _ => l.length - (intOf i).toNat)
  case atStart => exact ⟨1, 0, by omega, rfl, (fun i x y hi => absurd hi (by omega)), rfl⟩
  case round =>
    obtain ⟨k, d, hk, rfl, HR, rfl⟩ := hrel
    by_cases h3 : k < l.length
    · obtain ⟨b, off, rfl, hb, hc⟩ := hA (by omega)
      have hx : l[k - 1]? = some l[k - 1] := List.getElem?_eq_getElem (by omega)
      have hy : l[k]? = some l[k] := List.getElem?_eq_getElem h3
      have hsx : l[k - 1].size ≤ 281474976710656 := HOK.out _ _ hx
      have hsy : l[k].size ≤ 281474976710656 := HOK.out _ _ hy
      have hck1 := Sl.cell1 (E := strE) rfl hc hx rfl
      have hck2 := Sl.cell1 (E := strE) rfl hc hy rfl
      generalize l[k - 1] = x at *
      generalize l[k] = y at *
      have HX := Lib.hid hx
      have HY := Lib.hid hy
      have ek : ((k : Int) - 1).toNat = k - 1 := by omega
      have ek1 : 0 ≤ (k : Int) - 1 := by omega
      clear hx hy hc hA
      have ew : IntKind.i64.wrap ((k : Int) - 1) = (k : Int) - 1 := IntWalk.i64_in _ (by omega)
      rcases h4 : bytesLess x.data.toList y.data.toList
      · have HB : Hid (kp.risingB l = false) := not_rising hk HX.out HY.out (by rw [kp.ltS, ByteArray.toList_eq, ByteArray.toList_eq, h4]; simp)
        go_wp2_with fail
        go_quiet ((go_at_call 84; exact q_add (less_any x y _ (by omega) (by omega))))
        go_wp2_with fail
        go_ret
        exact ⟨by rw [HB.out]; rfl, _, by first | rfl | (simp only [World.drewN_drewN]; rfl)⟩
      · have HB := Lib.hid (rising_step HR.out hk HX.out HY.out (by rw [kp.ltS, ByteArray.toList_eq, ByteArray.toList_eq, h4]))
        go_wp2_with fail
        go_quiet ((go_at_call 84; exact q_add (less_any x y _ (by omega) (by omega))))
        go_wp2_with fail
        go_roundw
        case rel => exact ⟨k + 1, _, by omega, by go_num, HB, by first | rfl | (simp only [World.drewN_drewN]; rfl)⟩
        case measure => simp [intOf]; omega
    · have HB : Hid (kp.risingB l = true) := (kp.risingB_iff l).2 (fun i x y hx hy => by
        have : i + 1 < l.length := (List.getElem?_eq_some_iff.1 hy).1
        exact HR.out i x y (by omega) hx hy)
      clear hA
      go_wp2_with fail
      go_ret
      exact ⟨by rw [HB.out]; rfl, _, by first | rfl | (simp only [World.drewN_drewN]; rfl)⟩

theorem mem_get {α : Type} {l : List α} {a : α} : a ∈ l ↔ ∃ i : Nat, l[i]? = some a := List.mem_iff_getElem?

def hasB (l : List ByteArray) (s : ByteArray) : Bool := l.any fun x => decide (x = s)
theorem hasB_iff (l : List ByteArray) (s : ByteArray) : hasB l s = true ↔ s ∈ l := by simp [hasB, List.any_eq_true]

theorem ba_beq {a b : ByteArray} : (a.toList == b.toList) = decide (a = b) := by
  by_cases h : a = b
  · subst h; simp
  · have : a.toList ≠ b.toList := fun e => h (kp.ba_ext e)
    simp [h, this]

set_option maxHeartbeats 400000 in
theorem has_any (v : Value) (l : List ByteArray) (s : ByteArray) (w : World) (h : Sl strE w v l) :
    Calls Try.prog 104 #[v, .string s] w fun e w' => e = .returned (.bool (hasB l s)) ∧ ∃ n, w' = w.drewN n := by
  obtain ⟨A, cap, rfl, hcap, hmax, hL, hok, hA⟩ := h
  rw [maxLen_eq] at hmax
  clear hok
  go_enter Try.func104, Try.ntmps104
  go_wp2_with fail
  go_loopw [5] (fun i wr => ∃ (k d : Nat), i = .int .i64 k ∧ Hid (∀ j, j < k → l[j]? ≠ some s) ∧ wr = w.drewN d) (fun i _ => l.length - (intOf i).toNat)
  case atStart => exact ⟨0, 0, rfl, (fun j hj => absurd hj (by omega)), rfl⟩
  case round =>
    obtain ⟨k, d, rfl, HR, rfl⟩ := hrel
    by_cases h3 : k < l.length
    · obtain ⟨b, off, rfl, hb, hc⟩ := hA (by omega)
      have hx : l[k]? = some l[k] := List.getElem?_eq_getElem h3
      have hck := Sl.cell1 (E := strE) rfl hc hx rfl
      generalize l[k] = x at *
      have HX := Lib.hid hx
      clear hx hc hA
      by_cases h4 : x = s
      · have HB : Hid (hasB l s = true) := by
          show hasB l s = true
          rw [hasB_iff]
          exact mem_get.2 ⟨k, by rw [HX.out, h4]⟩
        have h4' : (x.toList == s.toList) = true := by rw [ba_beq]; simp [h4]
        clear h4
        go_wp2_with fail
        go_ret
        exact ⟨by rw [HB.out]; rfl, _, by first | rfl | (simp only [World.drewN_drewN]; rfl)⟩
      · have HB : Hid (∀ j, j < k + 1 → l[j]? ≠ some s) := by
          intro j hj
          rcases Nat.lt_or_ge j k with h | h
          · exact HR.out j h
          · rw [show j = k by omega, HX.out]; simp [h4]
        have h4' : (x.toList == s.toList) = false := by rw [ba_beq]; simp [h4]
        clear h4
        go_wp2_with fail
        go_roundw
        case rel => exact ⟨k + 1, _, by go_num, HB, by first | rfl | (simp only [World.drewN_drewN]; rfl)⟩
        case measure => simp [intOf]; omega
    · have HB : Hid (hasB l s = false) := by
        show hasB l s = false
        rw [← Bool.not_eq_true, hasB_iff]
        intro hm
        obtain ⟨j, hj⟩ := mem_get.1 hm
        exact HR.out j (by have := (List.getElem?_eq_some_iff.1 hj).1; omega) hj
      clear hA
      go_wp2_with fail
      go_ret
      exact ⟨by rw [HB.out]; rfl, _, by first | rfl | (simp only [World.drewN_drewN]; rfl)⟩

def sameB (l m : List ByteArray) : Bool := decide (l = m)

set_option maxHeartbeats 400000 in
theorem same_any (v u : Value) (l m : List ByteArray) (w : World) (h : Sl strE w v l) (h' : Sl strE w u m) :
    Calls Try.prog 59 #[v, u] w fun e w' => e = .returned (.bool (sameB l m)) ∧ ∃ n, w' = w.drewN n := by
  obtain ⟨A, cap, rfl, hcap, hmax, hL, hok, hA⟩ := h
  obtain ⟨A', cap', rfl, hcap', hmax', hL', hok', hA'⟩ := h'
  rw [maxLen_eq] at hmax hmax'
  clear hok hok'
  by_cases hlen : l.length = m.length
  · have hl' : ((l.length : Int) != (m.length : Int)) = false := by rw [hlen]; simp
    have HLEN := Lib.hid hlen
    have hle : l.length ≤ m.length := by omega
    clear hlen
    go_enter Try.func59, Try.ntmps59
    go_wp2_with fail
    go_loopw [5] (fun i wr => ∃ (k d : Nat), i = .int .i64 k ∧ Hid (∀ j, j < k → l[j]? = m[j]?) ∧ wr = w.drewN d) (fun i _ => l.length - (intOf i).toNat)
    case atStart => exact ⟨0, 0, rfl, (fun j hj => absurd hj (by omega)), rfl⟩
    case round =>
      obtain ⟨k, d, rfl, HR, rfl⟩ := hrel
      by_cases h3 : k < l.length
      · have h3' : k < m.length := by omega
        obtain ⟨b, off, rfl, hb, hc⟩ := hA (by omega)
        obtain ⟨b', off', rfl, hb', hc'⟩ := hA' (by omega)
        have hx : l[k]? = some l[k] := List.getElem?_eq_getElem h3
        have hy : m[k]? = some m[k] := List.getElem?_eq_getElem h3'
        have hck := Sl.cell1 (E := strE) rfl hc hx rfl
        have hck' := Sl.cell1 (E := strE) rfl hc' hy rfl
        generalize l[k] = x at *
        generalize m[k] = y at *
        have HX := Lib.hid hx
        have HY := Lib.hid hy
        clear hx hy hc hA hc' hA'
        by_cases h4 : x = y
        · have HB : Hid (∀ j, j < k + 1 → l[j]? = m[j]?) := by
            intro j hj
            rcases Nat.lt_or_ge j k with h | h
            · exact HR.out j h
            · rw [show j = k by omega, HX.out, HY.out, h4]
          have h4' : (!x.toList == y.toList) = false := by rw [ba_beq]; simp [h4]
          have h4'' : (x.toList == y.toList) = true := by rw [ba_beq]; simp [h4]
          clear h4
          go_wp2_with fail
          go_quiet (fail)
          go_wp2_with fail
          go_roundw
          case rel => exact ⟨k + 1, _, by go_num, HB, by first | rfl | (simp only [World.drewN_drewN]; rfl)⟩
          case measure => simp [intOf]; omega
        · have HB : Hid (sameB l m = false) := by
            show sameB l m = false
            simp only [sameB, decide_eq_false_iff_not]
            intro e
            have h1 := HX.out; have h2 := HY.out
            rw [e, h2] at h1
            simp at h1
            exact h4 h1.symm
          have h4'' : (x.toList == y.toList) = false := by rw [ba_beq]; simp [h4]
          clear h4
          go_wp2_with fail
          go_quiet (fail)
          go_wp2_with fail
          go_ret
          exact ⟨by rw [HB.out]; rfl, _, by first | rfl | (simp only [World.drewN_drewN]; rfl)⟩
      · have HB : Hid (sameB l m = true) := by
          show sameB l m = true
          simp only [sameB, decide_eq_true_eq]
          apply List.ext_getElem?
          intro j
          rcases Nat.lt_or_ge j k with h | h
          · exact HR.out j h
          · have := HLEN.out
            rw [List.getElem?_eq_none (by omega), List.getElem?_eq_none (by omega)]
        clear hA hA'
        go_wp2_with fail
        go_ret
        exact ⟨by rw [HB.out]; rfl, _, by first | rfl | (simp only [World.drewN_drewN]; rfl)⟩
  · have HB : Hid (sameB l m = false) := by
      show sameB l m = false
      simp only [sameB, decide_eq_false_iff_not]
      intro e; exact hlen (by rw [e])
    have hl' : ((l.length : Int) != (m.length : Int)) = true := by rw [bne_iff_ne]; omega
    clear hA hA' hlen
    go_enter Try.func59, Try.ntmps59
    go_wp2_with fail
    go_ret
    exact ⟨by rw [HB.out]; rfl, 0, rfl⟩

theorem infoStr : (Try.prog.info? 9).map (fun i => (i.zero, i.size, i.bytes)) = some (some (.string ⟨#[]⟩), 1, 16) := by kernel_rfl

theorem own_nil {α : Type} (E : Enc α) (t : TypeId) (w : World) (base : Nat) : Own E t w base (.slice none 0 0) ([] : List α) := World.ownsRow_nil _ _ _ _

theorem own_snoc {α : Type} {E : Enc α} {t : TypeId} {w : World} {base : Nat} {v : Value} {l : List α} {a : α} (h : w.ownsRow base t E.size v (l.length + 1) (E.flat l ++ E.cells a)) : Own E t w base v (l ++ [a]) := by
  show w.ownsRow base t E.size v (l ++ [a]).length (E.flat (l ++ [a]))
  rw [E.flat_append, E.flat_one]; simpa using h

set_option maxRecDepth 100000 in
set_option maxHeartbeats 1000000 in
theorem refSorted_any (v : Value) (l : List ByteArray) (w : World) (h : Sl strE w v l) (hbound : l.length ≤ 1000000) :
    Calls Try.prog 60 #[v] w fun e w' => (∃ v' R, e = .returned v' ∧ Own strE 9 w' w.heap.size v' R ∧ kp.SortedOf l R) ∧ Below w.heap.size w w' := by
  have hS := h
  obtain ⟨A, cap, rfl, hcap, hmax, hL, hok, hA⟩ := h
  rw [maxLen_eq] at hmax
  obtain ⟨i0, hi, hz0, hz1, hz2⟩ := info_parts infoStr
  have HOK := Lib.hid hok; clear hok
  have HS := Lib.hid hS; clear hS
  go_enter Try.func60, Try.ntmps60
  go_wp2_with fail
  go_loopw [3] (fun o wr => ∃ O : List ByteArray, Hid (Own strE 9 wr w.heap.size o O) ∧ Hid (kp.Picked l O) ∧ Hid (Below w.heap.size w wr)) (fun o _ => l.length - lenOf o)
  case atStart => exact ⟨[], own_nil _ _ _ _, kp.Picked.start l, Below.refl _ _⟩
  case round =>
    obtain ⟨O, HO, HP, HB⟩ := hrel
    obtain ⟨wo, rfl⟩ : ∃ wo : World, wo = wr := ⟨_, rfl⟩
    have HSl : Hid (Sl strE wo (.slice A l.length cap) l) := HS.out.mono HB.out (Nat.le_refl _)
    have HSO : Hid (Sl strE wo u3 O) := Sl.of_own (fun i a ha => by
      have : a ∈ l := HP.out.sub a (List.mem_of_getElem? ha)
      obtain ⟨j, hj⟩ := mem_get.1 this
      exact HOK.out j a hj) (by have := HP.out.le; omega) HO.out
    have hOle : O.length ≤ l.length := HP.out.le
    go_wp2_with fail
    go_loopw [4, 5] (fun bst i wi => ∃ (k d : Nat) (best : Int), bst = .int .i64 best ∧ i = .int .i64 k ∧ k ≤ l.length ∧ Hid (kp.Best l O k best) ∧ (best = -1 ∨ ∃ b : Nat, best = b ∧ b < k) ∧ wi = wo.drewN d) (fun _ i _ => l.length - (intOf i).toNat)
    case atStart => exact ⟨0, 0, -1, rfl, rfl, Nat.zero_le _, (.inl ⟨rfl, fun j x hj => absurd hj (by omega)⟩), .inl rfl, rfl⟩
    case round =>
      obtain ⟨k, d, best, rfl, rfl, hkl, HBest, hform, rfl⟩ := hrel
      by_cases h3 : k < l.length
      · obtain ⟨A', cap', eA, -, -, -, -, hA'⟩ := HSl.out
        obtain ⟨b, off, e', hb, hc⟩ := hA' (by omega)
        have eAA : A = some ⟨b, off, none⟩ := by injection eA with e1 e2 e3; rw [e1, e']
        clear eA e' hA'
        subst eAA
        have hx : l[k]? = some l[k] := List.getElem?_eq_getElem h3
        have hck := Sl.cell1 (E := strE) rfl hc hx rfl
        have hsx : l[k].size ≤ 281474976710656 := HOK.out _ _ hx
        generalize l[k] = x at *
        have HX := Lib.hid hx
        have HC := Lib.hid hc
        clear hx hc hA
        rcases h4 : hasB O x
        · have HN : Hid (x ∉ O) := fun hm => by rw [(hasB_iff O x).2 hm] at h4; cases h4
          rcases hform with rfl | ⟨b0, rfl, hb0⟩
          · have HB1 := Lib.hid (kp.best_first HBest.out HX.out HN.out)
            go_wp2_with fail
            go_quiet ((first | (go_at_call 104; exact q_add (has_any _ _ _ _ (HSO.out.drewN _))) | (go_at_call 84; exact q_add (less_any _ _ _ (by omega) (by omega)))))
            go_wp2_with fail
            go_roundw
            case rel => exact ⟨k + 1, _, k, rfl, by go_num, by omega, HB1, .inr ⟨k, rfl, by omega⟩, by first | rfl | (simp only [World.drewN_drewN]; rfl)⟩
            case measure => simp [intOf]; omega
          · have hb0l : b0 < l.length := by omega
            have hy : l[b0]? = some (l[b0]'(by omega)) := List.getElem?_eq_getElem (by omega)
            have hcy := Sl.cell1 (E := strE) rfl HC.out hy rfl
            have hsy : (l[b0]'(by omega)).size ≤ 281474976710656 := HOK.out _ _ hy
            generalize (l[b0]'(by omega)) = y at *
            have HY := Lib.hid hy
            clear hy
            rcases h5 : bytesLess x.data.toList y.data.toList
            · have HB1 := Lib.hid (kp.best_not HBest.out HX.out HY.out (by rw [kp.ltS, ByteArray.toList_eq, ByteArray.toList_eq, h5]; simp))
              go_wp2_with fail
              go_quiet ((first | (go_at_call 104; exact q_add (has_any _ _ _ _ (HSO.out.drewN _))) | (go_at_call 84; exact q_add (less_any _ _ _ (by omega) (by omega)))))
              go_wp2_with fail
              go_roundw
              case rel => exact ⟨k + 1, _, b0, rfl, by go_num, by omega, HB1, .inr ⟨b0, rfl, by omega⟩, by first | rfl | (simp only [World.drewN_drewN]; rfl)⟩
              case measure => simp [intOf]; omega
            · have HB1 := Lib.hid (kp.best_less HBest.out HX.out HY.out HN.out (by rw [kp.ltS, ByteArray.toList_eq, ByteArray.toList_eq, h5]))
              go_wp2_with fail
              go_quiet ((first | (go_at_call 104; exact q_add (has_any _ _ _ _ (HSO.out.drewN _))) | (go_at_call 84; exact q_add (less_any _ _ _ (by omega) (by omega)))))
              go_wp2_with fail
              go_roundw
              case rel => exact ⟨k + 1, _, k, rfl, by go_num, by omega, HB1, .inr ⟨k, rfl, by omega⟩, by first | rfl | (simp only [World.drewN_drewN]; rfl)⟩
              case measure => simp [intOf]; omega
        · have HB1 := Lib.hid (kp.best_in HBest.out HX.out ((hasB_iff O x).1 h4))
          have hform' : best = -1 ∨ ∃ b : Nat, best = b ∧ b < k + 1 := by
            rcases hform with h | ⟨b0, h, h'⟩
            · exact .inl h
            · exact .inr ⟨b0, h, by omega⟩
          have HF := Lib.hid hform'
          clear hform hform'
          go_wp2_with fail
          go_quiet ((first | (go_at_call 104; exact q_add (has_any _ _ _ _ (HSO.out.drewN _))) | (go_at_call 84; exact q_add (less_any _ _ _ (by omega) (by omega)))))
          go_wp2_with fail
          go_roundw
          case rel => exact ⟨k + 1, _, best, rfl, by go_num, by omega, HB1, HF, by first | rfl | (simp only [World.drewN_drewN]; rfl)⟩
          case measure => simp [intOf]; omega
      · clear hA
        rcases hform with rfl | ⟨b0, rfl, hb0⟩
        · have HR : Hid (kp.SortedOf l O) := ⟨HP.out.rise, fun x => ⟨HP.out.sub x, kp.best_none HBest.out (by omega) x⟩⟩
          go_wp2_with fail
          go_ret
          exact ⟨⟨_, O, rfl, HO.out.drewN _, HR.out⟩, below_drewN HB.out _⟩
        · have hb0l : b0 < l.length := by omega
          obtain ⟨A', cap', eA, -, -, -, -, hA'⟩ := HSl.out
          obtain ⟨b, off, e', hb, hc⟩ := hA' (by omega)
          have eAA : A = some ⟨b, off, none⟩ := by injection eA with e1 e2 e3; rw [e1, e']
          clear eA e' hA'
          subst eAA
          have hy : l[b0]? = some (l[b0]'(by omega)) := List.getElem?_eq_getElem (by omega)
          have hcy := Sl.cell1 (E := strE) rfl hc hy rfl
          generalize (l[b0]'(by omega)) = y at *
          have HP1 := Lib.hid (kp.best_some HBest.out (by omega) HP.out hy)
          have hlen1 : O.length + 1 ≤ l.length := by
            have h := HP1.out.le
            simpa using h
          have HBs : Hid (w.heap.size ≤ wo.heap.size) := HB.out.size
          have hbs : w.heap.size ≤ wo.heap.size := HBs.out
          clear hy hc
          go_wp2_with (at_builtin; refine wpList_append_own _ rfl _ _ 35 rfl w.heap.size 9 i0 (.string ⟨#[]⟩) 1 16 Try.underlying35 hi hz0 hz1 hz2 rfl (by decide) _ _ _ rfl ((HO.out.drewN d).alloc _) ⟨wo.heap.size, 0, none⟩ 1 1 [.string y] rfl rfl ?c1 ?c2 ?c3 ?c4 ?c5 ?_)
          case c1 => exact cell_one_new _ _ _
          case c2 => intro u hu; simp at hu; subst hu; rfl
          case c3 => unfold maxLen; omega
          case c4 => omega
          case c5 => simp; omega
          intro v' w1 hown' hgrow _
          have hB1 : Below w.heap.size w w1 := ((below_drewN HB.out d).alloc hbs _).grown hgrow (by simp; omega) (fun j hj => (HO.out.lt j hj).1)
          go_wp2_with fail
          go_roundw
          case rel => exact ⟨O ++ [y], own_snoc hown', HP1.out, hB1⟩
          case measure =>
            rw [(own_snoc hown').lenOf, HO.out.lenOf]; simp; omega
end Go.Proofs.Ytdjkefndigijjaa
