/-
  The walks of layer 45 (fair): Turns, Fair, of the program and of the reference; lists of numbers held against each other.
-/
import Derived.Test.YtdjkefndigijjaaBase
import Derived.Test.YtdjkefndigijjaaFairPure
import Derived.Maps.OwnOps
import Derived.Maps.Views
namespace Go.Proofs.Ytdjkefndigijjaa
open Go.RowKit Go.Lib Go.Maps
set_option linter.unusedVariables false

theorem infoInt : (Try.prog.info? 3).map (fun i => (i.zero, i.size, i.bytes)) = some (some (.int .i64 0), 1, 8) := by kernel_rfl

theorem counts_nil (t : Nat) : fp.counts [] t = List.replicate t 0 := by
  apply List.ext_getElem?
  intro i
  by_cases h : i < t
  · rw [fp.counts_get _ _ _ h]; simp [h]
  · rw [List.getElem?_eq_none (by rw [fp.counts_length]; omega), List.getElem?_eq_none (by simp; omega)]

theorem take_succ_get {α : Type} {l : List α} {k : Nat} {a : α} (h : l[k]? = some a) : l.take (k + 1) = l.take k ++ [a] := by
  rw [List.take_add_one, h]; rfl

set_option maxRecDepth 100000 in
set_option maxHeartbeats 1000000 in
theorem turns_any (v : Value) (l : List Int) (t : Int) (w : World) (h : Sl intE w v l) (ht : 1 ≤ t) (ht' : t ≤ 510) (hbound : l.length ≤ 1000000) :
    Calls Try.prog 12 #[v, .int .i64 t] w fun e w' => (∃ v', e = .returned v' ∧ Own intE 3 w' w.heap.size v' (fp.counts l t.toNat)) ∧ Below w.heap.size w w' := by
  obtain ⟨A, cap, rfl, hcap, hmax, hL, hok, hA⟩ := h
  rw [maxLen_eq] at hmax
  have HOK := Lib.hid hok; clear hok
  obtain ⟨n, rfl⟩ := Int.eq_ofNat_of_zero_le (show 0 ≤ t by omega)
  rw [Int.toNat_natCast]
  obtain ⟨i0, hi, hz0, hz1, hz2⟩ := info_parts infoInt
  go_enter Try.func12, Try.ntmps12
  go_wp2_with (at_make; refine wpList_make_full _ rfl _ _ 22 rfl w.heap.size 3 i0 (.int .i64 0) 1 Try.underlying22 hi hz0 hz1 .i64 .i64 n n n rfl rfl rfl rfl ?b1 ?b2 ?b3 ?_)
  case b1 => rw [hz2]; omega
  case b2 => unfold maxLen; omega
  case b3 => exact Nat.le_refl _
  intro w1 hown hgrow
  go_wp2_with fail
  have HO := Lib.hid (Own.made_int hown); clear hown
  have HB := Lib.hid (((Below.refl w.heap.size w).grown hgrow (Nat.le_refl _) (by simp))); clear hgrow
  have HS : Hid (∀ wr : World, Below w.heap.size w wr → Sl intE wr (.slice A l.length cap) l) := fun wr hb => Sl.mono (w := w) ⟨A, cap, rfl, hcap, hmax, hL, HOK.out, hA⟩ hb (Nat.le_refl _)
  go_loopw [18] (fun i wr => ∃ k : Nat, i = .int .i64 k ∧ k ≤ l.length ∧ Hid (Own intE 3 wr w.heap.size (.slice (some ⟨w.heap.size, 0, none⟩) n n) (fp.counts (l.take k) n)) ∧ Hid (Below w.heap.size w wr)) (fun i _ => l.length - (intOf i).toNat)
  case atStart => exact ⟨0, rfl, Nat.zero_le _, by rw [List.take_zero, counts_nil]; exact HO.out, HB.out⟩
  case round =>
    obtain ⟨k, rfl, hkl, HO1, HB1⟩ := hrel
    clear HO HB hA
    by_cases h3 : k < l.length
    · obtain ⟨A', cap', eA, -, -, -, -, hA'⟩ := HS.out wr HB1.out
      obtain ⟨b, off, e', hb, hc⟩ := hA' (by omega)
      have eAA : A = some ⟨b, off, none⟩ := by injection eA with e1 e2 e3; rw [e1, e']
      clear eA e' hA'
      subst eAA
      have hx : l[k]? = some l[k] := List.getElem?_eq_getElem h3
      have hck := Sl.cell1 (E := intE) rfl hc hx rfl
      obtain ⟨hx1, hx2⟩ := HOK.out k _ hx
      generalize l[k] = x at *
      have HX := Lib.hid hx
      clear hx hc
      have ht1 := Lib.hid (take_succ_get HX.out)
      by_cases hin : 0 ≤ x ∧ x < (n : Int)
      · obtain ⟨hin1, hin2⟩ := hin
        obtain ⟨m, rfl⟩ := Int.eq_ofNat_of_zero_le hin1
        have hm : m < n := by omega
        have hget := fp.counts_get (l.take k) n m hm
        have hlen := fp.counts_length (l.take k) n
        have ho1 : Own intE 3 wr w.heap.size (.slice (some ⟨w.heap.size, 0, none⟩) (fp.counts (l.take k) n).length n) (fp.counts (l.take k) n) := by rw [hlen]; exact HO1.out
        have hcm := Own.cell1 (E := intE) rfl ho1 hget rfl
        have hfm := Own.frozen1 ho1 rfl m
        have hbd : (l.take k).countP (fun x => x == (m : Int)) ≤ 1000000 := by
          have h1 := List.countP_le_length (p := fun x => x == (m : Int)) (l := l.take k)
          have h2 := List.length_take_le k l
          omega
        have HN : Hid (Own intE 3 (wr.setCell ⟨w.heap.size, m, none⟩ (.int .i64 (((l.take k).countP (fun x => x == (m : Int)) : Nat) + 1))) w.heap.size (.slice (some ⟨w.heap.size, 0, none⟩) n n) (fp.counts (l.take (k + 1)) n)) := by
          have h := Own.stored1 (E := intE) rfl ho1 m (a := ((l.take k).countP (fun x => x == (m : Int)) : Nat) + 1) rfl
          rw [List.length_set, hlen] at h
          show Own _ _ _ _ _ _
          rw [ht1.out, fp.counts_in _ _ _ hm]
          exact h
        have HBN : Hid (Below w.heap.size w (wr.setCell ⟨w.heap.size, m, none⟩ (.int .i64 (((l.take k).countP (fun x => x == (m : Int)) : Nat) + 1)))) := HB1.out.setCell (Nat.le_refl _) _
        generalize (l.take k).countP (fun x => x == (m : Int)) = c at *
        clear hget ho1 hlen
        go_wp2_with fail
        go_roundw
        case rel => exact ⟨k + 1, by go_num, by omega, HN.out, HBN.out⟩
        case measure => simp [intOf]; omega
      · have HN : Hid (fp.counts (l.take (k + 1)) n = fp.counts (l.take k) n) := by
          show _ = _
          rw [ht1.out, fp.counts_out _ _ _ (by omega)]
        have h1 : (decide (0 ≤ x) && decide (x < (n : Int))) = false := by
          rw [← Bool.not_eq_true, Bool.and_eq_true, decide_eq_true_eq, decide_eq_true_eq]; exact hin
        by_cases h0 : 0 ≤ x
        all_goals
          go_wp2_with fail
          go_roundw
          case rel => exact ⟨k + 1, by go_num, by omega, by rw [HN.out]; exact HO1.out, HB1.out⟩
          case measure => simp [intOf]; omega
    · have e : l.take k = l := List.take_of_length_le (by omega)
      have HE := Lib.hid e
      clear e
      go_wp2_with fail
      go_ret
      have h2 := HO1.out
      rw [HE.out] at h2
      exact ⟨⟨.slice (some ⟨w.heap.size, 0, none⟩) n n, rfl, h2⟩, HB1.out⟩

theorem turns_none (v : Value) (l : List Int) (t : Int) (w : World) (h : Sl intE w v l) (ht : t < 1 ∨ 510 < t) :
    Calls Try.prog 12 #[v, .int .i64 t] w fun e w' => e = .returned (.slice none 0 0) ∧ w = w' := by
  obtain ⟨A, cap, rfl, hcap, hmax, hL, hok, hA⟩ := h
  clear hok hA
  by_cases h1 : t < 1
  · go_enter Try.func12, Try.ntmps12
    go_wp2_with fail
    go_ret
    exact ⟨rfl, rfl⟩
  · have h2 : 510 < t := by omega
    go_enter Try.func12, Try.ntmps12
    go_wp2_with fail
    go_ret
    exact ⟨rfl, rfl⟩

def sameI (l m : List Int) : Bool := decide (l = m)

set_option maxRecDepth 100000 in
set_option maxHeartbeats 400000 in
theorem ints_any (v u : Value) (l m : List Int) (w : World) (h : Sl intE w v l) (h' : Sl intE w u m) :
    Calls Try.prog 14 #[v, u] w fun e w' => e = .returned (.bool (sameI l m)) ∧ ∃ n, w' = w.drewN n := by
  obtain ⟨A, cap, rfl, hcap, hmax, hL, hok, hA⟩ := h
  obtain ⟨A', cap', rfl, hcap', hmax', hL', hok', hA'⟩ := h'
  rw [maxLen_eq] at hmax hmax'
  clear hok hok'
  by_cases hlen : l.length = m.length
  · have hl' : ((l.length : Int) != (m.length : Int)) = false := by rw [hlen]; simp
    have HLEN := Lib.hid hlen
    have hle : l.length ≤ m.length := by omega
    clear hlen
    go_enter Try.func14, Try.ntmps14
    go_wp2_with fail
    go_loopw [5] (fun i wr => ∃ (k d : Nat), i = .int .i64 k ∧ Hid (∀ j, j < k → l[j]? = m[j]?) ∧ wr = w.drewN d) (fun i _ => l.length - (intOf i).toNat)
    case atStart => exact ⟨0, 0, rfl, (fun j hj => absurd hj (by omega)), rfl⟩
    case round =>
      obtain ⟨k, d, rfl, HR, rfl⟩ := hrel
      by_cases h3 : k < l.length
      · have h3' : k < m.length := by omega
        obtain ⟨b, off, rfl, hb, hc⟩ := hA (by omega)
        obtain ⟨b', off', rfl, hb', hc'⟩ := hA' (by omega)
        have hx : l[k]? = some l[k] := List.getElem?_eq_getElem h3
        have hy : m[k]? = some m[k] := List.getElem?_eq_getElem h3'
        have hck := Sl.cell1 (E := intE) rfl hc hx rfl
        have hck' := Sl.cell1 (E := intE) rfl hc' hy rfl
        generalize l[k] = x at *
        generalize m[k] = y at *
        have HX := Lib.hid hx
        have HY := Lib.hid hy
        clear hx hy hc hA hc' hA'
        by_cases h4 : x = y
        · have HB : Hid (∀ j, j < k + 1 → l[j]? = m[j]?) := by
            intro j hj
            rcases Nat.lt_or_ge j k with h | h
            · exact HR.out j h
            · rw [show j = k by omega, HX.out, HY.out, h4]
          have h4' : (x != y) = false := by simp [h4]
          clear h4
          go_wp2_with fail
          go_quiet (fail)
          go_wp2_with fail
          go_roundw
          case rel => exact ⟨k + 1, _, by go_num, HB, by first | rfl | (simp only [World.drewN_drewN]; rfl)⟩
          case measure => simp [intOf]; omega
        · have HB : Hid (sameI l m = false) := by
            show sameI l m = false
            simp only [sameI, decide_eq_false_iff_not]
            intro e
            have h1 := HX.out; have h2 := HY.out
            rw [e, h2] at h1
            simp at h1
            exact h4 h1.symm
          have h4'' : (x != y) = true := by simp [h4]
          clear h4
          go_wp2_with fail
          go_quiet (fail)
          go_wp2_with fail
          go_ret
          exact ⟨by rw [HB.out]; rfl, _, by first | rfl | (simp only [World.drewN_drewN]; rfl)⟩
      · have HB : Hid (sameI l m = true) := by
          show sameI l m = true
          simp only [sameI, decide_eq_true_eq]
          apply List.ext_getElem?
          intro j
          rcases Nat.lt_or_ge j k with h | h
          · exact HR.out j h
          · have := HLEN.out
            rw [List.getElem?_eq_none (by omega), List.getElem?_eq_none (by omega)]
        clear hA hA'
        go_wp2_with fail
        go_ret
        exact ⟨by rw [HB.out]; rfl, _, by first | rfl | (simp only [World.drewN_drewN]; rfl)⟩
  · have HB : Hid (sameI l m = false) := by
      show sameI l m = false
      simp only [sameI, decide_eq_false_iff_not]
      intro e; exact hlen (by rw [e])
    have hl' : ((l.length : Int) != (m.length : Int)) = true := by rw [bne_iff_ne]; omega
    clear hA hA' hlen
    go_enter Try.func14, Try.ntmps14
    go_wp2_with fail
    go_ret
    exact ⟨by rw [HB.out]; rfl, 0, rfl⟩

set_option maxRecDepth 100000 in
set_option maxHeartbeats 1000000 in
theorem refFair_any (v : Value) (l : List Int) (t wd : Int) (w : World) (h : Sl intE w v l) (ht : 1 ≤ t) (ht' : t ≤ 9223372036854775807) (hw : 1 ≤ wd) (hw' : wd ≤ 9223372036854775807) (hbound : l.length ≤ 1000000) :
    Calls Try.prog 15 #[v, .int .i64 t, .int .i64 wd] w fun e w' => e = .returned (.bool (fp.fairB l t wd)) ∧ w = w' := by
  obtain ⟨A, cap, rfl, hcap, hmax, hL, hok, hA⟩ := h
  rw [maxLen_eq] at hmax
  clear hok
  go_enter Try.func15, Try.ntmps15
  go_wp2_with fail
  go_loop [7] (fun i => ∃ k : Nat, i = .int .i64 k ∧ k ≤ l.length + 1 ∧ Hid (∀ i' : Nat, i' < k → fp.WinProp l t wd i')) (fun i => l.length + 1 - (intOf i).toNat)
  case atStart => exact ⟨0, rfl, by omega, fun i' hi' => absurd hi' (by omega)⟩
  case round =>
    obtain ⟨k, rfl, hk, HR⟩ := hrel
    by_cases h3 : (k : Int) ≤ l.length - wd
    · have h3' : k + 1 ≤ l.length := by omega
      go_wp2_with fail
      go_loop [8] (fun s => ∃ n : Nat, s = .int .i64 n ∧ (n : Int) ≤ t ∧ Hid (∀ n' : Nat, n' < n → ∃ j : Nat, k ≤ j ∧ (j : Int) < k + wd ∧ l[j]? = some (n' : Int))) (fun s => (t - intOf s).toNat)
      case atStart => exact ⟨0, rfl, by omega, fun n' hn' => absurd hn' (by omega)⟩
      case round =>
        obtain ⟨n, rfl, hn, HN⟩ := hrel
        by_cases h4 : (n : Int) < t
        · go_wp2_with fail
          go_loop [9, 10] (fun s i => ∃ (j : Nat) (b : Bool), s = .bool b ∧ i = .int .i64 j ∧ k ≤ j ∧ (j : Int) ≤ k + wd ∧ Hid (b = true ↔ ∃ j' : Nat, k ≤ j' ∧ j' < j ∧ l[j']? = some (n : Int))) (fun _ i => l.length - (intOf i).toNat)
          case atStart => exact ⟨k, false, rfl, rfl, by omega, by omega, ⟨(fun h => by cases h), fun ⟨j', h1, h2, _⟩ => by omega⟩⟩
          case round =>
            obtain ⟨j, b, rfl, rfl, hj, hj2, HJ⟩ := hrel
            by_cases h5 : (j : Int) < k + wd
            · have h5' : j < l.length := by omega
              obtain ⟨bb, off, rfl, hb, hc⟩ := hA (by omega)
              have hx : l[j]? = some l[j] := List.getElem?_eq_getElem h5'
              have hck := Sl.cell1 (E := intE) rfl hc hx rfl
              generalize l[j] = x at *
              have HX := Lib.hid hx
              clear hx hc hA
              cases b
              · by_cases h6 : x = (n : Int)
                · have h6' : (x == (n : Int)) = true := by simp [h6]
                  have HJ1 : Hid (true = true ↔ ∃ j' : Nat, k ≤ j' ∧ j' < j + 1 ∧ l[j']? = some (n : Int)) := ⟨fun _ => ⟨j, hj, by omega, by rw [HX.out, h6]⟩, fun _ => rfl⟩
                  clear h6
                  go_wp2_with fail
                  go_round
                  case rel => exact ⟨j + 1, true, rfl, by go_num, by omega, by omega, HJ1⟩
                  case measure => simp [intOf]; omega
                · have h6' : (x == (n : Int)) = false := by simp [h6]
                  have HJ1 : Hid (false = true ↔ ∃ j' : Nat, k ≤ j' ∧ j' < j + 1 ∧ l[j']? = some (n : Int)) := by
                    refine ⟨(fun h => by cases h), fun ⟨j', h1, h2, h7⟩ => ?_⟩
                    rcases Nat.lt_or_ge j' j with h8 | h8
                    · exact HJ.out.2 ⟨j', h1, h8, h7⟩
                    · rw [show j' = j by omega, HX.out] at h7
                      simp at h7; exact absurd h7 h6
                  clear h6
                  go_wp2_with fail
                  go_round
                  case rel => exact ⟨j + 1, false, rfl, by go_num, by omega, by omega, HJ1⟩
                  case measure => simp [intOf]; omega
              · have HJ1 : Hid (true = true ↔ ∃ j' : Nat, k ≤ j' ∧ j' < j + 1 ∧ l[j']? = some (n : Int)) := by
                  obtain ⟨j', h1, h2, h7⟩ := HJ.out.1 rfl
                  exact ⟨fun _ => ⟨j', h1, by omega, h7⟩, fun _ => rfl⟩
                go_wp2_with fail
                go_round
                case rel => exact ⟨j + 1, true, rfl, by go_num, by omega, by omega, HJ1⟩
                case measure => simp [intOf]; omega
            · clear hA
              cases b
              · have HF : Hid (fp.fairB l t wd = false) := fp.fairB_not (fun hf => by
                  obtain ⟨j', h1, h2, h7⟩ := hf k (by omega) n h4
                  have := HJ.out.2 ⟨j', h1, by omega, h7⟩
                  cases this)
                go_wp2_with fail
                go_ret
                exact ⟨by rw [HF.out]; rfl, rfl⟩
              · have HN1 : Hid (∀ n' : Nat, n' < n + 1 → ∃ j : Nat, k ≤ j ∧ (j : Int) < k + wd ∧ l[j]? = some (n' : Int)) := by
                  intro n' hn'
                  rcases Nat.lt_or_ge n' n with h8 | h8
                  · exact HN.out n' h8
                  · rw [show n' = n by omega]
                    obtain ⟨j', h1, h2, h7⟩ := HJ.out.1 rfl
                    exact ⟨j', h1, by omega, h7⟩
                go_wp2_with fail
                go_round
                case rel => exact ⟨n + 1, by go_num, by omega, HN1⟩
                case measure => simp [intOf]; omega
        · have HR1 : Hid (∀ i' : Nat, i' < k + 1 → fp.WinProp l t wd i') := by
            intro i' hi'
            rcases Nat.lt_or_ge i' k with h8 | h8
            · exact HR.out i' h8
            · rw [show i' = k by omega]
              exact fun n' hn' => HN.out n' (by omega)
          clear hA
          go_wp2_with fail
          go_round
          case rel => exact ⟨k + 1, by go_num, by omega, HR1⟩
          case measure => simp [intOf]; omega
    · have HF : Hid (fp.fairB l t wd = true) := (fp.fairB_iff _ _ _).2 (fun i hi => HR.out i (by omega))
      clear hA
      go_wp2_with fail
      go_ret
      exact ⟨by rw [HF.out]; rfl, rfl⟩

theorem intKeyed : Keyed Try.prog 3 := int_keyed Try.underlying3
theorem zeroInt (w : World) : (zeroValue 3).run Try.prog w = .ok (.int .i64 0) w := by kernel_rfl

theorem isKey_int (n : Int) : WideAt.IsKeyLit (.int .i64 n) := by first | trivial | (simp [WideAt.IsKeyLit]; done) | exact ⟨_, _, rfl⟩

/-- the map holds, for each of the first M numbers, where it was met last among the first k -/
def LastMap (l : List Int) (M k : Nat) (D : DataW Unit) : Prop := ∀ (n : Nat) (z : DataW Unit), n < M → D.atKey (.int .i64 (n : Int)) z = .lit (.int .i64 (fp.lastAt l (n : Int) k))

theorem lastMap_put {l : List Int} {M k : Nat} {D : DataW Unit} (h : LastMap l M k D) (hm : IsMap D) {x : Int} (hx : l[k]? = some x) : LastMap l M (k + 1) (D.put (.int .i64 x) (.lit (.int .i64 (k : Int)))) := by
  intro n z hn
  by_cases e : x = (n : Int)
  · subst e
    rw [atKey_put_same hm (isKey_int _)]
    simp [fp.lastAt, hx]
  · rw [atKey_put_other (by simp; exact fun h => e h.symm), h n z hn]
    simp only [fp.lastAt, hx]
    rw [if_neg (by simp; exact e)]

set_option maxRecDepth 100000 in
set_option maxHeartbeats 2000000 in
theorem fair_any (v : Value) (l : List Int) (t wd : Int) (w : World) (h : Sl intE w v l) (ht : 1 ≤ t) (ht' : t ≤ 9223372036854775807) (hw : 1 ≤ wd) (hw' : wd ≤ 9223372036854775807) (hbound : l.length ≤ 1000000) :
    Calls Try.prog 13 #[v, .int .i64 t, .int .i64 wd] w fun e w' => e = .returned (.bool (fp.fairB l t wd)) ∧ Below w.heap.size w w' := by
  have hS := h
  obtain ⟨A, cap, rfl, hcap, hmax, hL, hok, hA⟩ := h
  rw [maxLen_eq] at hmax
  have HOK := Lib.hid hok; clear hok
  have HS : Hid (∀ wr : World, Below w.heap.size w wr → Sl intE wr (.slice A l.length cap) l) := fun wr hb => hS.mono hb (Nat.le_refl _)
  clear hS hA
  have hmm := @run_makeMap Try.prog
  obtain ⟨M, hM⟩ : ∃ M : Nat, min t ((l.length : Int) + 1) = M := ⟨(min t ((l.length : Int) + 1)).toNat, by omega⟩
  have hM1 : M ≤ l.length + 1 := by omega
  have HM : Hid (t ≤ l.length → t = M) := fun h => by omega
  go_enter Try.func13, Try.ntmps13
  go_wp2_with fail
  go_loopw [22] (fun i wr => ∃ k : Nat, i = .int .i64 k ∧ k ≤ M ∧ Hid (∃ D : DataW Unit, wr.ownsMap Try.prog 3 (plainElem Try.prog 3) w.heap.size k D ∧ ∀ (n : Nat) (z : DataW Unit), n < k → D.atKey (.int .i64 (n : Int)) z = .lit (.int .i64 (-1))) ∧ Hid (Below w.heap.size w wr)) (fun i _ => M - (intOf i).toNat)
  case atStart => exact ⟨0, rfl, Nat.zero_le _, ⟨_, World.ownsMap_made _ _ _ _, fun n z hn => absurd hn (by omega)⟩, (Below.refl _ _).alloc (Nat.le_refl _) _⟩
  case round =>
    obtain ⟨k, rfl, hk, HD, HB⟩ := hrel
    by_cases h3 : k < M
    · obtain ⟨D, hown, hat⟩ := HD.out
      have HAT := Lib.hid hat; clear hat
      go_wp2_with (at_mapUpdate; refine wpList_mapUpdate_own _ rfl _ _ _ 88 rfl 3 3 intKeyed Try.underlying88 _ w.heap.size k _ rfl hown ?hn _ _ _ rfl rfl (keyOf_int_mk Try.underlying3 ?wf) _ [] (plainElem_int Try.underlying3 (by decide)) ?_)
      case hn => unfold maxLen; omega
      case wf => exact WalkArith.wf_i64 (by omega)
      intro w1 hown1 hgrow1
      have HD1 : Hid (∃ D : DataW Unit, w1.ownsMap Try.prog 3 (plainElem Try.prog 3) w.heap.size (k + 1) D ∧ ∀ (n : Nat) (z : DataW Unit), n < k + 1 → D.atKey (.int .i64 (n : Int)) z = .lit (.int .i64 (-1))) := by
        refine ⟨_, hown1, fun n z hn => ?_⟩
        by_cases e : n = k
        · subst e; rw [atKey_put_same hown.isMap (isKey_int _)]
        · rw [atKey_put_other (by simp; omega)]; exact HAT.out n z (by omega)
      have HB1 : Hid (Below w.heap.size w w1) := HB.out.grown hgrow1 HB.out.size (fun j hj => by cases hj; exact Nat.le_refl _)
      clear hown1 hgrow1 hown
      go_wp2_with fail
      go_roundw
      case rel => exact ⟨k + 1, by go_num, by omega, HD1.out, HB1.out⟩
      case measure => simp [intOf]; omega
    · have HD0 : Hid (∃ D : DataW Unit, wr.ownsMap Try.prog 3 (plainElem Try.prog 3) w.heap.size M D ∧ LastMap l M 0 D) := by
        obtain ⟨D, h1, h2⟩ := HD.out
        have e : k = M := by omega
        subst e
        exact ⟨D, h1, fun n z hn => by rw [h2 n z hn]; rfl⟩
      clear HD
      go_wp2_with fail
      go_loopw [30] (fun i wi => ∃ m : Nat, i = .int .i64 m ∧ m ≤ l.length ∧ Hid (∃ D : DataW Unit, wi.ownsMap Try.prog 3 (plainElem Try.prog 3) w.heap.size (M + m) D ∧ LastMap l M m D) ∧ Hid (Below w.heap.size w wi) ∧ Hid (∀ e : Nat, e < m → wd ≤ e + 1 → fp.EndProp l t wd e)) (fun i _ => l.length - (intOf i).toNat)
      case atStart => exact ⟨0, rfl, Nat.zero_le _, HD0.out, HB.out, fun e he => absurd he (by omega)⟩
      case round =>
        obtain ⟨m, rfl, hm, HD1, HB1, HE⟩ := hrel
        clear HD0 HB
        by_cases h4 : m < l.length
        · obtain ⟨A', cap', eA, -, -, -, -, hA'⟩ := HS.out wr HB1.out
          obtain ⟨b, off, e', hb, hc⟩ := hA' (by omega)
          have eAA : A = some ⟨b, off, none⟩ := by injection eA with e1 e2 e3; rw [e1, e']
          clear eA e' hA'
          subst eAA
          have hx : l[m]? = some l[m] := List.getElem?_eq_getElem h4
          have hck := Sl.cell1 (E := intE) rfl hc hx rfl
          obtain ⟨hx1, hx2⟩ := HOK.out m _ hx
          generalize l[m] = x at *
          have HX := Lib.hid hx
          clear hx hc
          obtain ⟨D, hown, hlm⟩ := HD1.out
          have HLM := Lib.hid (lastMap_put hlm hown.isMap HX.out)
          clear hlm HD1
          go_wp2_with (at_mapUpdate; refine wpList_mapUpdate_own _ rfl _ _ _ 88 rfl 3 3 intKeyed Try.underlying88 _ w.heap.size (M + m) _ rfl hown ?hn _ _ _ rfl rfl (keyOf_int_mk Try.underlying3 ?wf) _ [] (plainElem_int Try.underlying3 ?wf2) ?_)
          case hn => unfold maxLen; omega
          case wf => exact WalkArith.wf_i64 (by omega)
          case wf2 => exact WalkArith.wf_i64 (by omega)
          intro w1 hown1 hgrow1
          have HD2 : Hid (∃ D : DataW Unit, w1.ownsMap Try.prog 3 (plainElem Try.prog 3) w.heap.size (M + m + 1) D ∧ LastMap l M (m + 1) D) := ⟨_, hown1, HLM.out⟩
          have HB2 : Hid (Below w.heap.size w w1) := HB1.out.grown hgrow1 HB1.out.size (fun j hj => by cases hj; exact Nat.le_refl _)
          clear hown1 hgrow1 hown HLM
          by_cases h5 : (m : Int) + 1 < wd
          · have HE1 : Hid (∀ e : Nat, e < m + 1 → wd ≤ e + 1 → fp.EndProp l t wd e) := fun e he hwe => HE.out e (by omega) hwe
            go_wp2_with fail
            go_roundw
            case rel => exact ⟨m + 1, by go_num, by omega, HD2.out, HB2.out, HE1.out⟩
            case measure => simp [intOf]; omega
          · by_cases h6 : wd < t
            · have HF : Hid (fp.fairB l t wd = false) := fp.fairB_not (fun hf => by
                have := ((fp.fair_ends hw).1 hf m h4 (by omega)).1
                omega)
              go_wp2_with fail
              go_ret
              exact ⟨by rw [HF.out]; rfl, HB2.out⟩
            · have hMt : t = M := HM.out (by omega)
              have hMt' : t ≤ M := by omega
              have hMt'' : (M : Int) ≤ t := by omega
              obtain ⟨D, hownD, hlm⟩ := HD2.out
              have HLM := Lib.hid hlm
              clear hlm hMt
              go_wp2_with fail
              go_loopw [46] (fun i wi => ∃ n : Nat, i = .int .i64 n ∧ (n : Int) ≤ t ∧ Hid (∀ n' : Nat, n' < n → (m : Int) - wd < fp.lastAt l (n' : Int) (m + 1)) ∧ wi = w1) (fun i _ => (t - intOf i).toNat)
              case atStart => exact ⟨0, rfl, by omega, (fun n' hn' => absurd hn' (by omega)), rfl⟩
              case round =>
                obtain ⟨n, rfl, hn, HN, rfl⟩ := hrel
                by_cases h7 : (n : Int) < t
                · go_wp2_with (at_lookup; refine wpList_lookup_own_int _ rfl _ _ 88 rfl 3 3 .i64 intKeyed Try.underlying88 Try.underlying3 (zeroInt _) w.heap.size (M + m + 1) _ rfl hownD _ _ rfl (keyOf_int_mk Try.underlying3 ?wf) ?_)
                  case wf => exact WalkArith.wf_i64 (by omega)
                  intro c hat hwc
                  have hc1 : Hid (c = fp.lastAt l (n : Int) (m + 1)) := by
                    have h := HLM.out n (.lit (.int .i64 0)) (by omega)
                    rw [hat] at h
                    show c = _
                    simpa using h
                  have hc2 : -1 ≤ c ∧ c ≤ m := by
                    have h := fp.lastAt_lt l (n : Int) (m + 1)
                    rw [← hc1.out] at h
                    omega
                  clear hat hwc
                  by_cases h8 : c ≤ m - wd
                  · have HF : Hid (fp.fairB l t wd = false) := fp.fairB_not (fun hf => by
                      have := ((fp.end_last (by omega)).1 ((fp.fair_ends hw).1 hf m h4 (by omega))).2 n (by omega)
                      rw [← hc1.out] at this
                      exact this h8)
                    go_wp2_with fail
                    go_ret
                    exact ⟨by rw [HF.out]; rfl, HB2.out⟩
                  · have HN1 : Hid (∀ n' : Nat, n' < n + 1 → (m : Int) - wd < fp.lastAt l (n' : Int) (m + 1)) := by
                      intro n' hn'
                      rcases Nat.lt_or_ge n' n with h9 | h9
                      · exact HN.out n' h9
                      · rw [show n' = n by omega, ← hc1.out]; omega
                    go_wp2_with fail
                    go_roundw
                    case rel => exact ⟨n + 1, by go_num, by omega, HN1, by first | rfl | trivial⟩
                    case measure => simp [intOf]; omega
                · have HE1 : Hid (∀ e : Nat, e < m + 1 → wd ≤ e + 1 → fp.EndProp l t wd e) := by
                    intro e he hwe
                    rcases Nat.lt_or_ge e m with h9 | h9
                    · exact HE.out e h9 hwe
                    · rw [show e = m by omega]
                      exact (fp.end_last (by omega)).2 ⟨by omega, fun n' hn' => by have := HN.out n' (by omega); omega⟩
                  go_wp2_with fail
                  go_roundw
                  case rel => exact ⟨m + 1, by go_num, by omega, HD2.out, HB2.out, HE1.out⟩
                  case measure => simp [intOf]; omega
        · have HF : Hid (fp.fairB l t wd = true) := (fp.fairB_iff _ _ _).2 ((fp.fair_ends hw).2 (fun e he hwe => HE.out e (by omega) hwe))
          go_wp2_with fail
          go_ret
          exact ⟨by rw [HF.out]; rfl, HB1.out⟩

set_option maxRecDepth 100000 in
set_option maxHeartbeats 400000 in
theorem fair_small (v : Value) (l : List Int) (t wd : Int) (w : World) (h : Sl intE w v l) (ht : t < 1) :
    Calls Try.prog 13 #[v, .int .i64 t, .int .i64 wd] w fun e w' => e = .returned (.bool true) ∧ w = w' := by
  obtain ⟨A, cap, rfl, hcap, hmax, hL, hok, hA⟩ := h
  clear hok hA
  go_enter Try.func13, Try.ntmps13
  go_wp2_with fail
  go_ret
  exact ⟨rfl, rfl⟩

set_option maxRecDepth 100000 in
set_option maxHeartbeats 400000 in
theorem fair_narrow (v : Value) (l : List Int) (t wd : Int) (w : World) (h : Sl intE w v l) (ht : 1 ≤ t) (hw : wd < 1) :
    Calls Try.prog 13 #[v, .int .i64 t, .int .i64 wd] w fun e w' => e = .returned (.bool false) ∧ w = w' := by
  obtain ⟨A, cap, rfl, hcap, hmax, hL, hok, hA⟩ := h
  clear hok hA
  go_enter Try.func13, Try.ntmps13
  go_wp2_with fail
  go_ret
  exact ⟨rfl, rfl⟩

set_option maxRecDepth 100000 in
set_option maxHeartbeats 400000 in
theorem refFair_narrow (v : Value) (l : List Int) (t wd : Int) (w : World) (h : Sl intE w v l) (ht : 1 ≤ t) (hw : wd < 1) :
    Calls Try.prog 15 #[v, .int .i64 t, .int .i64 wd] w fun e w' => e = .returned (.bool false) ∧ w = w' := by
  obtain ⟨A, cap, rfl, hcap, hmax, hL, hok, hA⟩ := h
  clear hok hA
  go_enter Try.func15, Try.ntmps15
  go_wp2_with fail
  go_ret
  exact ⟨rfl, rfl⟩

/-- are so many rounds laid -/
def mayB (t r : Int) : Bool := decide (1 ≤ t ∧ 1 ≤ r ∧ t ≤ 510 ∧ r ≤ 10000 ∧ t * r ≤ 100000)

theorem mul_bounds {t r : Int} (h1 : 1 ≤ t) (h2 : 1 ≤ r) (h3 : t ≤ 510) (h4 : r ≤ 10000) : 0 ≤ t * r ∧ t * r ≤ 5100000 := by
  refine ⟨Int.mul_nonneg (by omega) (by omega), ?_⟩
  have := Int.mul_le_mul h3 h4 (by omega) (by omega)
  omega

set_option maxRecDepth 100000 in
set_option maxHeartbeats 400000 in
theorem may_any (t r : Int) (w : World) : Calls Try.prog 114 #[.int .i64 t, .int .i64 r] w fun e w' => e = .returned (.bool (mayB t r)) ∧ w = w' := by
  by_cases h1 : 1 ≤ t
  · by_cases h2 : 1 ≤ r
    · by_cases h3 : t ≤ 510
      · by_cases h4 : r ≤ 10000
        · obtain ⟨hb1, hb2⟩ := mul_bounds h1 h2 h3 h4
          have H : Hid (mayB t r = decide (t * r ≤ 100000)) := by
            show mayB t r = _
            simp [mayB, h1, h2, h3, h4]
          go_enter Try.func114, Try.ntmps114
          go_wp2_with fail
          all_goals (go_ret; exact ⟨by rw [H.out]; first | rfl | (simp [*]; done), rfl⟩)
        · have H : Hid (mayB t r = false) := by show mayB t r = _; simp [mayB]; omega
          go_enter Try.func114, Try.ntmps114
          go_wp2_with fail
          go_ret
          exact ⟨by rw [H.out]; rfl, rfl⟩
      · have H : Hid (mayB t r = false) := by show mayB t r = _; simp [mayB]; omega
        go_enter Try.func114, Try.ntmps114
        go_wp2_with fail
        go_ret
        exact ⟨by rw [H.out]; rfl, rfl⟩
    · have H : Hid (mayB t r = false) := by show mayB t r = _; simp [mayB]; omega
      go_enter Try.func114, Try.ntmps114
      go_wp2_with fail
      go_ret
      exact ⟨by rw [H.out]; rfl, rfl⟩
  · have H : Hid (mayB t r = false) := by show mayB t r = _; simp [mayB]; omega
    go_enter Try.func114, Try.ntmps114
    go_wp2_with fail
    go_ret
    exact ⟨by rw [H.out]; rfl, rfl⟩
end Go.Proofs.Ytdjkefndigijjaa
