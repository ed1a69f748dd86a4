/-
  Layer 6: a text as a word, over the model itself.
-/
import Derived.Test.YtkdbphhekpdmhaaDoorPkD
import Derived.StillTailTactics
namespace Go.Proofs.YtkdbphhekpdmhaaDoor
open Go.RowKit
set_option linter.unusedVariables false
set_option linter.unusedSimpArgs false

def hexD (n : Nat) : UInt8 := hexL.getD n 0
def quoteL : List UInt8 → List UInt8
  | [] => []
  | c :: l => (if plainB c then [c] else [37, hexD (c.toNat / 16), hexD (c.toNat % 16)]) ++ quoteL l
theorem quoteL_app : ∀ (l m : List UInt8), quoteL (l ++ m) = quoteL l ++ quoteL m
  | [], m => rfl
  | c :: l, m => by
    rw [List.cons_append, quoteL, quoteL, quoteL_app l m, List.append_assoc]
theorem quoteL_one (c : UInt8) : quoteL [c] = if plainB c then [c] else [37, hexD (c.toNat / 16), hexD (c.toNat % 16)] := by
  rw [quoteL, quoteL, List.append_nil]
theorem quoteL_len : ∀ l : List UInt8, (quoteL l).length ≤ 3 * l.length
  | [] => Nat.le_refl _
  | c :: l => by
    have := quoteL_len l
    rw [quoteL, List.length_append, List.length_cons]
    split <;> simp <;> omega
def quoteF (s : ByteArray) : ByteArray := if s.size = 0 then ⟨#[45]⟩ else ⟨(quoteL s.data.toList).toArray⟩
theorem plain_any (c : UInt8) (w : World) (hG : Glob w) : Calls Tryd.prog 102 #[.int .u8 (c.toNat : Int)] w fun e w' => e = .returned (.bool (plainB c)) ∧ Below w.heap.size w w' := by
  have := (plain_ok c).calls w (fun _ _ => False) [.int .u8 (c.toNat : Int)] hG (fun _ _ h => h.elim) rfl (fun j d u hj hu => by
    cases j with
    | zero => cases hj; cases hu; exact .int _ _
    | succ j => simp at hj)
  refine this.mono fun e w' ⟨u, he, hb, hr⟩ => ?_
  have hr' : VR _ w' (.bool (plainB c)) u := hr
  cases hr'
  exact ⟨he, hb⟩
theorem hexB (n : Nat) (h : n < 16) : ({ data := #[48, 49, 50, 51, 52, 53, 54, 55, 56, 57, 97, 98, 99, 100, 101, 102] } : ByteArray)[n]'h = hexD n := by
  have : ∀ i : Fin 16, ({ data := #[48, 49, 50, 51, 52, 53, 54, 55, 56, 57, 97, 98, 99, 100, 101, 102] } : ByteArray)[i.val]'(i.isLt) = hexD i.val := by decide +kernel
  exact this ⟨n, h⟩
theorem and15 (c : UInt8) : bits BinOp.and IntKind.u8 (c.toNat : Int) 15 = (c.toNat : Int) % 16 := by
  have h : ∀ n : Fin 256, bits BinOp.and IntKind.u8 (n.val : Int) 15 = (n.val : Int) % 16 := by decide +kernel
  exact h ⟨c.toNat, c.toNat_lt⟩
set_option maxRecDepth 100000 in
set_option maxHeartbeats 2000000 in
theorem quote_any (s : ByteArray) (w : World) (hG : Glob w) (hs : s.size ≤ 1000000) : Calls Tryd.prog 61 #[.string s] w fun e w' => e = .returned (.string (quoteF s)) ∧ Below w.heap.size w w' := by
  by_cases h0 : s.size = 0
  · have he : s = ⟨#[]⟩ := by cases s; congr 1; exact Array.eq_empty_of_size_eq_zero h0
    subst he
    go_enter Tryd.func61, Tryd.ntmps61
    go_wp2_with fail
    go_ret
    exact ⟨rfl, Below.refl _ _⟩
  · have he : s.toList.isEmpty = false := by
      have := bytes_nil (s := s)
      rw [show ((ByteArray.mk #[]).toList) = [] by rw [ByteArray.toList_eq]] at this
      cases hq : s.toList with
      | nil =>
        rw [hq, show decide (s.size = 0) = false by simpa using h0] at this
        simp at this
      | cons c l => rfl
    have hL : s.data.toList.length = s.size := by rw [Array.length_toList]; rfl
    obtain ⟨b, hb⟩ : ∃ b, w.heap.size = b := ⟨_, rfl⟩
    obtain ⟨W1, hW1⟩ : ∃ W1, w.alloc (.cells #[.pointer none, .slice none 0 0] 134) = W1 := ⟨_, rfl⟩
    have hconv := run_bytes_of_string (P := Tryd.prog) W1 9 122 5 s Tryd.underlying9 Tryd.underlying122 Tryd.underlying5
    have hs1 : W1.heap.size = b + 1 := by rw [← hW1, ← hb]; simp
    obtain ⟨cp, hcp⟩ : ∃ cp, grownCap W1 s.size 0 5 = cp := ⟨_, rfl⟩
    rw [hcp, hs1] at hconv
    have hcp1 : s.size ≤ cp := by rw [← hcp]; exact grownCap_ge _ _ _ _
    have hcp2 : cp ≤ maxLen := by rw [← hcp]; exact grownCap_le_maxLen _ _ _ _ (by unfold maxLen; omega)
    obtain ⟨W2, hW2⟩ : ∃ W2, W1.drew.alloc (.cells (bytesRow s cp) 5 ((bytesRow s cp).size, (bytesRow s cp).size + 1)) = W2 := ⟨_, rfl⟩
    rw [hW2] at hconv
    have hs2 : W2.heap.size = b + 2 := by rw [← hW2]; simp [hs1]
    have hbW : Hid (Below b w W2) := by
      rw [← hW2, ← hW1]
      exact (((Below.refl b w).alloc (by omega) _).drew).alloc (by simp; omega) _
    have hB0 : Hid (BuildS (b + 2) b (Lib.byteCells (quoteL (s.data.toList.take 0))) W2) := by
      refine ⟨by omega, by omega, .pointer none, .slice none 0 0, .inl rfl, ?_, ⟨rfl, .inl ⟨rfl, rfl⟩⟩⟩
      have e1 : W1.heap[b]? = some (.cells #[.pointer none, .slice none 0 0] 134 (0, 0)) := by rw [← hW1, ← hb]; exact heap_alloc_new w _
      rw [← hW2]
      exact (Lib.alloc_old W1.drew _ b (by simp [hs1])).trans e1
    have hcells : Hid (∀ (k : Nat) (c : UInt8), s.data.toList[k]? = some c → ∀ wr : World, wr.heap[b + 1]? = W2.heap[b + 1]? → wr.cell? ⟨b + 1, k, none⟩ = some (.int .u8 (c.toNat : Int))) := by
      intro k c hk wr hwr
      have e2 := World.cell?_alloc_mark W1.drew (bytesRow s cp) 5 ((bytesRow s cp).size, (bytesRow s cp).size + 1) k
      rw [show W1.drew.heap.size = b + 1 from hs1, hW2] at e2
      have e3 : wr.cell? ⟨b + 1, k, none⟩ = W2.cell? ⟨b + 1, k, none⟩ := by simp only [World.cell?, hwr]
      rw [e3, e2]
      have hk' : k < s.data.size := (List.getElem?_eq_some_iff.1 hk).1
      unfold bytesRow
      rw [Array.getElem?_append_left (by simpa using hk'), Array.getElem?_map]
      rw [Array.getElem?_toList] at hk
      rw [hk]; rfl
    have hGH := Lib.hid hG
    have hLL := Lib.hid hL
    have hSS := Lib.hid hs2
    clear hG hL hcp hs1 hs2 hcp2
    go_enter Tryd.func61, Tryd.ntmps61
    go_wp2_with fail
    go_loopw [11] (fun j wr => ∃ k : Nat, j = .int .i64 k ∧ k ≤ s.size ∧ Hid (BuildS (b + 2) b (Lib.byteCells (quoteL (s.data.toList.take k))) wr) ∧ Hid (KeptB (b + 2) b W2 wr)) (fun j _ => s.size - (intOf j).toNat)
    case atStart => exact ⟨0, rfl, Nat.zero_le _, hB0, KeptB.refl _ _ _⟩
    case round =>
      obtain ⟨k, rfl, hk, HB, HK⟩ := hrel
      have HG : Hid (Glob wr) := hGH.out.below (by rw [hb]; exact hbW.out.trans (HK.out.1))
      by_cases hlt : k < s.size
      · obtain ⟨c, hc⟩ : ∃ c, s.data.toList[k]? = some c := ⟨_, List.getElem?_eq_getElem (by rw [hLL.out]; exact hlt)⟩
        have hcell := hcells.out k c hc wr (HK.out.2 (b + 1) (by omega) (by omega))
        have hq : Hid (quoteL (s.data.toList.take (k + 1)) = quoteL (s.data.toList.take k) ++ (if plainB c then [c] else [37, hexD (c.toNat / 16), hexD (c.toNat % 16)])) := by
          show _ = _
          rw [List.take_add_one, hc]
          rw [quoteL_app]; congr 1; exact quoteL_one c
        have hlen : Hid ((Lib.byteCells (quoteL (s.data.toList.take k))).length ≤ 3000000) := by
          show _ ≤ _
          rw [Lib.byteCells_length]
          have h1 := quoteL_len (s.data.toList.take k)
          have h2 : (s.data.toList.take k).length ≤ s.size := by rw [List.length_take, hLL.out]; omega
          omega
        have HC := Lib.hid hc
        clear hc
        go_wp2_with fail
        refine (plain_any c _ HG.out).mono ?_
        rintro e w1 ⟨rfl, hb1⟩
        have HB1 : Hid (BuildS (b + 2) b (Lib.byteCells (quoteL (s.data.toList.take k))) w1) := HB.out.below hb1
        have HK1 : Hid (KeptB (b + 2) b W2 w1) := HK.out.below HB.out.2.1 (by omega) hb1
        clear hb1 hcell
        cases hp : plainB c with
        | true =>
          go_wp2_with fail
          refine (writeByteB (b + 2) b _ (c.toNat : Int) _ HB1.out (by have := hlen.out; omega)).mono ?_
          rintro e w2 ⟨rfl, h2, h3⟩
          have HB2 : Hid (BuildS (b + 2) b (Lib.byteCells (quoteL (s.data.toList.take (k + 1)))) w2) := by
            have e : Lib.byteCells (quoteL (s.data.toList.take (k + 1))) = Lib.byteCells (quoteL (s.data.toList.take k)) ++ [.int .u8 (c.toNat : Int)] := by
              rw [hq.out, hp, if_pos rfl]; simp [Lib.byteCells]
            show BuildS _ _ _ _
            rw [e]; exact h2
          have HK2 : Hid (KeptB (b + 2) b W2 w2) := HK1.out.trans h3
          clear h2 h3
          go_wp2_with fail
          go_roundw
          case rel => exact ⟨k + 1, by go_num, by omega, HB2, HK2⟩
          case measure => simp [intOf]; omega
        | false =>
          go_wp2_with fail
          have hd0 : (0 : Int) ≤ (c.toNat : Int) / 16 := by omega
          have hd1 : (c.toNat : Int) / 16 < 16 := by have := c.toNat_lt; omega
          have hd2 := and15 c
          have hd3 : (0 : Int) ≤ (c.toNat : Int) % 16 := by omega
          have hd4 : (c.toNat : Int) % 16 < 16 := by omega
          go_still_tail 6, (by kernel_rfl)
          change wpList _ _ _ _ _ w1.drew
          have HB2 : Hid (BuildS (b + 2) b (Lib.byteCells (quoteL (s.data.toList.take k))) w1.drew) := HB1.out.below (Below.refl _ _).drew
          have HK2 : Hid (KeptB (b + 2) b W2 w1.drew) := HK1.out.below HB1.out.2.1 (by omega) (Below.refl _ _).drew
          generalize w1.drew = w2 at *
          go_wp2_with fail
          have hba : ∀ o, Below w2.heap.size w2 (w2.alloc o) := fun o => (Below.refl _ _).alloc (Nat.le_refl _) o
          have hw2 : b + 2 ≤ w2.heap.size := HB2.out.2.1
          refine (writeB (b + 2) b _ w2.heap.size 0 3 3 [.int .u8 37, .int .u8 ((hexD (c.toNat / 16)).toNat : Int), .int .u8 ((hexD (c.toNat % 16)).toNat : Int)] _ (HB2.out.below (hba _)) (by have := hlen.out; simp; omega) rfl (by omega) (by omega) (fun j u hj => ?_) (fun u hu => by simp at hu; rcases hu with rfl | rfl | rfl <;> rfl)).mono ?_
          · have hcell := fun C => World.cell?_alloc_mark w2 C 5 (0, 0) j
            rw [Nat.zero_add]
            refine (hcell _).trans ?_
            have hc := c.toNat_lt
            match j, hj with
            | 0, hj => exact hj
            | 1, hj => rw [← hj]; simp [hexB _ (show c.toNat / 16 < 16 by omega)]
            | 2, hj => rw [← hj]; simp [hexB _ (show c.toNat % 16 < 16 by omega)]
          rintro e w3 ⟨rfl, h2, h3⟩
          have HB3 : Hid (BuildS (b + 2) b (Lib.byteCells (quoteL (s.data.toList.take (k + 1)))) w3) := by
            have e : Lib.byteCells (quoteL (s.data.toList.take (k + 1))) = Lib.byteCells (quoteL (s.data.toList.take k)) ++ [.int .u8 37, .int .u8 ((hexD (c.toNat / 16)).toNat : Int), .int .u8 ((hexD (c.toNat % 16)).toNat : Int)] := by
              rw [hq.out, hp, if_neg (by simp)]; simp [Lib.byteCells]
            show BuildS _ _ _ _
            rw [e]; exact h2
          have HK3 : Hid (KeptB (b + 2) b W2 w3) := (HK2.out.below hw2 (by omega) (hba _)).trans h3
          clear h2 h3
          go_wp2_with fail
          go_roundw
          case rel => exact ⟨k + 1, by go_num, by omega, HB3, HK3⟩
          case measure => simp [intOf]; omega
      · have hk2 : k = s.size := by omega
        have hall : Hid (s.data.toList.take s.size = s.data.toList) := List.take_of_length_le (by rw [hLL.out]; exact Nat.le_refl _)
        go_wp2_with fail
        refine (stringB (b + 2) b (quoteL (s.data.toList.take k)) _ HB.out).mono ?_
        rintro e w1 ⟨rfl, hb1⟩
        go_wp2_with fail
        go_ret
        refine ⟨?_, ?_⟩
        · show Ending.returned (Value.string ⟨(quoteL (s.data.toList.take s.size)).toArray⟩) = _
          rw [hall.out]; unfold quoteF; rw [if_neg h0]
        · rw [hb]; exact (hbW.out.trans HK.out.1).trans hb1
theorem quote_ok (s : ByteArray) (hs : s.size ≤ 1000000) : AFn Tryd.prog 61 [.str s] (.str (quoteF s)) :=
  .flat1 (by kernel_rfl) str_flat (fun _ _ _ => .str _) fun w hG => quote_any s w hG hs
end Go.Proofs.YtkdbphhekpdmhaaDoor
