/-
  Layer 6: words and texts, in plain lists.
-/
import Derived.Test.YtkdbphhekpdmhaaDoorPkE
namespace Go.Proofs.YtkdbphhekpdmhaaDoor
open Go.RowKit
set_option linter.unusedVariables false
set_option linter.unusedSimpArgs false
set_option maxRecDepth 100000
def uqL : List UInt8 → Option (List UInt8)
  | [] => some []
  | c :: l => if plainB c then (uqL l).map (c :: ·) else if c ≠ 37 then none else match l with
    | a :: b :: m => if digF a < 0 ∨ digF b < 0 then none else if plainB (hexV a b) then none else (uqL m).map (hexV a b :: ·)
    | _ => none
theorem uqL_cons (c : UInt8) (l : List UInt8) : uqL (c :: l) = if plainB c then (uqL l).map (c :: ·) else if c ≠ 37 then none else match l with
    | a :: b :: m => if digF a < 0 ∨ digF b < 0 then none else if plainB (hexV a b) then none else (uqL m).map (hexV a b :: ·)
    | _ => none := by
  match l with
  | [] => rfl
  | [_] => rfl
  | _ :: _ :: _ => rfl
theorem drop_some {α : Type} {s : List α} {i : Nat} {c : α} (h : s[i]? = some c) : s.drop i = c :: s.drop (i + 1) := by
  obtain ⟨hi, hc⟩ := List.getElem?_eq_some_iff.1 h
  rw [List.drop_eq_getElem_cons hi, hc]
theorem uqGo_list (s : List UInt8) : ∀ (f i : Nat) (out : List UInt8), s.length ≤ i + f → uqGo s f i out = (uqL (s.drop i)).map (out ++ ·) := by
  intro f
  induction f using Nat.strongRecOn with
  | ind f ih =>
    intro i out h
    cases f with
    | zero =>
      rw [List.drop_eq_nil_of_le (by omega)]
      simp [uqGo, uqL]
    | succ f =>
      rw [uqGo]
      cases hc : s[i]? with
      | none =>
        have : s.length ≤ i := by simpa using hc
        rw [List.drop_eq_nil_of_le this]
        simp [uqL]
      | some c =>
        have hi : i < s.length := (List.getElem?_eq_some_iff.1 hc).1
        rw [drop_some hc, uqL_cons]
        simp only
        cases hp : plainB c with
        | true =>
          simp only [if_true]
          rw [ih f (by omega) (i + 1) _ (by omega), Option.map_map]
          congr 1
          funext l
          simp
        | false =>
          simp only [Bool.false_eq_true, if_false]
          by_cases h37 : c = 37
          · subst h37
            by_cases h3 : s.length - i < 3
            · rw [if_pos (.inr h3), if_neg (by simp)]
              have hl : (s.drop (i + 1)).length < 2 := by rw [List.length_drop]; omega
              match hd : s.drop (i + 1), hl with
              | [], _ => rfl
              | [_], _ => rfl
              | a :: b :: m, h => exact absurd h (by simp)
            · rw [if_neg (by rintro (h | h); exact h rfl; exact h3 h), if_neg (by simp)]
              obtain ⟨a, ha⟩ : ∃ a, s[i + 1]? = some a := ⟨_, List.getElem?_eq_getElem (by omega)⟩
              obtain ⟨b, hb⟩ : ∃ b, s[i + 2]? = some b := ⟨_, List.getElem?_eq_getElem (by omega)⟩
              rw [drop_some ha, drop_some hb, ha, hb]
              simp only
              by_cases hd : digF a < 0 ∨ digF b < 0
              · rw [if_pos hd, if_pos hd]; rfl
              · rw [if_neg hd, if_neg hd]
                cases hq : plainB (hexV a b) with
                | true => rfl
                | false =>
                  simp only [Bool.false_eq_true, if_false]
                  rw [ih f (by omega) (i + 3) _ (by omega), Option.map_map]
                  congr 1
                  funext l
                  simp
          · rw [if_pos (.inl h37), if_pos h37]; rfl
theorem uqGo_top (s : List UInt8) : uqGo s s.length 0 [] = uqL s := by
  rw [uqGo_list s s.length 0 [] (by omega), List.drop_zero]
  cases uqL s <;> rfl
theorem forall_u8 {p : UInt8 → Prop} (h : ∀ n : Fin 256, p (UInt8.ofFin n)) (c : UInt8) : p c := by
  have := h c.toFin
  simpa using this
theorem plain37 : plainB 37 = false := by decide +kernel
theorem dig_hi : ∀ c : UInt8, digF (hexD (c.toNat / 16)) = ((c.toNat / 16 : Nat) : Int) := forall_u8 (by decide +kernel)
theorem dig_lo : ∀ c : UInt8, digF (hexD (c.toNat % 16)) = ((c.toNat % 16 : Nat) : Int) := forall_u8 (by decide +kernel)
theorem hex_dig : ∀ c : UInt8, ¬ digF c < 0 → hexD (digF c).toNat = c := forall_u8 (by decide +kernel)
theorem hexV_of (c : UInt8) : hexV (hexD (c.toNat / 16)) (hexD (c.toNat % 16)) = c := by
  unfold hexV
  rw [dig_hi, dig_lo]
  have hc := c.toNat_lt
  rw [show (((c.toNat / 16 : Nat) : Int) * 16 + ((c.toNat % 16 : Nat) : Int)).toNat = c.toNat by omega]
  simp
theorem hexV_nat (a b : UInt8) (ha : ¬ digF a < 0) (hb : ¬ digF b < 0) : (hexV a b).toNat = (digF a).toNat * 16 + (digF b).toNat := by
  unfold hexV
  have h1 := digF_le a
  have h2 := digF_le b
  rw [show (UInt8.ofNat (digF a * 16 + digF b).toNat).toNat = (digF a * 16 + digF b).toNat % 256 from UInt8.toNat_ofNat' ..]
  omega
theorem uq_quote : ∀ l : List UInt8, uqL (quoteL l) = some l
  | [] => rfl
  | c :: l => by
    rw [quoteL]
    cases hp : plainB c with
    | true =>
      rw [if_pos rfl, List.singleton_append, uqL_cons, hp, if_pos rfl, uq_quote l]; rfl
    | false =>
      rw [if_neg (by simp)]
      show uqL (37 :: hexD (c.toNat / 16) :: hexD (c.toNat % 16) :: quoteL l) = _
      rw [uqL_cons, plain37, if_neg (by simp), if_neg (by simp)]
      simp only
      rw [if_neg (by rw [dig_hi, dig_lo]; omega), hexV_of, hp, if_neg (by simp), uq_quote l]; rfl
theorem quote_uq : ∀ (s out : List UInt8), uqL s = some out → quoteL out = s := by
  intro s
  induction hn : s.length using Nat.strongRecOn generalizing s with
  | ind n ih =>
    intro out h
    match s, hn with
    | [], _ => simp [uqL] at h; subst h; rfl
    | c :: l, hn =>
      rw [uqL_cons] at h
      cases hp : plainB c with
      | true =>
        rw [hp, if_pos rfl] at h
        obtain ⟨o, ho, rfl⟩ := Option.map_eq_some_iff.1 h
        rw [quoteL, hp, if_pos rfl, ih l.length (by simp at hn; omega) l rfl o ho]; rfl
      | false =>
        rw [hp, if_neg (by simp)] at h
        by_cases h37 : c = 37
        · subst h37
          rw [if_neg (by simp)] at h
          match l, hn, h with
          | [], _, h => simp at h
          | [_], _, h => simp at h
          | a :: b :: m, hn, h =>
            simp only at h
            by_cases hd : digF a < 0 ∨ digF b < 0
            · rw [if_pos hd] at h; cases h
            · rw [if_neg hd] at h
              cases hq : plainB (hexV a b) with
              | true => rw [hq, if_pos rfl] at h; cases h
              | false =>
                rw [hq, if_neg (by simp)] at h
                obtain ⟨o, ho, rfl⟩ := Option.map_eq_some_iff.1 h
                have ha : ¬ digF a < 0 := fun e => hd (.inl e)
                have hb : ¬ digF b < 0 := fun e => hd (.inr e)
                have hbl := digF_le b
                rw [quoteL, hq, if_neg (by simp), ih m.length (by simp at hn; omega) m rfl o ho, hexV_nat a b ha hb]
                rw [show ((digF a).toNat * 16 + (digF b).toNat) / 16 = (digF a).toNat by omega, show ((digF a).toNat * 16 + (digF b).toNat) % 16 = (digF b).toNat by omega, hex_dig a ha, hex_dig b hb]
                rfl
        · rw [if_pos h37] at h; cases h
/-- the document's reading -/
def valB (c : UInt8) : UInt8 := if 97 ≤ c.toNat ∧ c.toNat ≤ 102 then UInt8.ofNat (c.toNat - 97 + 10) else if 48 ≤ c.toNat ∧ c.toNat ≤ 57 then UInt8.ofNat (c.toNat - 48) else 0
def pairB (a b : UInt8) : UInt8 := UInt8.ofNat (16 * (valB a).toNat + (valB b).toNat)
def parseL : List UInt8 → List UInt8
  | [] => []
  | [c] => [c]
  | [c, a] => [c, a]
  | c :: a :: b :: m => if c = 37 then pairB a b :: parseL m else c :: parseL (a :: b :: m)
theorem parseL_cons (c : UInt8) (l : List UInt8) : parseL (c :: l) = if c = 37 then match l with
      | a :: b :: m => pairB a b :: parseL m
      | _ => c :: parseL l
    else c :: parseL l := by
  match l with
  | [] => simp [parseL]
  | [_] => simp [parseL]
  | a :: b :: m => rw [parseL]
theorem val_dig : ∀ c : UInt8, ¬ digF c < 0 → ((valB c).toNat : Int) = digF c := forall_u8 (by decide +kernel)
theorem parse_uq : ∀ (s out : List UInt8), uqL s = some out → parseL s = out := by
  intro s
  induction hn : s.length using Nat.strongRecOn generalizing s with
  | ind n ih =>
    intro out h
    match s, hn with
    | [], _ => simp [uqL] at h; subst h; rfl
    | c :: l, hn =>
      rw [uqL_cons] at h
      cases hp : plainB c with
      | true =>
        rw [hp, if_pos rfl] at h
        obtain ⟨o, ho, rfl⟩ := Option.map_eq_some_iff.1 h
        have h37 : c ≠ 37 := by intro e; subst e; rw [plain37] at hp; cases hp
        rw [parseL_cons, if_neg h37, ih l.length (by simp at hn; omega) l rfl o ho]
      | false =>
        rw [hp, if_neg (by simp)] at h
        by_cases h37 : c = 37
        · subst h37
          rw [if_neg (by simp)] at h
          match l, hn, h with
          | [], _, h => simp at h
          | [_], _, h => simp at h
          | a :: b :: m, hn, h =>
            simp only at h
            by_cases hd : digF a < 0 ∨ digF b < 0
            · rw [if_pos hd] at h; cases h
            · rw [if_neg hd] at h
              cases hq : plainB (hexV a b) with
              | true => rw [hq, if_pos rfl] at h; cases h
              | false =>
                rw [hq, if_neg (by simp)] at h
                obtain ⟨o, ho, rfl⟩ := Option.map_eq_some_iff.1 h
                have ha : ¬ digF a < 0 := fun e => hd (.inl e)
                have hb : ¬ digF b < 0 := fun e => hd (.inr e)
                rw [parseL_cons, if_pos rfl]
                simp only
                rw [ih m.length (by simp at hn; omega) m rfl o ho]
                congr 1
                unfold pairB hexV
                have h1 := val_dig a ha
                have h2 := val_dig b hb
                congr 1
                omega
        · rw [if_pos h37] at h; cases h
/-- what the document answers of a word -/
def ruqF (s : ByteArray) : AV :=
  let out := if s.data.toList = [45] then [] else parseL s.data.toList
  if quoteF ⟨out.toArray⟩ = s then .tup [.str ⟨out.toArray⟩, .bool true] else .tup [.str ⟨#[]⟩, .bool false]
theorem ba_ext {a b : ByteArray} (h : a.data.toList = b.data.toList) : a = b := by
  cases a; cases b; congr 1; exact Array.ext' h
theorem quoteF_list (s : ByteArray) : (quoteF s).data.toList = if s.data.toList = [] then [45] else quoteL s.data.toList := by
  have hL : s.data.toList.length = s.size := by rw [Array.length_toList]; rfl
  unfold quoteF
  by_cases h : s.size = 0
  · rw [if_pos h, if_pos (List.eq_nil_of_length_eq_zero (by omega))]
  · rw [if_neg h, if_neg (fun e => h (by rw [← hL, e]; rfl))]
theorem quoteL_nil {l : List UInt8} (h : quoteL l = []) : l = [] := by
  have := uq_quote l
  rw [h] at this
  simp [uqL] at this
  exact this
theorem quoteL_45 (l : List UInt8) : quoteL l ≠ [45] := by
  intro h
  have := uq_quote l
  rw [h] at this
  revert this
  rw [uqL_cons, show plainB 45 = false by decide +kernel]
  simp
theorem uqF_eq (s : ByteArray) : uqF s = ruqF s := by
  have hL : s.data.toList.length = s.size := by rw [Array.length_toList]; rfl
  unfold uqF ruqF
  have hb : (s.toList == (ByteArray.mk #[45]).toList) = decide (s.data.toList = [45]) := by
    rw [ByteArray.toList_eq, ByteArray.toList_eq]
    exact Bool.eq_iff_iff.2 (by rw [beq_iff_eq, decide_eq_true_eq])
  rw [hb]
  by_cases h45 : s.data.toList = [45]
  · simp only [h45, decide_true, if_true]
    rw [if_pos (ba_ext (by rw [quoteF_list, if_pos rfl, h45]))]
  · simp only [h45, decide_false, Bool.false_eq_true, if_false]
    rw [show uqGo s.data.toList s.size 0 [] = uqL s.data.toList by rw [← hL]; exact uqGo_top _]
    cases hu : uqL s.data.toList with
    | none =>
      rw [if_neg]
      · rfl
      · intro e
        have := congrArg (fun x : ByteArray => x.data.toList) e
        simp only [quoteF_list] at this
        by_cases hp : parseL s.data.toList = []
        · rw [if_pos hp] at this; exact h45 this.symm
        · rw [if_neg hp] at this
          have h2 := uq_quote (parseL s.data.toList)
          rw [this, hu] at h2; cases h2
    | some out =>
      have h1 := quote_uq _ _ hu
      have h2 := parse_uq _ _ hu
      rw [h2]
      by_cases h0 : out = []
      · subst h0
        rw [if_neg]
        · rfl
        · intro e
          have := congrArg (fun x : ByteArray => x.data.toList) e
          simp only [quoteF_list, if_true] at this
          exact h45 this.symm
      · rw [if_pos (ba_ext (by rw [quoteF_list, if_neg h0, h1]))]
        have : 0 < out.length := List.length_pos_iff.2 h0
        simp only [uqAns]
        rw [decide_eq_true (by omega)]
/-- a text's word stands for it -/
theorem uqF_quote (s : ByteArray) : uqF (quoteF s) = .tup [.str s, .bool true] := by
  rw [uqF_eq]
  unfold ruqF
  by_cases h0 : s.data.toList = []
  · have e : s = ⟨#[]⟩ := ba_ext h0
    subst e
    rw [quoteF_list, if_pos rfl]
    simp only [if_true]
  · rw [quoteF_list, if_neg h0]
    simp only [quoteL_45, if_false]
    rw [parse_uq _ _ (uq_quote s.data.toList)]
    have e : (⟨s.data.toList.toArray⟩ : ByteArray) = s := ba_ext (by simp)
    rw [e, if_pos rfl]
end Go.Proofs.YtkdbphhekpdmhaaDoor
