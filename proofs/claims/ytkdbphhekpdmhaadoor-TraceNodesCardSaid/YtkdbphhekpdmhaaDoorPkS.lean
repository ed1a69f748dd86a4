/-
  Layer 7: an operation's line is read as it: the plain law.
-/
import Derived.Test.YtkdbphhekpdmhaaDoorPkQ
namespace Go.Proofs.YtkdbphhekpdmhaaDoor
open Go.RowKit Go.Lib
set_option linter.unusedVariables false
set_option linter.unusedSimpArgs false
set_option maxRecDepth 100000
theorem wl_word : ∀ {w : List UInt8}, (32 : UInt8) ∉ w → wl w = [w]
  | [], _ => rfl
  | c :: l, h => by
    have h1 : c ≠ 32 := fun e => h (by rw [e]; exact List.mem_cons_self ..)
    rw [wl, if_neg h1, wl_word (w := l) (fun e => h (List.mem_cons_of_mem _ e))]
theorem wl_app : ∀ {w : List UInt8} {l : List UInt8}, (32 : UInt8) ∉ w → wl (w ++ 32 :: l) = w :: wl l
  | [], l, _ => by rw [List.nil_append, wl, if_pos rfl]
  | c :: w, l, h => by
    have h1 : c ≠ 32 := fun e => h (by rw [e]; exact List.mem_cons_self ..)
    rw [List.cons_append, wl, if_neg h1, wl_app (w := w) (fun e => h (List.mem_cons_of_mem _ e))]
theorem wl_tail : ∀ (ws : List (List UInt8)) (w : List UInt8), (32 : UInt8) ∉ w → (∀ x, x ∈ ws → (32 : UInt8) ∉ x) → wl (w ++ Lib.joinTail [32] ws) = w :: ws
  | [], w, hw, _ => by
    show wl (w ++ []) = _
    rw [List.append_nil, wl_word hw]
  | y :: ws, w, hw, h => by
    show wl (w ++ ((32 :: y) ++ Lib.joinTail [32] ws)) = _
    rw [List.cons_append, wl_app hw, wl_tail ws y (h y (List.mem_cons_self ..)) fun x hx => h x (List.mem_cons_of_mem _ hx)]
theorem wl_joinB (w : ByteArray) (ws : List ByteArray) (h : ∀ x, x ∈ w :: ws → (32 : UInt8) ∉ x.data.toList) : wl (joinB (w :: ws) ⟨#[32]⟩).data.toList = w.data.toList :: ws.map (·.data.toList) := by
  show wl (Lib.join ((w :: ws).map (·.data.toList)) [32]) = _
  rw [List.map_cons, Lib.join_cons]
  refine wl_tail _ _ (h w (List.mem_cons_self ..)) fun x hx => ?_
  obtain ⟨y, hy, rfl⟩ := List.mem_map.1 hx
  exact h y (List.mem_cons_of_mem _ hy)
theorem plain_no32 : ∀ c : UInt8, plainB c = true → c ≠ 32 := forall_u8 (by decide +kernel)
theorem hex_no32 : ∀ n : Fin 16, hexD n.val ≠ 32 := by decide +kernel
theorem quoteL_no32 : ∀ l : List UInt8, (32 : UInt8) ∉ quoteL l
  | [] => by simp [quoteL]
  | c :: l => by
    have ih := quoteL_no32 l
    have hc := c.toNat_lt
    rw [quoteL]
    intro h
    rcases List.mem_append.1 h with h | h
    · cases hp : plainB c with
      | true =>
        rw [hp, if_pos rfl] at h
        exact plain_no32 c hp (List.mem_singleton.1 h).symm
      | false =>
        rw [hp, if_neg (by simp)] at h
        rcases List.mem_cons.1 h with h | h
        · exact absurd h (by decide)
        · rcases List.mem_cons.1 h with h | h
          · exact hex_no32 ⟨c.toNat / 16, by omega⟩ h.symm
          · exact hex_no32 ⟨c.toNat % 16, by omega⟩ (List.mem_singleton.1 h).symm
    · exact ih h
theorem quoteF_no32 (s : ByteArray) : (32 : UInt8) ∉ (quoteF s).data.toList := by
  rw [quoteF_list]
  split
  · decide
  · exact quoteL_no32 _
theorem dig_no32 (d : Nat) (h : d < 10) : (32 : UInt8) ≠ UInt8.ofNat (48 + d) := by
  intro e
  have := congrArg UInt8.toNat e
  have h2 := dig_nat d h
  rw [← this] at h2
  have : ((32 : UInt8).toNat : Int) = 32 := rfl
  omega
theorem dd_no32 : ∀ u : Nat, (32 : UInt8) ∉ decDigits u := by
  intro u
  induction u using Nat.strongRecOn with
  | ind u ih =>
    by_cases h : u < 10
    · rw [dd_small u h]
      intro e
      exact dig_no32 u h (List.mem_singleton.1 e)
    · rw [dd_step u h]
      intro e
      rcases List.mem_append.1 e with e | e
      · exact ih (u / 10) (by omega) e
      · exact dig_no32 (u % 10) (by omega) (List.mem_singleton.1 e)
theorem decS_list (n : Int) (h : 0 ≤ n) : (decS n).data.toList = decDigits n.toNat := by
  show Lib.itoa n = _
  exact itoa_nn h
/-- the first text that a word is read as -/
def uq1 (s : ByteArray) : ByteArray := match uqF s with
  | .tup (.str x :: _) => x
  | _ => nul
def uqb (s : ByteArray) : Bool := match uqF s with
  | .tup (_ :: .bool b :: _) => b
  | _ => false
theorem uqF_shape (s : ByteArray) : uqF s = .tup [.str (uq1 s), .bool (uqb s)] := by
  have : ∀ q, uqAns q = .tup [.str (match uqAns q with | .tup (.str x :: _) => x | _ => nul), .bool (match uqAns q with | .tup (_ :: .bool b :: _) => b | _ => false)] := by
    intro q; cases q <;> rfl
  unfold uq1 uqb uqF
  split
  · rfl
  · exact this _
theorem uq1_quote (s : ByteArray) : uq1 (quoteF s) = s := by unfold uq1; rw [uqF_quote]
def ud1 (s : ByteArray) : Int := match udF s with
  | .tup (.int _ n :: _) => n
  | _ => 0
def udb (s : ByteArray) : Bool := match udF s with
  | .tup (_ :: .bool b :: _) => b
  | _ => false
theorem udF_shape (s : ByteArray) : udF s = .tup [.int .i64 (ud1 s), .bool (udb s)] := by
  have : ∀ q, udAns q = .tup [.int .i64 (match udAns q with | .tup (.int _ n :: _) => n | _ => 0), .bool (match udAns q with | .tup (_ :: .bool b :: _) => b | _ => false)] := by
    intro q; cases q <;> rfl
  unfold ud1 udb udF
  split
  · rfl
  · exact this _
theorem ud1_dec (n : Int) (h0 : 0 ≤ n) (h1 : n ≤ 999999999) : ud1 (decS n) = n := by
  unfold ud1; rw [udF_dec n ⟨by omega, by omega⟩, if_pos ⟨h0, h1⟩]
/-- the kinds' words, and a word's place among them -/
def namesL : List ByteArray := [⟨#[98, 97, 100]⟩, ⟨#[112, 117, 116]⟩, ⟨#[97, 100, 100]⟩, ⟨#[100, 101, 108]⟩, ⟨#[119, 105, 112, 101]⟩, ⟨#[103, 101, 116]⟩, ⟨#[115, 99, 97, 110]⟩]
def idxS (x : ByteArray) : List ByteArray → Nat → Int
  | [], _ => -1
  | y :: l, i => if x.toList == y.toList then (i : Int) else idxS x l (i + 1)
def parseO (l : List ByteArray) : Opr :=
  let k := idxS (l.getD 0 nul) namesL 0
  let key := uq1 (l.getD 1 nul)
  let w := l.getD 2 nul
  let lim := if k == 6 then ud1 (l.getD 3 nul) else 0
  if k == 1 || k == 2 then ⟨k, key, nul, false, uq1 w, lim⟩
  else if k == 4 || k == 6 then (if w.toList == (ByteArray.mk #[42]).toList then ⟨k, key, nul, true, nul, lim⟩ else ⟨k, key, uq1 w, false, nul, lim⟩)
  else ⟨k, key, nul, false, nul, lim⟩
def lineX (o : Opr) : ByteArray := if o.right then lineO o else ⟨#[98, 97, 100]⟩
def wordsP (s : ByteArray) : List ByteArray := (wl s.data.toList).map wb ++ [nul, nul, nul]
def parseF (s : ByteArray) : Opr × Bool :=
  let o := parseO (wordsP s)
  if o.right && ((lineX o).toList == s.toList) then (o, true) else (Opr.zero, false)
theorem wb_data (s : ByteArray) : wb s.data.toList = s := by cases s; rfl
theorem quote_not_star (s : ByteArray) : ((quoteF s).toList == (ByteArray.mk #[42]).toList) = false := by
  rw [beq_eq_false_iff_ne]
  intro e
  rw [ByteArray.toList_eq, ByteArray.toList_eq] at e
  have h := quoteF_list s
  rw [e] at h
  split at h
  · cases h
  · cases hl : s.data.toList with
    | nil => contradiction
    | cons c l =>
      rw [hl, quoteL] at h
      cases hp : plainB c with
      | true =>
        rw [hp, if_pos rfl, List.singleton_append] at h
        have : c = 42 := (List.cons.inj h).1.symm
        subst this
        exact absurd hp (by decide +kernel)
      | false =>
        rw [hp, if_neg (by simp)] at h
        have := congrArg List.length h
        simp at this
theorem line_words (o : Opr) (hr : o.right = true) : (wl (lineO o).data.toList).map wb = lineW o := by
  have hp := right_parts hr
  obtain ⟨_, _, _, _, _, _, _, _, p4⟩ := hp
  have e : ∃ w ws, lineW o = w :: ws ∧ ∀ x, x ∈ w :: ws → (32 : UInt8) ∉ x.data.toList := by
    refine ⟨_, _, rfl, fun x hx => ?_⟩
    have hx' : x ∈ lineW o := hx
    unfold lineW at hx'
    rcases List.mem_append.1 hx' with h | h
    · rcases List.mem_append.1 h with h | h
      · rcases List.mem_cons.1 h with rfl | h
        · unfold kindW
          repeat' split
          all_goals decide
        · rw [List.mem_singleton.1 h]; exact quoteF_no32 _
      · split at h
        · rw [List.mem_singleton.1 h]; exact quoteF_no32 _
        · split at h
          · split at h
            · rw [List.mem_singleton.1 h]; decide
            · rw [List.mem_singleton.1 h]; exact quoteF_no32 _
          · simp at h
    · split at h
      · rename_i h6
        rw [h6] at p4
        have : 1 ≤ o.lim ∧ o.lim ≤ 64 := by simpa using p4
        rw [List.mem_singleton.1 h, decS_list _ (by omega)]
        exact dd_no32 _
      · simp at h
  obtain ⟨w, ws, e, h⟩ := e
  unfold lineO
  rw [e, wl_joinB w ws h, List.map_cons, wb_data, List.map_map]
  congr 1
  conv => rhs; rw [← List.map_id ws]
  exact List.map_congr_left fun x _ => wb_data x
theorem parse_line (o : Opr) (hr : o.right = true) : parseF (lineX o) = (o, true) := by
  have hx : lineX o = lineO o := by unfold lineX; rw [if_pos hr]
  have ho : parseO (wordsP (lineX o)) = o := by
    rw [hx]
    unfold wordsP
    rw [line_words o hr]
    obtain ⟨hk1, hk6, hkey, hhi, hval, p1, p2, p3, p4⟩ := right_parts hr
    obtain ⟨kind, key, hi, op, val, lim⟩ := o
    simp only at hk1 hk6 hkey hhi hval p1 p2 p3 p4
    have hk : kind = 1 ∨ kind = 2 ∨ kind = 3 ∨ kind = 4 ∨ kind = 5 ∨ kind = 6 := by omega
    rcases hk with rfl | rfl | rfl | rfl | rfl | rfl
    · have q : nilB hi = true ∧ op = false := by cases op <;> simp_all [Opr.ranged]
      have hl : lim = 0 := by simpa using p4
      have eh := nilB_eq q.1
      have eo := q.2
      subst hl eh eo
      have e : idxS (⟨#[112, 117, 116]⟩ : ByteArray) namesL 0 = 1 := by decide +kernel
      show parseO [⟨#[112, 117, 116]⟩, quoteF key, quoteF val, nul, nul, nul] = _
      unfold parseO
      simp [e, uq1_quote, List.getD_cons_zero, List.getD_cons_succ, nul]
    · have q : nilB hi = true ∧ op = false := by cases op <;> simp_all [Opr.ranged]
      have hl : lim = 0 := by simpa using p4
      have eh := nilB_eq q.1
      have eo := q.2
      subst hl eh eo
      have e : idxS (⟨#[97, 100, 100]⟩ : ByteArray) namesL 0 = 2 := by decide +kernel
      show parseO [⟨#[97, 100, 100]⟩, quoteF key, quoteF val, nul, nul, nul] = _
      unfold parseO
      simp [e, uq1_quote, List.getD_cons_zero, List.getD_cons_succ, nul]
    · have q : nilB hi = true ∧ op = false := by cases op <;> simp_all [Opr.ranged]
      have v : nilB val = true := by simpa [Opr.valued] using p1
      have hl : lim = 0 := by simpa using p4
      have eh := nilB_eq q.1
      have eo := q.2
      have ev := nilB_eq v
      subst hl eh eo ev
      have e : idxS (⟨#[100, 101, 108]⟩ : ByteArray) namesL 0 = 3 := by decide +kernel
      show parseO [⟨#[100, 101, 108]⟩, quoteF key, nul, nul, nul] = _
      unfold parseO
      simp [e, uq1_quote, List.getD_cons_zero, List.getD_cons_succ, nul]
    · have v : nilB val = true := by simpa [Opr.valued] using p1
      have hl : lim = 0 := by simpa using p4
      have ev := nilB_eq v
      subst hl ev
      have e : idxS (⟨#[119, 105, 112, 101]⟩ : ByteArray) namesL 0 = 4 := by decide +kernel
      cases op with
      | true =>
        have eh := nilB_eq (by simpa using p2 : nilB hi = true)
        subst eh
        show parseO [⟨#[119, 105, 112, 101]⟩, quoteF key, ⟨#[42]⟩, nul, nul, nul] = _
        unfold parseO
        simp [e, uq1_quote, List.getD_cons_zero, List.getD_cons_succ, nul]
      | false =>
        show parseO [⟨#[119, 105, 112, 101]⟩, quoteF key, quoteF hi, nul, nul, nul] = _
        unfold parseO
        have hs := quote_not_star hi
        simp only [beq_eq_false_iff_ne, ne_eq] at hs
        simp [e, uq1_quote, List.getD_cons_zero, List.getD_cons_succ, nul]
        exact fun e => hs (e.trans (by decide +kernel))
    · have q : nilB hi = true ∧ op = false := by cases op <;> simp_all [Opr.ranged]
      have v : nilB val = true := by simpa [Opr.valued] using p1
      have hl : lim = 0 := by simpa using p4
      have eh := nilB_eq q.1
      have eo := q.2
      have ev := nilB_eq v
      subst hl eh eo ev
      have e : idxS (⟨#[103, 101, 116]⟩ : ByteArray) namesL 0 = 5 := by decide +kernel
      show parseO [⟨#[103, 101, 116]⟩, quoteF key, nul, nul, nul] = _
      unfold parseO
      simp [e, uq1_quote, List.getD_cons_zero, List.getD_cons_succ, nul]
    · have v : nilB val = true := by simpa [Opr.valued] using p1
      have l12 : 1 ≤ lim ∧ lim ≤ 64 := by simpa using p4
      have ev := nilB_eq v
      subst ev
      have el := ud1_dec lim (by omega) (by omega)
      have e : idxS (⟨#[115, 99, 97, 110]⟩ : ByteArray) namesL 0 = 6 := by decide +kernel
      cases op with
      | true =>
        have eh := nilB_eq (by simpa using p2 : nilB hi = true)
        subst eh
        show parseO [⟨#[115, 99, 97, 110]⟩, quoteF key, ⟨#[42]⟩, decS lim, nul, nul, nul] = _
        unfold parseO
        simp [e, uq1_quote, el, List.getD_cons_zero, List.getD_cons_succ, nul]
      | false =>
        show parseO [⟨#[115, 99, 97, 110]⟩, quoteF key, quoteF hi, decS lim, nul, nul, nul] = _
        unfold parseO
        have hs := quote_not_star hi
        simp only [beq_eq_false_iff_ne, ne_eq] at hs
        simp [e, uq1_quote, el, List.getD_cons_zero, List.getD_cons_succ, nul]
        exact fun e => hs (e.trans (by decide +kernel))
  unfold parseF
  simp only
  rw [ho, hr, beq_self_eq_true]; rfl
end Go.Proofs.YtkdbphhekpdmhaaDoor
