/-
  Layer 7: an operation's bytes and the operation that bytes are, in plain terms.
-/
import Derived.Test.YtgpoglaojklfbaaDoorPkO
import Derived.Test.YtgpoglaojklfbaaDoorPkM
namespace Go.Proofs.YtgpoglaojklfbaaDoor
open Go.RowKit
set_option linter.unusedVariables false
set_option linter.unusedSimpArgs false
set_option maxRecDepth 100000
/-- what holds of an operation that may be -/
theorem right_parts {o : Opr} (h : o.right = true) : 1 ≤ o.kind ∧ o.kind ≤ 6 ∧ o.key.size ≤ 16 ∧ o.hi.size ≤ 16 ∧ o.val.size ≤ 16 ∧ (o.valued || nilB o.val) = true ∧ (!o.op || nilB o.hi) = true ∧
    (if o.ranged then !(Spn.empty ⟨o.key, o.hi, o.op⟩) else nilB o.hi && !o.op) = true ∧ (if o.kind == 6 then decide (1 ≤ o.lim) && decide (o.lim ≤ 64) else o.lim == 0) = true := by
  unfold Opr.right at h
  simp only [Bool.and_eq_true, decide_eq_true_eq] at h
  obtain ⟨⟨⟨⟨⟨⟨⟨⟨h1, h2⟩, h3⟩, h4⟩, h5⟩, h6⟩, h7⟩, h8⟩, h9⟩ := h
  refine ⟨h1, h2, by omega, by omega, by omega, h6, h7, ?_, ?_⟩
  · cases hr : o.ranged <;> rw [hr] at h8 <;> simpa using h8
  · cases hr : (o.kind == 6) <;> rw [hr] at h9 <;> simpa using h9
theorem ba_assoc (a b c : ByteArray) : a ++ b ++ c = a ++ (b ++ c) := by
  apply ba_ext
  simp only [ByteArray.data_append, Array.toList_append, List.append_assoc]
theorem ba_nil (a : ByteArray) : a ++ (⟨#[]⟩ : ByteArray) = a := by
  apply ba_ext
  simp only [ByteArray.data_append, Array.toList_append]
  exact List.append_nil _
theorem nil_of_size {s : ByteArray} (h : s.size = 0) : s = ⟨#[]⟩ := by
  cases s; congr 1; exact Array.eq_empty_of_size_eq_zero h
theorem nilB_eq {s : ByteArray} (h : nilB s = true) : s = ⟨#[]⟩ := by
  unfold nilB nul at h
  rw [bytes_nil] at h
  exact nil_of_size (by simpa using h)
theorem nilB_nil : nilB ⟨#[]⟩ = true := by decide +kernel
theorem b0_cons (c : UInt8) (t : ByteArray) : b0 ((⟨#[c]⟩ : ByteArray) ++ t) = c := by
  unfold b0
  rw [ByteArray.data_append, Array.toList_append]; rfl
theorem tk1_cons (c : UInt8) (t : ByteArray) (ok : Bool) : tk1v ((⟨#[c]⟩ : ByteArray) ++ t) = c.toNat ∧ tk1 ((⟨#[c]⟩ : ByteArray) ++ t) ok = (t, ok) := by
  have hz : ((⟨#[c]⟩ : ByteArray) ++ t).size = 1 + t.size := by rw [ByteArray.size_append]; rfl
  have hL : t.data.toList.length = t.size := by rw [Array.length_toList]; rfl
  refine ⟨by unfold tk1v; rw [if_neg (by omega), b0_cons], ?_⟩
  unfold tk1
  rw [if_neg (by omega), hz]
  congr 1
  apply ba_ext
  rw [ext_list, ByteArray.data_append, Array.toList_append]
  show List.drop 1 (List.take (1 + t.size) (c :: t.data.toList)) = _
  rw [List.take_of_length_le (by rw [List.length_cons]; omega)]; rfl
theorem tkx_text (x t : ByteArray) (h : x.size ≤ 255) : tkx (textF x ++ t) = (x, t, true) := by
  have hLx : x.data.toList.length = x.size := by rw [Array.length_toList]; rfl
  have hLt : t.data.toList.length = t.size := by rw [Array.length_toList]; rfl
  have hz : (textF x ++ t).size = 1 + x.size + t.size := by
    rw [ByteArray.size_append]; unfold textF; rw [ByteArray.size_append]; rfl
  have hd : (textF x ++ t).data.toList = UInt8.ofNat x.size :: (x.data.toList ++ t.data.toList) := by
    unfold textF
    simp only [ByteArray.data_append, Array.toList_append]; rfl
  have hb : (b0 (textF x ++ t)).toNat = x.size := by
    unfold b0
    rw [hd]
    show (UInt8.ofNat x.size).toNat = _
    rw [show (UInt8.ofNat x.size).toNat = x.size % 256 from UInt8.toNat_ofNat' ..]; omega
  unfold tkx
  rw [if_neg (by omega), hb]
  refine Prod.ext ?_ (Prod.ext ?_ rfl)
  · apply ba_ext
    show (ByteArray.extract _ 1 (1 + x.size)).data.toList = _
    rw [ext_list, hd, Nat.add_comm 1, List.take_succ_cons, List.drop_succ_cons, List.drop_zero, List.take_append_of_le_length (by omega), List.take_of_length_le (by omega)]
  · apply ba_ext
    show (ByteArray.extract _ (1 + x.size) _).data.toList = _
    rw [ext_list, hd, hz, List.take_of_length_le (by rw [List.length_cons, List.length_append]; omega), Nat.add_comm 1, List.drop_succ_cons, List.drop_append_of_le_length (by omega), List.drop_of_length_le (by omega), List.nil_append]
theorem tk1_inv {s s' : ByteArray} {ok : Bool} (h : tk1 s ok = (s', true)) : ok = true ∧ s = (⟨#[b0 s]⟩ : ByteArray) ++ s' ∧ tk1v s = (b0 s).toNat := by
  unfold tk1 at h
  by_cases h0 : s.size = 0
  · rw [if_pos h0] at h; cases h
  · rw [if_neg h0] at h
    have hL : s.data.toList.length = s.size := by rw [Array.length_toList]; rfl
    obtain ⟨rfl, rfl⟩ : s.extract 1 s.size = s' ∧ ok = true := by cases h; exact ⟨rfl, rfl⟩
    refine ⟨rfl, ?_, by unfold tk1v; rw [if_neg h0]⟩
    apply ba_ext
    rw [ByteArray.data_append, Array.toList_append, ext_list, List.take_of_length_le (by omega)]
    unfold b0
    cases hq : s.data.toList with
    | nil => rw [hq] at hL; simp at hL; omega
    | cons c l => rfl
theorem tkx_inv {s x t : ByteArray} (h : tkx s = (x, t, true)) : x.size ≤ 255 ∧ s = textF x ++ t := by
  unfold tkx at h
  by_cases h0 : s.size = 0 ∨ s.size ≤ (b0 s).toNat
  · rw [if_pos h0] at h; cases h
  · rw [if_neg h0] at h
    obtain ⟨rfl, rfl⟩ : s.extract 1 (1 + (b0 s).toNat) = x ∧ s.extract (1 + (b0 s).toNat) s.size = t := by cases h; exact ⟨rfl, rfl⟩
    have hb := (b0 s).toNat_lt
    exact ⟨by rw [ByteArray.size_extract]; omega, (text_back (by omega)).symm⟩
theorem ofNat_toNat (c : UInt8) : UInt8.ofNat ((c.toNat : Nat) : Int).toNat = c := by simp
/-- an operation's bytes are read as it -/
theorem of_bytes (o : Opr) (hr : o.right = true) : ofF (bytesO o) = (o, true) := by
  have hr0 := hr
  obtain ⟨hk1, hk6, hkey, hhi, hval, p1, p2, p3, p4⟩ := right_parts hr
  obtain ⟨kind, key, hi, op, val, lim⟩ := o
  simp only at hk1 hk6 hkey hhi hval p1 p2 p3 p4
  have hk : kind = 1 ∨ kind = 2 ∨ kind = 3 ∨ kind = 4 ∨ kind = 5 ∨ kind = 6 := by omega
  have plain : ∀ c : UInt8, (c.toNat : Int) = kind → (kind == 1 || kind == 2) = true → hi = ⟨#[]⟩ → op = false → lim = 0 → bytesO ⟨kind, key, hi, op, val, lim⟩ = (⟨#[c]⟩ : ByteArray) ++ (textF key ++ (textF val ++ ⟨#[]⟩)) → ofF (bytesO ⟨kind, key, hi, op, val, lim⟩) = (⟨kind, key, hi, op, val, lim⟩, true) := by
    rintro c hc hv rfl rfl rfl e
    obtain ⟨t1, t2⟩ := tk1_cons c (textF key ++ (textF val ++ ⟨#[]⟩)) true
    rw [e, ofF_val _ _ _ _ _ _ _ _ t1 t2 (tkx_text key _ (by omega)) rfl val ⟨#[]⟩ true true (by rw [hc]; exact hv) (tkx_text val _ (by omega)) rfl]
    rw [nilB_nil, hc, hr0]; rfl
  have none' : ∀ c : UInt8, (c.toNat : Int) = kind → (kind == 1 || kind == 2) = false → (kind == 4 || kind == 6) = false → hi = ⟨#[]⟩ → op = false → val = ⟨#[]⟩ → lim = 0 → bytesO ⟨kind, key, hi, op, val, lim⟩ = (⟨#[c]⟩ : ByteArray) ++ (textF key ++ ⟨#[]⟩) → ofF (bytesO ⟨kind, key, hi, op, val, lim⟩) = (⟨kind, key, hi, op, val, lim⟩, true) := by
    rintro c hc hv hg rfl rfl rfl rfl e
    obtain ⟨t1, t2⟩ := tk1_cons c (textF key ++ ⟨#[]⟩) true
    rw [e, ofF_none _ _ _ _ _ _ _ _ t1 t2 (tkx_text key _ (by omega)) rfl (by rw [hc]; exact hv) (by rw [hc]; exact hg)]
    rw [nilB_nil, hc, hr0]; rfl
  rcases hk with rfl | rfl | rfl | rfl | rfl | rfl
  · have q : nilB hi = true ∧ op = false := by cases op <;> simp_all [Opr.ranged]
    exact plain 1 rfl rfl (nilB_eq q.1) q.2 (by simpa using p4) (by
      rw [ba_nil]; show (_ ++ _) ++ _ = _; rw [ba_assoc]; rfl)
  · have q : nilB hi = true ∧ op = false := by cases op <;> simp_all [Opr.ranged]
    exact plain 2 rfl rfl (nilB_eq q.1) q.2 (by simpa using p4) (by
      rw [ba_nil]; show (_ ++ _) ++ _ = _; rw [ba_assoc]; rfl)
  · have q : nilB hi = true ∧ op = false := by cases op <;> simp_all [Opr.ranged]
    have v : nilB val = true := by simpa [Opr.valued] using p1
    exact none' 3 rfl rfl rfl (nilB_eq q.1) q.2 (nilB_eq v) (by simpa using p4) (by rw [ba_nil]; rfl)
  · have v : nilB val = true := by simpa [Opr.valued] using p1
    obtain rfl := nilB_eq v
    obtain rfl : lim = 0 := by simpa using p4
    cases op with
    | true =>
      have q : nilB hi = true := by simpa using p2
      obtain rfl := nilB_eq q
      have e : bytesO ⟨4, key, ⟨#[]⟩, true, ⟨#[]⟩, 0⟩ = (⟨#[4]⟩ : ByteArray) ++ (textF key ++ ((⟨#[1]⟩ : ByteArray) ++ (⟨#[]⟩ : ByteArray))) := by
        rw [ba_nil]; show (_ ++ _) ++ _ = _; rw [ba_assoc]; rfl
      obtain ⟨t1, t2⟩ := tk1_cons 4 (textF key ++ ((⟨#[1]⟩ : ByteArray) ++ (⟨#[]⟩ : ByteArray))) true
      obtain ⟨u1, u2⟩ := tk1_cons 1 (⟨#[]⟩ : ByteArray) true
      rw [e, ofF_op4 _ _ _ _ _ _ _ _ t1 t2 (tkx_text key _ (by omega)) rfl rfl _ _ _ u1 u2 rfl rfl rfl rfl]
      rw [nilB_nil, show ((4 : UInt8).toNat : Int) = 4 from rfl, hr0]; rfl
    | false =>
      have e : bytesO ⟨4, key, hi, false, ⟨#[]⟩, 0⟩ = (⟨#[4]⟩ : ByteArray) ++ (textF key ++ ((⟨#[0]⟩ : ByteArray) ++ (textF hi ++ (⟨#[]⟩ : ByteArray)))) := by
        rw [ba_nil]; show (_ ++ _) ++ _ = _; rw [ba_assoc]; rfl
      obtain ⟨t1, t2⟩ := tk1_cons 4 (textF key ++ ((⟨#[0]⟩ : ByteArray) ++ (textF hi ++ (⟨#[]⟩ : ByteArray)))) true
      obtain ⟨u1, u2⟩ := tk1_cons 0 (textF hi ++ (⟨#[]⟩ : ByteArray)) true
      rw [e, ofF_hi4 _ _ _ _ _ _ _ _ t1 t2 (tkx_text key _ (by omega)) rfl rfl _ _ _ u1 u2 rfl hi ⟨#[]⟩ true true (tkx_text hi _ (by omega)) rfl rfl rfl]
      rw [nilB_nil, show ((4 : UInt8).toNat : Int) = 4 from rfl, hr0]; rfl
  · have q : nilB hi = true ∧ op = false := by cases op <;> simp_all [Opr.ranged]
    have v : nilB val = true := by simpa [Opr.valued] using p1
    exact none' 5 rfl rfl rfl (nilB_eq q.1) q.2 (nilB_eq v) (by simpa using p4) (by rw [ba_nil]; rfl)
  · have v : nilB val = true := by simpa [Opr.valued] using p1
    obtain rfl := nilB_eq v
    have l12 : 1 ≤ lim ∧ lim ≤ 64 := by simpa using p4
    obtain ⟨l, hl⟩ : ∃ l, UInt8.ofNat lim.toNat = l := ⟨_, rfl⟩
    have hln : (l.toNat : Int) = lim := by rw [← hl, show (UInt8.ofNat lim.toNat).toNat = lim.toNat % 256 from UInt8.toNat_ofNat' ..]; omega
    cases op with
    | true =>
      have q : nilB hi = true := by simpa using p2
      obtain rfl := nilB_eq q
      have e : bytesO ⟨6, key, ⟨#[]⟩, true, ⟨#[]⟩, lim⟩ = (⟨#[6]⟩ : ByteArray) ++ (textF key ++ ((⟨#[1]⟩ : ByteArray) ++ ((⟨#[l]⟩ : ByteArray) ++ ⟨#[]⟩))) := by
        rw [ba_nil, ← hl]; show ((_ ++ _) ++ _) ++ _ = _; rw [ba_assoc, ba_assoc]; rfl
      obtain ⟨t1, t2⟩ := tk1_cons 6 (textF key ++ ((⟨#[1]⟩ : ByteArray) ++ ((⟨#[l]⟩ : ByteArray) ++ ⟨#[]⟩))) true
      obtain ⟨u1, u2⟩ := tk1_cons 1 ((⟨#[l]⟩ : ByteArray) ++ ⟨#[]⟩) true
      obtain ⟨x1, x2⟩ := tk1_cons l ⟨#[]⟩ true
      rw [e, ofF_op6 _ _ _ _ _ _ _ _ t1 t2 (tkx_text key _ (by omega)) rfl rfl _ _ _ u1 u2 rfl rfl rfl _ _ _ x1 x2, hln]
      rw [nilB_nil, show ((6 : UInt8).toNat : Int) = 6 from rfl, hr0]; rfl
    | false =>
      have e : bytesO ⟨6, key, hi, false, ⟨#[]⟩, lim⟩ = (⟨#[6]⟩ : ByteArray) ++ (textF key ++ ((⟨#[0]⟩ : ByteArray) ++ (textF hi ++ ((⟨#[l]⟩ : ByteArray) ++ ⟨#[]⟩)))) := by
        rw [ba_nil, ← hl]; show ((_ ++ _) ++ (_ ++ _)) ++ _ = _; rw [ba_assoc, ba_assoc, ba_assoc]; rfl
      obtain ⟨t1, t2⟩ := tk1_cons 6 (textF key ++ ((⟨#[0]⟩ : ByteArray) ++ (textF hi ++ ((⟨#[l]⟩ : ByteArray) ++ ⟨#[]⟩)))) true
      obtain ⟨u1, u2⟩ := tk1_cons 0 (textF hi ++ ((⟨#[l]⟩ : ByteArray) ++ ⟨#[]⟩)) true
      obtain ⟨x1, x2⟩ := tk1_cons l ⟨#[]⟩ true
      rw [e, ofF_hi6 _ _ _ _ _ _ _ _ t1 t2 (tkx_text key _ (by omega)) rfl rfl _ _ _ u1 u2 rfl hi _ true true (tkx_text hi _ (by omega)) rfl rfl _ _ _ x1 x2, hln]
      rw [nilB_nil, show ((6 : UInt8).toNat : Int) = 6 from rfl, hr0]; rfl
/-- what is read is the operation whose bytes they are -/
theorem bytes_of {s : ByteArray} (h : (ofF s).2 = true) : (ofF s).1.right = true ∧ bytesO (ofF s).1 = s := by
  obtain ⟨k, ek⟩ : ∃ k, tk1v s = k := ⟨_, rfl⟩
  obtain ⟨s1, ok1, e1⟩ : ∃ s1 ok1, tk1 s true = (s1, ok1) := ⟨_, _, rfl⟩
  obtain ⟨key, s2, is2, e2⟩ : ∃ key s2 is2, tkx s1 = (key, s2, is2) := ⟨_, _, _, rfl⟩
  obtain ⟨ok2, eo2⟩ : ∃ ok2, (ok1 && is2) = ok2 := ⟨_, rfl⟩
  -- from an answer to its parts
  have fin : ∀ {o : Opr} {t : ByteArray} {ok : Bool}, ofF s = (if !ok || !nilB t || !(Opr.right o) then (Opr.zero, false) else (o, true)) → (ok = true → t = ⟨#[]⟩ → bytesO o = s) → (ofF s).1.right = true ∧ bytesO (ofF s).1 = s := by
    intro o t ok e hb
    rw [e] at h ⊢
    cases hok : ok with
    | false => rw [hok] at h; cases h
    | true =>
      cases hn : nilB t with
      | false => rw [hok, hn] at h; cases h
      | true =>
        cases hr : Opr.right o with
        | false => rw [hok, hn, hr] at h; cases h
        | true => exact ⟨hr, hb hok (nilB_eq hn)⟩
  -- the front
  have front : ok2 = true → s = (⟨#[b0 s]⟩ : ByteArray) ++ (textF key ++ s2) ∧ UInt8.ofNat k.toNat = b0 s := by
    intro e
    rw [e] at eo2
    obtain ⟨rfl, rfl⟩ : ok1 = true ∧ is2 = true := by simpa using eo2
    obtain ⟨_, a1, a2⟩ := tk1_inv e1
    obtain ⟨_, b1⟩ := tkx_inv e2
    refine ⟨by rw [← b1]; exact a1, ?_⟩
    rw [← ek, a2]; simp
  cases hv : (k == 1 || k == 2) with
  | true =>
    have h4 : (k == 4) = false := by rw [beq_eq_false_iff_ne]; have : k = 1 ∨ k = 2 := by simpa using hv
                                     omega
    have h6 : (k == 6) = false := by rw [beq_eq_false_iff_ne]; have : k = 1 ∨ k = 2 := by simpa using hv
                                     omega
    obtain ⟨val, s3, is3, e3⟩ : ∃ val s3 is3, tkx s2 = (val, s3, is3) := ⟨_, _, _, rfl⟩
    refine fin (ofF_val s s1 s2 key k ok1 is2 ok2 ek e1 e2 eo2 val s3 is3 _ hv e3 rfl) fun hok hs3 => ?_
    obtain ⟨rfl, rfl⟩ : ok2 = true ∧ is3 = true := by simpa using hok
    obtain ⟨a1, a2⟩ := front rfl
    obtain ⟨_, b1⟩ := tkx_inv e3
    unfold bytesO Opr.valued Opr.ranged
    simp only [hv, h6, a2, if_true, Bool.false_eq_true, if_false]
    conv => rhs; rw [a1, b1, hs3, ba_nil, ← ba_assoc]
  | false =>
    cases hg : (k == 4 || k == 6) with
    | false =>
      have h6 : (k == 6) = false := by cases h : (k == 6) <;> simp_all
      have h4 : (k == 4) = false := by cases h : (k == 4) <;> simp_all
      refine fin (ofF_none s s1 s2 key k ok1 is2 ok2 ek e1 e2 eo2 hv hg) fun hok hs2 => ?_
      obtain ⟨a1, a2⟩ := front hok
      unfold bytesO Opr.valued Opr.ranged
      simp only [hv, h4, h6, a2, Bool.or_true, Bool.or_false, Bool.or_self, if_true, Bool.false_eq_true, if_false]
      conv => rhs; rw [a1, hs2, ba_nil]
    | true =>
      obtain ⟨kd, ed⟩ : ∃ kd, tk1v s2 = kd := ⟨_, rfl⟩
      obtain ⟨s3, ok3, e3⟩ : ∃ s3 ok3, tk1 s2 ok2 = (s3, ok3) := ⟨_, _, rfl⟩
      have mid : ok3 = true → ok2 = true ∧ s2 = (⟨#[b0 s2]⟩ : ByteArray) ++ s3 ∧ kd = (b0 s2).toNat := by
        intro e
        rw [e] at e3
        obtain ⟨c1, c2, c3⟩ := tk1_inv e3
        exact ⟨c1, c2, by rw [← ed]; exact c3⟩
      have low : ∀ {c : UInt8} {n : Nat}, ((c.toNat : Int) == n) = true → n < 256 → c = UInt8.ofNat n := by
        intro c n hc hn
        have : c.toNat = n := by have := of_decide_eq_true (p := (c.toNat : Int) = n) (by simpa using hc); omega
        rw [← this]; simp
      cases d0 : (kd == 0) with
      | true =>
        obtain ⟨hi, s4, is4, e4⟩ : ∃ hi s4 is4, tkx s3 = (hi, s4, is4) := ⟨_, _, _, rfl⟩
        cases h6 : (k == 6) with
        | false =>
          have h4 : (k == 4) = true := by simpa [h6] using hg
          refine fin (ofF_hi4 s s1 s2 key k ok1 is2 ok2 ek e1 e2 eo2 hv kd s3 ok3 ed e3 d0 hi s4 is4 _ e4 rfl h4 h6) fun hok hs4 => ?_
          obtain ⟨rfl, rfl⟩ : ok3 = true ∧ is4 = true := by simpa using hok
          obtain ⟨c1, c2, c3⟩ := mid rfl
          obtain ⟨a1, a2⟩ := front c1
          obtain ⟨_, b1⟩ := tkx_inv e4
          have z : b0 s2 = 0 := low (n := 0) (by rw [← c3]; exact d0) (by omega)
          unfold bytesO Opr.valued Opr.ranged
          simp only [hv, h4, h6, a2, Bool.or_true, Bool.or_false, Bool.or_self, if_true, Bool.false_eq_true, if_false]
          conv => rhs; rw [a1, c2, z, b1, hs4, ba_nil, ← ba_assoc]
        | true =>
          obtain ⟨s9, ok9, e9⟩ : ∃ s9 ok9, tk1 s4 (ok3 && is4) = (s9, ok9) := ⟨_, _, rfl⟩
          refine fin (ofF_hi6 s s1 s2 key k ok1 is2 ok2 ek e1 e2 eo2 hv kd s3 ok3 ed e3 d0 hi s4 is4 _ e4 rfl h6 _ s9 ok9 rfl e9) fun hok hs9 => ?_
          rw [hok] at e9
          obtain ⟨g1, g2, g3⟩ := tk1_inv e9
          obtain ⟨rfl, rfl⟩ : ok3 = true ∧ is4 = true := by simpa using g1
          obtain ⟨c1, c2, c3⟩ := mid rfl
          obtain ⟨a1, a2⟩ := front c1
          obtain ⟨_, b1⟩ := tkx_inv e4
          have z : b0 s2 = 0 := low (n := 0) (by rw [← c3]; exact d0) (by omega)
          have gl : UInt8.ofNat (tk1v s4).toNat = b0 s4 := by rw [g3]; simp
          unfold bytesO Opr.valued Opr.ranged
          simp only [hv, h6, a2, gl, Bool.or_true, if_true, Bool.false_eq_true, if_false]
          conv => rhs; rw [a1, c2, z, b1, g2, hs9, ba_nil]
          simp only [ba_assoc]
      | false =>
        cases d1 : (kd == 1) with
        | true =>
          cases h6 : (k == 6) with
          | false =>
            have h4 : (k == 4) = true := by simpa [h6] using hg
            refine fin (ofF_op4 s s1 s2 key k ok1 is2 ok2 ek e1 e2 eo2 hv kd s3 ok3 ed e3 d0 d1 h4 h6) fun hok hs3 => ?_
            obtain ⟨c1, c2, c3⟩ := mid hok
            obtain ⟨a1, a2⟩ := front c1
            have z : b0 s2 = 1 := low (n := 1) (by rw [← c3]; exact d1) (by omega)
            unfold bytesO Opr.valued Opr.ranged
            simp only [hv, h4, h6, a2, Bool.or_true, Bool.or_false, Bool.or_self, if_true, Bool.false_eq_true, if_false]
            conv => rhs; rw [a1, c2, z, hs3, ba_nil, ← ba_assoc]
          | true =>
            obtain ⟨s9, ok9, e9⟩ : ∃ s9 ok9, tk1 s3 ok3 = (s9, ok9) := ⟨_, _, rfl⟩
            refine fin (ofF_op6 s s1 s2 key k ok1 is2 ok2 ek e1 e2 eo2 hv kd s3 ok3 ed e3 d0 d1 h6 _ s9 ok9 rfl e9) fun hok hs9 => ?_
            rw [hok] at e9
            obtain ⟨g1, g2, g3⟩ := tk1_inv e9
            obtain ⟨c1, c2, c3⟩ := mid g1
            obtain ⟨a1, a2⟩ := front c1
            have z : b0 s2 = 1 := low (n := 1) (by rw [← c3]; exact d1) (by omega)
            have gl : UInt8.ofNat (tk1v s3).toNat = b0 s3 := by rw [g3]; simp
            unfold bytesO Opr.valued Opr.ranged
            simp only [hv, h6, a2, gl, Bool.or_true, if_true, Bool.false_eq_true, if_false]
            conv => rhs; rw [a1, c2, z, g2, hs9, ba_nil]
            simp only [ba_assoc]
        | false =>
          cases h6 : (k == 6) with
          | false =>
            have h4 : (k == 4) = true := by simpa [h6] using hg
            exact fin (ofF_odd4 s s1 s2 key k ok1 is2 ok2 ek e1 e2 eo2 hv kd s3 ok3 ed e3 d0 d1 h4 h6) fun hok => by cases hok
          | true =>
            obtain ⟨s9, ok9, e9⟩ : ∃ s9 ok9, tk1 s3 false = (s9, ok9) := ⟨_, _, rfl⟩
            refine fin (ofF_odd6 s s1 s2 key k ok1 is2 ok2 ek e1 e2 eo2 hv kd s3 ok3 ed e3 d0 d1 h6 _ s9 ok9 rfl e9) fun hok hs9 => ?_
            rw [hok] at e9
            exact absurd (tk1_inv e9).1 (by simp)
end Go.Proofs.YtgpoglaojklfbaaDoor
