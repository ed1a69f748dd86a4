/-
  A machine with a heap, seventh part: appends; every operation is sound.
-/
import Derived.Test.YtcccaomnehdlbaaDoorHpF
import Derived.Lib.AppendZeros
import Derived.Lib.AppendStr
namespace Go.Proofs.YtcccaomnehdlbaaDoor
open Go.RowKit
set_option linter.unusedVariables false
set_option linter.unusedSimpArgs false
namespace Hm
section
variable {P : Program} {E : Mx} {w : World} {T : Nat → V} {a : Act} {o : Oper} {nx : Nat} {G : Nat → Option Ob}

theorem upsH_append (l m : List (Nat × Option Ob)) (H : Nat → Option Ob) : upsH (l ++ m) H = upsH m (upsH l H) := by
  induction l generalizing H with
  | nil => rfl
  | cons p l ih => exact ih _
theorem Out.made2 {E1 : Mx} {w1 : World} {s : Sem Next} {v : V} {u : Value} (ups0 : List (Nat × Option Ob)) (hR1 : Rel E1 w1) (hS : Step E w E1 w1) (hU : E1.U = E.U) (hH : E1.H = upsH ups0 E.H) (hnx : ¬ E.U nx) {ob : Ob} {o : Obj} (h : s.run P w = .ok (.value u) (w1.alloc o)) (ho : ObR E1 w1 0 ob o)
    (hv : Vr (E1.new nx w1.heap.size 0 ob) (w1.alloc o) v u) : Out P E w s v (ups0 ++ [(nx, some ob)]) nx (nx + 1) := by
  obtain ⟨h1, h2⟩ := hR1.new (by rw [hU]; exact hnx) ho
  refine ⟨u, _, _, .inl h, hv, h1, hS.trans h2, ?_, fun r => ?_⟩
  · show upd E1.H nx (some ob) = _
    rw [upsH_append, ← hH]; rfl
  · show E1.U r ∨ r = nx ↔ _
    rw [hU]
    exact ⟨fun q => q.imp id fun q => by omega, fun q => q.imp id fun q => by omega⟩
theorem Rel.ones (h : Rel E w) {r : Nat} {tb : TypeId × Nat} {cs : List V} (hr : E.H r = some (.cells tb cs)) (o z : Nat) : oks ((cs.drop o).take z) = true := by
  obtain ⟨ob, h1, h2⟩ := h.obj r _ hr
  cases ob <;> try exact h2.elim
  obtain ⟨h3, h4, h5⟩ := h2
  refine List.all_eq_true.2 fun c hc => ?_
  obtain ⟨j, hj⟩ := List.mem_iff_getElem?.1 (List.mem_of_mem_drop (List.mem_of_mem_take hc))
  exact (h5 j c hj).1
theorem zeroCells_size (z : Array Value) (n : Nat) : (Builtin.zeroCells z n).size = n * z.size := by simp [Builtin.zeroCells]
theorem grown_ob {b : Nat} (hb : 1 ≤ b) {cs : List V} {us : List Value} {zs : Array Value} {t : TypeId} (h : Vrs E w cs us) (h1 : oks cs = true) : ObR E w 0 (.cells (t, b) cs) (.cells (us.toArray ++ zs) t (0, 0)) := by
  refine ⟨.inl rfl, ⟨by simp [h.len], fun _ => rfl, rfl, fun _ => rfl, fun q => absurd q (show b ≠ 0 by omega)⟩, fun j c hc => ⟨List.all_eq_true.1 h1 c (List.mem_of_getElem? hc), ?_⟩⟩
  obtain ⟨u, hu, hv⟩ := h.get hc
  have hj := (List.getElem?_eq_some_iff.1 hu).1
  exact ⟨u, by rw [Nat.zero_add, Array.getElem?_append_left (by simpa using hj), List.getElem?_toArray]; exact hu, hv⟩
theorem run_append_zeroH {t ty e : TypeId} {i : TypeInfo} (ht : P.underlying t = some (.slice e)) (hi : P.info? e = some i) {base A : Option Addr} {len cap c : Nat} (hl : len ≤ cap) :
    (Builtin.append_ #[t, t] ty #[.slice base len cap, .slice A 0 c]).run P w = .ok (.slice base len cap) w := by
  cases A with
  | none =>
    cases base with
    | none => simp [Builtin.append_, run_underlying ht, sizeOf, typeInfo, hi, Builtin.lenOf, hl, Builtin.firstCells]
    | some b => simp [Builtin.append_, run_underlying ht, sizeOf, typeInfo, hi, Builtin.lenOf, hl, Builtin.firstCells, storeCells]
  | some a' =>
    cases base with
    | none => simp [Builtin.append_, run_underlying ht, sizeOf, typeInfo, hi, Builtin.lenOf, hl, Builtin.firstCells, loadCells, loadCellsFrom]
    | some b => simp [Builtin.append_, run_underlying ht, sizeOf, typeInfo, hi, Builtin.lenOf, hl, Builtin.firstCells, storeCells, loadCells, loadCellsFrom]
theorem run_builtinH {c : Call} {b : Builtin} (ho : o.op = .call c) (hc : c.callee = .builtin b) :
    (execOp a.eval o).run P w = (builtin b c.argTypes o.type (c.args.map fun | .const _ => true | _ => false) (c.args.map a.eval)).run P w := by
  simp only [execOp, ho, resolve, hc]
  simp [invoke]
  rfl
theorem run_append_roomH {t ty e : TypeId} {i : TypeInfo} (ht : P.underlying t = some (.slice e)) (hi : P.info? e = some i) {g b sLen sCap : Nat} {cur : Array Value} {et : TypeId} {fr : Nat × Nat} (hg : w.heap[g]? = some (.cells cur et fr)) (hfr : Unf fr cur.size) {ad : Addr} {m c : Nat} {news : List Value} (hl : news.length = m * i.size) (hnews : ∀ j u, news[j]? = some u → w.cell? (ad.add j) = some u) (h1 : ∀ u ∈ news, u.oneCell' = true)
    (hroom : sLen + m ≤ sCap) (hfit : b + sLen * i.size + news.length ≤ cur.size) :
    (Builtin.append_ #[t, t] ty #[.slice (some ⟨g, b, none⟩) sLen sCap, .slice (some ad) m c]).run P w =
      .ok (.slice (some ⟨g, b, none⟩) (sLen + m) sCap) (w.setRow g (cur.toList.take (b + sLen * i.size) ++ news ++ cur.toList.drop (b + sLen * i.size + news.length)).toArray) := by
  have hf := run_firstCells_some (P := P) w i.size m ad m c news hl hnews
  have hst := run_storeCells_atU P g (b + sLen * i.size) et fr cur.size hfr news 0 cur w rfl hg (by simpa using hfit) h1
  simp only [Nat.add_zero] at hst
  simp [Builtin.append_, run_underlying ht, sizeOf, typeInfo, hi, Builtin.lenOf, hroom, hf, Addr.add_lit, hst]
/-- the second argument of an append -/
structure Arg2 (P : Program) (w : World) (e t' : TypeId) (z : Nat) (x : Value) (m : Nat) (us : List Value) : Prop where
  ty : P.underlying t' = some (.slice e) ∨ P.underlying t' = some .string
  len : ∀ w, (Builtin.lenOf x).run P w = .ok m w
  cells : (Builtin.firstCells z m x).run P w = .ok us.toArray w
  drew : (Builtin.firstCells z m x).run P w.drew = .ok us.toArray w.drew
theorem run_append_zeroG {t t' ty e : TypeId} {i : TypeInfo} (ht : P.underlying t = some (.slice e)) (hi : P.info? e = some i) {base : Option Addr} {len cap : Nat} {x : Value} (hl : len ≤ cap) (hx : Arg2 P w e t' i.size x 0 []) :
    (Builtin.append_ #[t, t'] ty #[.slice base len cap, x]).run P w = .ok (.slice base len cap) w := by
  have h1 := hx.len w
  have h2 := hx.cells
  rcases hx.ty with hu | hu <;> cases base <;> simp [Builtin.append_, run_underlying ht, run_underlying hu, sizeOf, typeInfo, hi, h1, hl, h2, storeCells]
theorem run_append_nilG {t t' ty e : TypeId} {i : TypeInfo} {z : Value} (ht : P.underlying t = some (.slice e)) (hi : P.info? e = some i) (hz : i.zero = some z) {n : Nat} {x : Value} {news : List Value} (hx : Arg2 P w e t' i.size x n news)
    (h0 : 0 < n) (h63 : (n : Int) ≤ 9223372036854775807) (h48 : n * i.bytes ≤ 281474976710656) :
    (Builtin.append_ #[t, t'] ty #[.slice none 0 0, x]).run P w =
      .ok (.slice (some ⟨w.heap.size, 0, none⟩) n (grownCap w n 0 e)) (w.drew.alloc (.cells (news.toArray ++ Builtin.zeroCells z.cells (grownCap w n 0 e - n)) e)) := by
  have hn : n ≠ 0 := by omega
  have h63' : ¬ (9223372036854775807 < (n : Int)) := by omega
  have h48' : ¬ (281474976710656 < Builtin.nextslicecap n 0 * i.bytes) := by rw [nextslicecap_zero h0]; omega
  have h1 := hx.len w
  have h2 := hx.drew
  rcases hx.ty with hu | hu <;>
    simp [Builtin.append_, run_underlying ht, run_underlying hu, sizeOf, typeInfo, zeroValue, hi, hz, h1, hn, h63', h48', Question.forced, run_firstCells_none, h2, newRow, grownCap]
theorem run_append_growG {t t' ty e : TypeId} {i : TypeInfo} {z : Value} (ht : P.underlying t = some (.slice e)) (hi : P.info? e = some i) (hz : i.zero = some z)
    {b : Addr} {sLen sCap : Nat} {olds : List Value} (hlo : olds.length = sLen * i.size) (holds : ∀ j v, olds[j]? = some v → w.cell? (b.add j) = some v)
    {n : Nat} {x : Value} {news : List Value} (hx : Arg2 P w e t' i.size x n news)
    (hg : sCap < sLen + n) (h63 : ((sLen + n : Nat) : Int) ≤ 9223372036854775807) (hfit : Builtin.nextslicecap (sLen + n) sCap * i.bytes ≤ 281474976710656) :
    (Builtin.append_ #[t, t'] ty #[.slice (some b) sLen sCap, x]).run P w =
      .ok (.slice (some ⟨w.heap.size, 0, none⟩) (sLen + n) (grownCap w (sLen + n) sCap e))
        (w.drew.alloc (.cells (olds.toArray ++ news.toArray ++ Builtin.zeroCells z.cells (grownCap w (sLen + n) sCap e - (sLen + n))) e)) := by
  have hn : ¬ (sLen + n ≤ sCap) := by omega
  have h63' : ¬ (9223372036854775807 < ((sLen : Int) + (n : Int))) := by omega
  have h48' : ¬ (281474976710656 < Builtin.nextslicecap (sLen + n) sCap * i.bytes) := by omega
  have h1 := hx.len w
  have h2 := hx.drew
  have hfo := run_firstCells_some (P := P) w.drew i.size sLen b sLen sCap olds hlo (by simpa using holds)
  rcases hx.ty with hu | hu
  all_goals
    simp [Builtin.append_, run_underlying ht, run_underlying hu, sizeOf, typeInfo, zeroValue, hi, hz, h1, hn, h63', h48', Question.forced, h2, hfo, newRow, grownCap]
    congr 2
    apply Array.ext'
    simp [List.append_assoc]
theorem run_append_roomG {t t' ty e : TypeId} {i : TypeInfo} (ht : P.underlying t = some (.slice e)) (hi : P.info? e = some i) {g b sLen sCap : Nat} {cur : Array Value} {et : TypeId} {fr : Nat × Nat} (hg : w.heap[g]? = some (.cells cur et fr)) (hfr : Unf fr cur.size) {m : Nat} {x : Value} {news : List Value}
    (hx : Arg2 P w e t' i.size x m news) (h1 : ∀ u ∈ news, u.oneCell' = true) (hroom : sLen + m ≤ sCap) (hfit : b + sLen * i.size + news.length ≤ cur.size) :
    (Builtin.append_ #[t, t'] ty #[.slice (some ⟨g, b, none⟩) sLen sCap, x]).run P w =
      .ok (.slice (some ⟨g, b, none⟩) (sLen + m) sCap) (w.setRow g (cur.toList.take (b + sLen * i.size) ++ news ++ cur.toList.drop (b + sLen * i.size + news.length)).toArray) := by
  have hst := run_storeCells_atU P g (b + sLen * i.size) et fr cur.size hfr news 0 cur w rfl hg (by simpa using hfit) h1
  simp only [Nat.add_zero] at hst
  have k1 := hx.len w
  have k2 := hx.cells
  rcases hx.ty with hu | hu <;> simp [Builtin.append_, run_underlying ht, run_underlying hu, sizeOf, typeInfo, hi, k1, hroom, k2, Addr.add_lit, hst]
/-- the new cells of an append -/
theorem news_out {z : Nat} {y : V} {u : Value} {news : List V} (hz : 0 < z) (hR : Rel E w) (hG : ∀ r ob, G r = some ob → E.H r = some ob) (hy : Vr E w y u) (hs : ∀ s, y ≠ .lit (.string s)) (h : newsOf G z y = some news) :
    ∃ us A cap, u = .slice A (news.length / z) cap ∧ news.length = news.length / z * z ∧ Vrs E w news us ∧ us.length = news.length / z * z ∧ (∀ x, x ∈ us → x.oneCell' = true) ∧ oks news = true ∧ (0 < news.length / z → ∃ b, A = some b ∧ ∀ j x, us[j]? = some x → w.cell? (b.add j) = some x) := by
  unfold newsOf at h
  split at h
  · cases h
    have := hy.lit_inv
    subst this
    exact ⟨[], none, 0, by simp, by simp, .nil, by simp, (fun x hx => by cases hx), rfl, fun q => by simp at q⟩
  · exact absurd rfl (hs _)
  · rename_i r off z' len
    split at h
    · rename_i hzz
      subst hzz
      split at h
      · rename_i tb cs hg
        split at h
        · rename_i hle
          cases h
          have hr := hG r _ hg
          obtain ⟨A, cap, hu, hU, h0, hlc, hm, hlv⟩ := hy.sl_inv
          obtain ⟨⟨ad, hA, hbk⟩, hA2, _⟩ := hlv (by rw [hr]; rfl)
          obtain ⟨us, k1, k2, k3, k4⟩ := hR.reads hr off (len * z') hle
          have hnl : ((cs.drop off).take (len * z')).length = len * z' := by simp; omega
          have hd : len * z' / z' = len := Nat.mul_div_cancel _ hz
          rw [hnl, hd]
          refine ⟨us, A, cap, hu, rfl, k1, k2, k3, hR.ones hr off (len * z'), fun q => ⟨_, hA2 (by omega), k4⟩⟩
        · cases h
      · cases h
    · cases h
  · cases h
theorem news_out2 {e t' : TypeId} {z : Nat} {y : V} {u : Value} {news : List V} (hz : 0 < z) (hR : Rel E w) (hG : ∀ r ob, G r = some ob → E.H r = some ob) (hy : Vr E w y u) (ht : (P.underlying t' = some (.slice e) ∧ notStr y = true) ∨ (P.underlying t' = some .string ∧ notStr y = false)) (h : newsOf G z y = some news) :
    ∃ us, Arg2 P w e t' z u (news.length / z) us ∧ news.length = news.length / z * z ∧ Vrs E w news us ∧ us.length = news.length / z * z ∧ (∀ x, x ∈ us → x.oneCell' = true) ∧ oks news = true := by
  rcases ht with ⟨ht, hs⟩ | ⟨ht, hs⟩
  · obtain ⟨us, A, cap, rfl, h2, h3, h4, h5, h6, h7⟩ := news_out hz hR hG hy (fun s q => by rw [q] at hs; cases hs) h
    have hd : ∀ w', (∀ a, w'.cell? a = w.cell? a) → (Builtin.firstCells z (news.length / z) (.slice A (news.length / z) cap)).run P w' = .ok us.toArray w' := by
      intro w' hw
      by_cases hN : 0 < news.length / z
      · obtain ⟨b, rfl, hcell⟩ := h7 hN
        exact run_firstCells_some (P := P) w' z _ b _ cap us h4 fun j v hj => by rw [hw]; exact hcell j v hj
      · have hN0 : news.length / z = 0 := Nat.eq_zero_of_not_pos hN
        rw [hN0] at h4 ⊢
        have : us = [] := List.length_eq_zero_iff.1 (by omega)
        subst this
        cases A <;> simp [Builtin.firstCells, loadCells, loadCellsFrom]
    exact ⟨us, ⟨.inl ht, fun w => by simp [Builtin.lenOf], hd w fun _ => rfl, hd w.drew fun _ => rfl⟩, h2, h3, h4, h5, h6⟩
  · unfold notStr at hs
    split at hs
    case h_2 => cases hs
    rename_i s
    have hu := hy.lit_inv
    subst hu
    simp only [newsOf] at h
    split at h
    case isFalse => cases h
    rename_i hz1
    subst hz1
    cases h
    have hl : (s.data.toList.map fun b => V.lit (.int .u8 b.toNat)).length / 1 = s.size := by simp
    rw [hl]
    refine ⟨Lib.strCells s, ⟨.inr ht, fun w => by simp [Builtin.lenOf], Lib.run_firstCells_string w 1 s, Lib.run_firstCells_string w.drew 1 s⟩, by simp, ?_, by rw [Lib.strCells_length, Nat.mul_one], Lib.strCells_oneCell s, ?_⟩
    · have := Vrs.lits (E := E) (w := w) (Lib.strCells s)
      unfold Lib.strCells at this ⊢
      rw [List.map_map] at this
      exact this
    · refine List.all_eq_true.2 fun c hc => ?_
      obtain ⟨b, _, rfl⟩ := List.mem_map.1 hc
      rfl
theorem grownCap_le {w : World} {need old : Nat} {e : TypeId} (h : need ≤ 1000000000) : need ≤ grownCap w need old e ∧ grownCap w need old e ≤ maxLen := by
  have h1 : grownCap w need old e = need + (w.tape w.drawn (.appendCap need old e)) % (2 ^ 63 - need) := rfl
  have h2 : (w.tape w.drawn (.appendCap need old e)) % (2 ^ 63 - need) < 2 ^ 63 - need := Nat.mod_lt _ (by omega)
  have h3 : maxLen = 9223372036854775807 := rfl
  constructor <;> omega
theorem app_out {c : Call} {t t' e : TypeId} {i : TypeInfo} {x y : Operand} {v : V} {ups : List (Nat × Option Ob)} {nx' : Nat} (hR : Rel E w) (hnx : ¬ E.U nx) (hG : ∀ r ob, G r = some ob → E.H r = some ob) (ho : o.op = .call c) (hc : c.callee = .builtin .append) (hargs : c.args.toList = [x, y]) (hts : c.argTypes.toList = [t, t'])
    (ht : P.underlying t = some (.slice e)) (hi : P.info? e = some i) (hx : Vr E w (opV T x) (a.eval x)) (hy : Vr E w (opV T y) (a.eval y)) (hs : (P.underlying t' = some (.slice e) ∧ notStr (opV T y) = true) ∨ (P.underlying t' = some .string ∧ notStr (opV T y) = false)) (hzz : ∃ zv, i.zero = some zv ∧ zv.cells.size = i.size) (he : appE G nx e i.size i.bytes (opV T x) (opV T y) = some (.val v ups nx')) : Out P E w (execOp a.eval o) v ups nx nx' := by
  have hrun := run_builtinH (P := P) (a := a) (w := w) ho hc
  have ha2 : c.args = #[x, y] := by apply Array.ext'; exact hargs
  have ht2 : c.argTypes = #[t, t'] := by apply Array.ext'; exact hts
  rw [ha2, ht2] at hrun
  obtain ⟨zv, hzv, hzs⟩ := hzz
  unfold appE at he
  split at he
  · cases he
  rename_i hz0
  have hz : 0 < i.size := by omega
  split at he
  · cases he
  rename_i news hn
  obtain ⟨us, hA2, hnl, hus, husl, hus1, hnone⟩ := news_out2 (P := P) (e := e) hz hR hG hy hs hn
  have hul : us.length = news.length := hus.len.symm
  have done : ∀ {u : Value} {w' : World}, (Builtin.append_ #[t, t'] o.type #[a.eval x, a.eval y]).run P w = .ok u w' → (execOp a.eval o).run P w = .ok (.value u) w' := by
    intro u w' hr
    rw [hrun]
    simp only [List.map_toArray, List.map_cons, List.map_nil, builtin, Sem.run_bind, hr]
    rfl
  dsimp only at he
  generalize news.length / i.size = N at *
  split at he
  · rename_i hxv
    have hxe : a.eval x = .slice none 0 0 := by rw [hxv] at hx; exact hx.lit_inv
    split at he
    · rename_i hn0
      cases he
      rw [hn0] at hA2 husl
      have hu0 : us = [] := List.length_eq_zero_iff.1 (by omega)
      subst hu0
      exact Out.pure hR (done (by rw [hxe]; exact run_append_zeroG ht hi (Nat.le_refl 0) hA2)) (by rw [hxv]; exact .lit _)
    · rename_i hn0
      split at he
      · rename_i hb
        cases he
        rw [Bool.and_eq_true, decide_eq_true_eq, decide_eq_true_eq] at hb
        obtain ⟨hb, hok⟩ := hb
        have hra := run_append_nilG (ty := o.type) ht hi hzv hA2 (by omega) (by omega) (by rw [Nat.mul_comm]; omega)
        have hcap := grownCap_le (w := w) (old := 0) (e := e) (need := N) (by omega)
        obtain ⟨hR2, hS2⟩ := hR.drew
        refine Out.made2 (ups0 := []) hR2 hS2 rfl rfl hnx (done (by rw [hxe]; exact hra)) ((grown_ob (b := 1) (by omega) hus hnone).step hS2) (sl_new hz hcap.1 hcap.2 ?_)
        simp [zeroCells_size, husl, hzs]
        rw [← Nat.add_mul]
        congr 1
        omega
      · cases he
  · rename_i r off z' len hxv
    rw [hxv] at hx
    split at he
    · rename_i hzz
      subst hzz
      split at he
      · rename_i tb cs hg
        have hr := hG r _ hg
        obtain ⟨B, cap, hxe, hU, h0, hlc, hm, hlv⟩ := hx.sl_inv
        obtain ⟨⟨ad, hB, hbk⟩, hB2, vs, ty, fr, hb1, hb2⟩ := hlv (by rw [hr]; rfl)
        split at he
        · rename_i hn0
          cases he
          rw [hn0] at hA2 husl
          have hu0 : us = [] := List.length_eq_zero_iff.1 (by omega)
          subst hu0
          rw [hxv]
          exact Out.pure hR (u := a.eval x) (done (by rw [hxe]; exact run_append_zeroG ht hi hlc hA2)) hx
        · rename_i hn0
          have hnp : 0 < news.length := by
            rw [hnl]; exact Nat.mul_pos (by omega) hz
          split at he
          · rename_i hle
            obtain ⟨vs', ty', fr', k1, k2, k3, k4, k42⟩ : ∃ vs' ty' fr', w.heap[(E.μ r).1]? = some (.cells vs' ty' fr') ∧ (E.μ r).2 + cs.length ≤ vs'.size ∧ Unf fr' vs'.size ∧ ty' = tb.1 ∧ (tb.2 < 2 → fr' = (0, 0)) := by
              obtain ⟨ob, g1, g2⟩ := hR.obj r _ hr
              cases ob <;> try exact g2.elim
              obtain ⟨hfr, h4, h5⟩ := g2
              exact ⟨_, _, _, g1, h4.1, hfr, h4.2.2.1, h4.2.2.2.1⟩
            rw [hb1] at k1
            cases k1
            subst k4
            split at he
            · rename_i hle2
              cases he
              have hcapn : len + N ≤ cap := by
                have h9 : (len + N) * i.size ≤ cap * i.size := by omega
                exact Nat.le_of_mul_le_mul_right h9 hz
              have hB3 := hB2 (by omega)
              subst hB3
              have hfit : off + len * i.size + news.length ≤ cs.length := by
                rw [Nat.add_mul, ← hnl] at hle2; omega
              obtain ⟨vs2, fr2, q1, _, q2, q3, q4, q5⟩ := hR.store hr (off := off + len * i.size) hfit hus hnone
              rw [hb1] at q1
              cases q1
              have hra := run_append_roomG (ty := o.type) ht hi hb1 k3 (b := (E.μ r).2 + off) (sLen := len) (sCap := cap) hA2 hus1 hcapn (by omega)
              rw [show (E.μ r).2 + off + len * i.size = (E.μ r).2 + (off + len * i.size) by omega] at hra
              refine ⟨_, _, _, .inl (done (by rw [hxe]; exact hra)), ?_, q4, q5, rfl, fun q => ⟨.inl, fun q' => q'.elim id fun q' => by omega⟩⟩
              obtain ⟨B', cap', e1, e2, e3, e4, e5, e6⟩ := (hx.step q5).sl_inv
              rw [hxe] at e1
              cases e1
              exact .sl _ _ _ _ _ _ e2 e3 hcapn e5 e6
            · rename_i hle2
              split at he
              · rename_i hbd
                cases he
                rw [Bool.and_eq_true, decide_eq_true_eq, decide_eq_true_eq] at hbd
                obtain ⟨hbd1, hbd2, hbd3, rfl⟩ := hbd
                have hbd2 : _ ∧ _ := ⟨hbd2, hbd3⟩
                have hUr := hR.used r _ hr
                by_cases hcapn : len + N ≤ cap
                · -- in its place
                  have hB3 := hB2 (by omega)
                  subst hB3
                  have hsz : (E.μ r).2 + off + len * i.size + news.length ≤ vs.size := by
                    have h9 : (len + N) * i.size ≤ cap * i.size := Nat.mul_le_mul_right _ hcapn
                    rw [Nat.add_mul, ← hnl] at h9
                    omega
                  have hra := run_append_roomG (ty := o.type) ht hi hb1 k3 (b := (E.μ r).2 + off) (sLen := len) (sCap := cap) hA2 hus1 hcapn (by omega)
                  obtain ⟨ob, g1, g2⟩ := hR.obj r _ hr
                  rw [hb1] at g1
                  cases g1
                  obtain ⟨_, h4, h5⟩ := g2
                  have hrd : ∀ (j : Nat) (c : V), ((cs.drop off).take (len * i.size))[j]? = some c → c.one = true ∧ ∃ u, vs[(E.μ r).2 + off + j]? = some u ∧ Vr E w c u := by
                    intro j c hc
                    rw [List.getElem?_take] at hc
                    split at hc
                    · rw [List.getElem?_drop] at hc
                      obtain ⟨a1, u, a2, a3⟩ := h5 _ c hc
                      exact ⟨a1, u, by rw [← a2]; congr 1; omega, a3⟩
                    · cases hc
                  have hob1 : ObR E w ((E.μ r).2 + off) (.cells (tb.1, max 1 tb.2) []) (.cells vs tb.1 fr) := ⟨k3, ⟨by simp; omega, by simp, rfl, fun q => k42 (show tb.2 < 2 by have q : max 1 tb.2 < 2 := q; omega), fun q => absurd q (show max 1 tb.2 ≠ 0 by omega)⟩, fun j c hc => by simp at hc⟩
                  obtain ⟨t1, t2⟩ := hR.take hr hnx hb1 hob1
                  have hHn : ((E.kill r).new nx (E.μ r).1 ((E.μ r).2 + off) (.cells (tb.1, max 1 tb.2) [])).H nx = some (.cells (tb.1, max 1 tb.2) []) := upd_same _ _ _
                  have hμn : ((E.kill r).new nx (E.μ r).1 ((E.μ r).2 + off) (.cells (tb.1, max 1 tb.2) [])).μ nx = ((E.μ r).1, (E.μ r).2 + off) := upd_same _ _ _
                  generalize hE1 : (E.kill r).new nx (E.μ r).1 ((E.μ r).2 + off) (.cells (tb.1, max 1 tb.2) []) = E1 at t1 t2 hHn hμn
                  have hU1 : ∀ q, E1.U q ↔ E.U q ∨ q = nx := fun q => by rw [← hE1]; exact Iff.rfl
                  have hH1 : E1.H = upd (upd E.H r none) nx (some (.cells (tb.1, max 1 tb.2) [])) := by rw [← hE1]; rfl
                  obtain ⟨vs', hvs⟩ : ∃ vs', (vs.toList.take ((E.μ r).2 + off + len * i.size) ++ us ++ vs.toList.drop ((E.μ r).2 + off + len * i.size + us.length)).toArray = vs' := ⟨_, rfl⟩
                  rw [hvs] at hra
                  have hlt : (vs.toList.take ((E.μ r).2 + off + len * i.size)).length = (E.μ r).2 + off + len * i.size := by rw [List.length_take, Array.length_toList]; omega
                  have hvsz : vs'.size = vs.size := by rw [← hvs]; simp; omega
                  have hgs : (w.setRow (E.μ r).1 vs').heap[(E1.μ nx).1]? = some (.cells vs' tb.1 fr) := by rw [hμn]; simp only [World.setRow, Array.getElem?_modify, if_true, hb1, Option.map_some]
                  have hob2 : ObR E1 w ((E1.μ nx).2) (.cells (tb.1, max 1 tb.2) ((cs.drop off).take (len * i.size) ++ news)) (.cells vs' tb.1 fr) := by
                    refine ⟨by rw [hvsz]; exact k3, ⟨by rw [hμn]; simp; omega, fun e => ?_, rfl, fun q => k42 (show tb.2 < 2 by have q : max 1 tb.2 < 2 := q; omega), fun q => absurd q (show max 1 tb.2 ≠ 0 by omega)⟩, fun j c hc => ?_⟩
                    · exfalso
                      refine hbd2.2 ?_
                      rw [Nat.add_mul, ← hnl, ← e]
                      simp; omega
                    have hl1 : ((cs.drop off).take (len * i.size)).length = len * i.size := by simp; omega
                    show c.one = true ∧ ∃ u, vs'[(E1.μ nx).2 + j]? = some u ∧ _
                    rw [hμn]
                    by_cases hj : j < len * i.size
                    · rw [List.getElem?_append_left (by omega)] at hc
                      obtain ⟨a1, u, a2, a3⟩ := hrd j c hc
                      refine ⟨a1, u, ?_, a3.step t2⟩
                      rw [← hvs, List.getElem?_toArray, List.append_assoc, List.getElem?_append_left (by omega), List.getElem?_take, if_pos (by omega), Array.getElem?_toList]
                      exact a2
                    · rw [List.getElem?_append_right (by omega), hl1] at hc
                      obtain ⟨u, a2, a3⟩ := hus.get hc
                      refine ⟨List.all_eq_true.1 hnone _ (List.mem_of_getElem? hc), u, ?_, a3.step t2⟩
                      have := (List.getElem?_eq_some_iff.1 a2).1
                      rw [← hvs, List.getElem?_toArray, List.append_assoc, List.getElem?_append_right (by omega), hlt, List.getElem?_append_left (by omega), show (E.μ r).2 + off + j - ((E.μ r).2 + off + len * i.size) = j - len * i.size by omega]
                      exact a2
                  obtain ⟨r1, r2⟩ := t1.write hHn (o := .cells vs tb.1 fr) (o' := .cells vs' tb.1 fr) (w' := w.setRow (E.μ r).1 vs') (ob' := .cells (tb.1, max 1 tb.2) ((cs.drop off).take (len * i.size) ++ news)) (by rw [hμn]; exact hb1) (by rw [hμn]; exact ⟨rfl, rfl, rfl, by simp [World.setRow], fun k hk => by simp [World.setRow, Array.getElem?_modify, Ne.symm hk]⟩) hgs (fun _ _ _ e => by cases e; exact ⟨_, _, _, rfl, hvsz⟩) hob2
                  refine ⟨_, _, _, .inl (done (by rw [hxe]; exact hra)), ?_, r1, t2.trans r2, ?_, fun q => ?_⟩
                  · refine .sl _ _ _ _ _ _ ((hU1 nx).2 (.inr rfl)) hz hcapn hm fun _ => ?_
                    show (∃ ad : Addr, some (⟨(E.μ r).1, (E.μ r).2 + off, none⟩ : Addr) = some ad ∧ ad.block = (E1.μ nx).1) ∧ (0 < cap → some (⟨(E.μ r).1, (E.μ r).2 + off, none⟩ : Addr) = some ⟨(E1.μ nx).1, (E1.μ nx).2 + 0, none⟩) ∧ ∃ vs ty fr, (w.setRow (E.μ r).1 vs').heap[(E1.μ nx).1]? = some (.cells vs ty fr) ∧ (E1.μ nx).2 + 0 + cap * i.size = vs.size
                    refine ⟨?_, ?_, vs', tb.1, fr, hgs, ?_⟩
                    · rw [hμn]; exact ⟨_, rfl, rfl⟩
                    · rw [hμn]; intro _; rfl
                    · rw [hμn]; show (E.μ r).2 + off + 0 + cap * i.size = _; omega
                  · show upd E1.H nx (some _) = upd (upd E.H r none) nx (some _)
                    rw [hH1]
                    funext q
                    by_cases e : q = nx
                    · subst e; rw [upd_same, upd_same]
                    · rw [upd_ne _ _ e, upd_ne _ _ e, upd_ne _ _ e]
                  · show E1.U q ↔ _
                    rw [hU1 q]
                    exact ⟨fun z => z.imp id fun z => by omega, fun z => z.imp id fun z => by omega⟩
                · -- in a new block
                  obtain ⟨os, o1, o2, o3, o4⟩ := hR.reads hr off (len * i.size) hle
                  have hBc : ∃ bb, B = some bb ∧ ∀ j x, os[j]? = some x → w.cell? (bb.add j) = some x := by
                    refine ⟨ad, hB, fun j x hj => ?_⟩
                    have hjl := (List.getElem?_eq_some_iff.1 hj).1
                    have hlp : 0 < len := by
                      rcases Nat.eq_zero_or_pos len with q | q
                      · rw [q, Nat.zero_mul] at o2; omega
                      · exact q
                    have := hB2 (by omega)
                    rw [hB] at this
                    cases this
                    exact o4 j x hj
                  obtain ⟨bb, rfl, hbc⟩ := hBc
                  have hra := run_append_growG (ty := o.type) (n := N) (sLen := len) (sCap := cap) ht hi hzv o2 hbc hA2 (by omega) (by omega) (growslice_fits (by omega) (by rw [Nat.mul_comm]; omega))
                  have hcap := grownCap_le (w := w) (old := cap) (e := tb.1) (need := len + N) hbd2.1
                  obtain ⟨t1, t2⟩ := hR.kill r
                  obtain ⟨hR2, hS2⟩ := t1.drew
                  have hgo := grown_ob (b := max 1 tb.2) (by omega) (E := E) (w := w) (o1.append hus) (by
                    have := hR.ones hr off (len * i.size)
                    unfold oks at this hnone ⊢
                    rw [List.all_append, this, hnone]; rfl) (zs := Builtin.zeroCells zv.cells (grownCap w (len + N) cap tb.1 - (len + N))) (t := tb.1)
                  refine Out.made2 (ups0 := [(r, none)]) hR2 (t2.trans hS2) rfl rfl hnx (done (by rw [hxe]; exact hra)) ?_ (sl_new hz hcap.1 hcap.2 ?_)
                  · have := hgo.step (t2.trans hS2)
                    simpa using this
                  · simp [zeroCells_size, husl, o2, hzs]
                    rw [← Nat.add_mul, ← Nat.add_mul]
                    congr 1
                    omega
              · cases he
          · cases he
      · cases he
    · cases he
  · cases he
theorem appZ_out {c : Call} {x y : Operand} {t t' e : TypeId} {i : TypeInfo} {f : Eff} (hR : Rel E w) (hnx : ¬ E.U nx) (ho : o.op = .call c) (hc : c.callee = .builtin .append) (hargs : c.args.toList = [x, y]) (hts : c.argTypes.toList = [t, t'])
    (ht : P.underlying t = some (.slice e)) (hi : P.info? e = some i) (hx : Vr E w (opV T x) (a.eval x)) (hy : Vr E w (opV T y) (a.eval y)) (he : appZ P nx e i t' (opV T x) (opV T y) = some f) : ∃ v ups nx', f = .val v ups nx' ∧ Out P E w (execOp a.eval o) v ups nx nx' := by
  have hrun := run_builtinH (P := P) (a := a) (w := w) ho hc
  have ha2 : c.args = #[x, y] := by apply Array.ext'; exact hargs
  have ht2 : c.argTypes = #[t, t'] := by apply Array.ext'; exact hts
  rw [ha2, ht2] at hrun
  unfold appZ at he
  split at he
  case h_2 => cases he
  rename_i kn kk n zs htn hxv hyv hzs
  split at he
  case isFalse => cases he
  rename_i hcc
  cases he
  obtain ⟨⟨h1, h2⟩, ⟨h3, h4⟩, h5, h6⟩ := hcc
  rw [hxv] at hx
  rw [hyv] at hy
  have hxe := hx.lit_inv
  have hye := hy.lit_inv
  obtain ⟨i', z, hi', hz, rfl⟩ := zeroV_some hzs
  rw [hi] at hi'
  cases hi'
  obtain ⟨m, hm⟩ : ∃ m : Nat, n = m := ⟨n.toNat, by omega⟩
  subst hm
  simp only [Int.toNat_natCast] at h6 ⊢
  have hbig : m * i.bytes ≤ 1000000 * 1000000 := Nat.mul_le_mul (by omega) h4
  have hra := Lib.run_append_nil_zeros (P := P) w t t' o.type e i z kk kn ht htn hi hz m (by omega) h3 (by omega) (by omega)
  have hcap := grownCap_le (w := w) (old := 0) (e := e) (need := m) (by omega)
  obtain ⟨hR2, hS2⟩ := hR.drew
  refine ⟨_, _, _, rfl, Out.made2 (ups0 := []) hR2 hS2 rfl rfl hnx (o := .cells (Builtin.zeroCells z.cells m ++ Builtin.zeroCells z.cells (grownCap w m 0 e - m)) e) (u := .slice (some ⟨w.heap.size, 0, none⟩) m (grownCap w m 0 e)) ?_ ?_ (sl_new h3 hcap.1 hcap.2 ?_)⟩
  · rw [hrun]
    simp only [List.map_toArray, List.map_cons, List.map_nil, builtin, Sem.run_bind, hxe, hye, hra]
    rfl
  · have := grown_ob (b := 1) (by omega) (E := E) (w := w.drew) (zs := Builtin.zeroCells z.cells (grownCap w m 0 e - m)) (t := e) (Vrs.lits (Builtin.zeroCells z.cells m).toList) h6
    simpa using this
  · simp [zeroCells_size, h5]
    rw [← Nat.add_mul]
    congr 1
    omega
end
end Hm
end Go.Proofs.YtcccaomnehdlbaaDoor
