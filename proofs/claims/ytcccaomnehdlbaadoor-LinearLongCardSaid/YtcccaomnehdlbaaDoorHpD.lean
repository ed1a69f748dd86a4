/-
  A machine with a heap, fourth part: operations are sound.
-/
import Derived.Test.YtcccaomnehdlbaaDoorHpC
import Derived.WalkSpells
import Derived.Laws.Append
import Derived.Laws.MakeOwn
import Derived.Great.BuildSlice
import Derived.Maps.AppendAt
namespace Go.Proofs.YtcccaomnehdlbaaDoor
open Go.RowKit
set_option linter.unusedVariables false
set_option linter.unusedSimpArgs false
namespace Hm

theorem opds_congr {P : Program} {E : Mx} {w : World} {T : Nat → V} {a : Act} {o : Oper} (h : ∀ x : Operand, Vr E w (opV T x) (a.eval x)) (hs : notSel o.op = true) (hv : ∀ x, x ∈ o.op.operands.toList → ((opV T x).val?).isSome = true) :
    execOp (fun x => ((opV T x).val?).getD undef) o = execOp a.eval o := by
  refine execOp_congr o (fun cs b e => by rw [e] at hs; cases hs) fun x hx => ?_
  obtain ⟨v, e⟩ := Option.isSome_iff_exists.1 (hv x (by simpa using hx))
  rw [e]
  exact ((h x).val e).symm
theorem flatV_sound {P : Program} {E : Mx} {w : World} {T : Nat → V} {a : Act} {o : Oper} (h : ∀ x : Operand, Vr E w (opV T x) (a.eval x)) {v : V} (e : flatV P T o = some v) : ∃ u, v = .lit u ∧ (execOp a.eval o).run P w = .ok (.value u) w := by
  unfold flatV at e
  split at e
  · rename_i hc
    rw [Bool.and_eq_true, List.all_eq_true] at hc
    rw [opds_congr (P := P) h hc.1 hc.2] at e
    rw [Option.map_eq_some_iff] at e
    obtain ⟨u, hu, rfl⟩ := e
    exact ⟨u, rfl, flat_run hu⟩
  · cases e

/-- objects that have turned -/
def upsH : List (Nat × Option Ob) → (Nat → Option Ob) → Nat → Option Ob
  | [], H => H
  | p :: l, H => upsH l (upd H p.1 p.2)

/-- what an operation of the model comes to, beside the machine's -/
def Out (P : Program) (E : Mx) (w : World) (s : Sem Next) (v : V) (ups : List (Nat × Option Ob)) (nx nx' : Nat) : Prop :=
  ∃ u w' E', (s.run P w = .ok (.value u) w' ∨ (s.run P w = .ok .skip w' ∧ u = undef)) ∧ Vr E' w' v u ∧ Rel E' w' ∧ Step E w E' w' ∧ E'.H = upsH ups E.H ∧ (∀ r, E'.U r ↔ E.U r ∨ (nx ≤ r ∧ r < nx'))

section
variable {P : Program} {E : Mx} {w : World}
theorem Out.pure {s : Sem Next} {v : V} {u : Value} {nx : Nat} (hR : Rel E w) (h : s.run P w = .ok (.value u) w) (hv : Vr E w v u) : Out P E w s v [] nx nx :=
  ⟨u, w, E, .inl h, hv, hR, Step.refl _ _, rfl, fun r => ⟨.inl, fun q => q.elim id fun q => by omega⟩⟩
theorem Out.made {s : Sem Next} {v : V} {u : Value} {nx : Nat} (hR : Rel E w) (hnx : ¬ E.U nx) {ob : Ob} {o : Obj} (h : s.run P w = .ok (.value u) (w.alloc o)) (ho : ObR E w 0 ob o) (hv : Vr (E.new nx w.heap.size 0 ob) (w.alloc o) v u) : Out P E w s v [(nx, some ob)] nx (nx + 1) := by
  obtain ⟨h1, h2⟩ := hR.new hnx ho
  refine ⟨u, _, _, .inl h, hv, h1, h2, rfl, fun r => ⟨fun q => q.imp id fun q => by omega, fun q => q.imp id fun q => by omega⟩⟩
theorem ObR.lits {E : Mx} {w : World} {vs : Array Value} {t : TypeId} {k b : Nat} (hb : b = 0) (h : oks (vs.toList.map .lit) = true) : ObR E w b (.cells (t, k) (vs.toList.map .lit)) (.cells vs t (0, 0)) := by
  subst hb
  refine ⟨.inl rfl, by simp, fun j c hc => ?_⟩
  have h1 := List.all_eq_true.1 h c (List.mem_of_getElem? hc)
  rw [List.getElem?_map, Option.map_eq_some_iff] at hc
  obtain ⟨u, hu, rfl⟩ := hc
  exact ⟨h1, u, by rw [Nat.zero_add, ← Array.getElem?_toList]; exact hu, .lit u⟩
theorem ObR.vrs {E : Mx} {w : World} {cs : List V} {us : List Value} {t : TypeId} {k : Nat} (h : Vrs E w cs us) (h1 : oks cs = true) : ObR E w 0 (.cells (t, k) cs) (.cells us.toArray t (0, 0)) := by
  refine ⟨.inl rfl, by simp [h.len], fun j c hc => ⟨List.all_eq_true.1 h1 c (List.mem_of_getElem? hc), ?_⟩⟩
  obtain ⟨u, hu, hv⟩ := h.get hc
  exact ⟨u, by rw [Nat.zero_add, List.getElem?_toArray]; exact hu, hv⟩

theorem zeroC_some {t : TypeId} {cs : List V} (h : zeroC P t = some cs) : ∃ i z, P.info? t = some i ∧ i.zero = some z ∧ cs = z.cells.toList.map .lit := by
  unfold zeroC at h
  rw [Option.map_eq_some_iff] at h
  obtain ⟨z, hz, rfl⟩ := h
  rw [Option.bind_eq_some_iff] at hz
  obtain ⟨i, hi, hz⟩ := hz
  exact ⟨i, z, hi, hz, rfl⟩
theorem sizeT_some {t : TypeId} {n : Nat} (h : sizeT P t = some n) : ∃ i, P.info? t = some i ∧ i.size = n := by
  unfold sizeT at h
  rw [Option.map_eq_some_iff] at h
  exact h
theorem aggT_run {t : TypeId} {b : Bool} (h : aggT P t = some b) (w : World) : (isAgg t).run P w = .ok b w := by
  unfold aggT at h
  rw [Option.map_eq_some_iff] at h
  obtain ⟨d, hd, rfl⟩ := h
  unfold isAgg
  rw [Sem.run_bind, run_underlying hd]
  cases d <;> rfl
theorem intV_some {v : V} {n : Int} {u : Value} (h : intV v = some n) (hv : Vr E w v u) : ∃ k, u = .int k n := by
  unfold intV at h
  split at h
  · cases h
    exact ⟨_, hv.lit_inv⟩
  · cases h

theorem addr_add (g o j : Nat) : (⟨g, o, none⟩ : Addr).add j = ⟨g, o + j, none⟩ := by
  unfold Addr.add
  split
  · rename_i e; rw [e]; rfl
  · rfl
/-- a place in an object's cells -/
theorem Rel.cell (h : Rel E w) {r : Nat} {tb : TypeId × Nat} {cs : List V} (hr : E.H r = some (.cells tb cs)) {j : Nat} {c : V} (hc : cs[j]? = some c) : ∃ u, w.cell? ⟨(E.μ r).1, (E.μ r).2 + j, none⟩ = some u ∧ Vr E w c u := by
  obtain ⟨o, h1, h2⟩ := h.obj r _ hr
  cases o <;> try exact h2.elim
  obtain ⟨h3, h4, h5⟩ := h2
  obtain ⟨_, u, h6, h7⟩ := h5 j c hc
  exact ⟨u, by simp [World.cell?, h1, h6], h7⟩
/-- the cells of an object read -/
theorem Rel.reads (h : Rel E w) {r : Nat} {tb : TypeId × Nat} {cs : List V} (hr : E.H r = some (.cells tb cs)) (o z : Nat) (hz : o + z ≤ cs.length) :
    ∃ us : List Value, Vrs E w ((cs.drop o).take z) us ∧ us.length = z ∧ (∀ u, u ∈ us → u.oneCell' = true) ∧ ∀ j u, us[j]? = some u → w.cell? ((⟨(E.μ r).1, (E.μ r).2 + o, none⟩ : Addr).add j) = some u := by
  obtain ⟨ob, h1, h2⟩ := h.obj r _ hr
  cases ob <;> try exact h2.elim
  rename_i vs ty fr
  obtain ⟨h3, h4, h5⟩ := h2
  refine ⟨((vs.toList.drop ((E.μ r).2 + o)).take z), ⟨by simp; omega, fun j c u hc hu => ?_⟩, by simp; omega, fun u hu => ?_, fun j u hu => ?_⟩
  · rw [List.getElem?_take] at hc hu
    split at hc
    · rename_i hj
      rw [if_pos hj] at hu
      rw [List.getElem?_drop] at hc hu
      obtain ⟨_, u', h6, h7⟩ := h5 _ c hc
      rw [Array.getElem?_toList, show (E.μ r).2 + o + j = (E.μ r).2 + (o + j) by omega, h6] at hu
      cases hu
      exact h7
    · cases hc
  · obtain ⟨j, hj⟩ := List.mem_iff_getElem?.1 hu
    rw [List.getElem?_take] at hj
    split at hj
    · rename_i hjz
      rw [List.getElem?_drop, Array.getElem?_toList] at hj
      have hlt : o + j < cs.length := by omega
      obtain ⟨h6, u', h7, h8⟩ := h5 (o + j) cs[o + j] (List.getElem?_eq_getElem hlt)
      rw [show (E.μ r).2 + o + j = (E.μ r).2 + (o + j) by omega, h7] at hj
      cases hj
      exact h8.oneCell h6
    · cases hj
  · rw [List.getElem?_take] at hu
    split at hu
    · rw [List.getElem?_drop, Array.getElem?_toList] at hu
      rw [addr_add]
      simp [World.cell?, h1, hu]
    · cases hu
theorem Vr.ptr_inv {r o : Nat} {u : Value} (h : Vr E w (.ptr r o) u) : ∃ a, u = .pointer (some a) ∧ E.U r ∧ ((E.H r).isSome → a = ⟨(E.μ r).1, (E.μ r).2 + o, none⟩) := by
  cases h with
  | ptr _ _ a hr h => exact ⟨a, rfl, hr, h⟩
theorem Vr.ptr_live {r o : Nat} {u : Value} (h : Vr E w (.ptr r o) u) {ob : Ob} (hr : E.H r = some ob) : u = .pointer (some ⟨(E.μ r).1, (E.μ r).2 + o, none⟩) := by
  obtain ⟨a, rfl, _, h2⟩ := h.ptr_inv
  rw [h2 (by rw [hr]; rfl)]
theorem Vr.mp_live {r : Nat} {u : Value} (h : Vr E w (.mp r) u) {ob : Ob} (hr : E.H r = some ob) : u = .map (some (E.μ r).1) := by
  cases h with
  | mp _ g hr' h => rw [h (by rw [hr]; rfl)]

/-! ### Loads, stores -/
theorem load_out {t : TypeId} {r off z : Nat} {agg : Bool} {tb : TypeId × Nat} {cs : List V} {v : V} {u : Value} (hR : Rel E w) (hu : Vr E w (.ptr r off) u) (ha : aggT P t = some agg) (hz : sizeT P t = some z) (hr : E.H r = some (.cells tb cs)) (hv : getC agg z off cs = some v) :
    ∃ x, (Instr.loadAt t u).run P w = .ok x w ∧ Vr E w v x := by
  have hp := hu.ptr_live hr
  subst hp
  obtain ⟨i, hi, rfl⟩ := sizeT_some hz
  have hagg := aggT_run (P := P) ha w
  unfold getC at hv
  cases agg with
  | true =>
    simp only [if_true] at hv
    split at hv
    · rename_i hle
      cases hv
      obtain ⟨us, h1, h2, _, h3⟩ := hR.reads hr off i.size hle
      have hl := run_loadCells_list (P := P) w ⟨(E.μ r).1, (E.μ r).2 + off, none⟩ us h3
      rw [h2] at hl
      exact ⟨_, by simp [Instr.loadAt, Instr.sureAddr, loadVar, hagg, sizeOf, typeInfo, hi, hl], h1.agg⟩
    · cases hv
  | false =>
    simp only [Bool.false_eq_true, if_false] at hv
    obtain ⟨x, h1, h2⟩ := hR.cell hr hv
    exact ⟨x, by simp [Instr.loadAt, Instr.sureAddr, loadVar, hagg, h1], h2⟩

theorem Unf.no {w : World} {g o n : Nat} {cur : Array Value} {t : TypeId} {fr : Nat × Nat} (hg : w.heap[g]? = some (.cells cur t fr)) (hf : Unf fr n) (ho : o < n) : w.frozen? ⟨g, o, none⟩ = false := by
  rcases hf with rfl | rfl
  · simp [World.frozen?, hg]
  · simp only [World.frozen?, hg, Bool.and_eq_false_iff, decide_eq_false_iff_not]
    left
    omega
theorem run_storeCells_atU (P : Program) (g o : Nat) (t : TypeId) (fz : Nat × Nat) (n : Nat) (hfz : Unf fz n) : ∀ (vs : List Value) (i : Nat) (cur : Array Value) (w : World), cur.size = n → w.heap[g]? = some (.cells cur t fz) → o + i + vs.length ≤ cur.size → (∀ v ∈ vs, v.oneCell' = true) →
    (storeCells ⟨g, o, none⟩ vs i).run P w = .ok () (w.setRow g (cur.toList.take (o + i) ++ vs ++ cur.toList.drop (o + i + vs.length)).toArray)
  | [], i, cur, w, hn, hg, _, _ => by
    simp only [storeCells, List.append_nil, List.length_nil, Nat.add_zero, List.take_append_drop, Array.toArray_toList]
    rw [setRow_self w g cur t fz hg]
    rfl
  | v :: rest, i, cur, w, hn, hg, hl, h1 => by
    have hi : o + i < cur.size := by simp at hl; omega
    have hadd : (⟨g, o, none⟩ : Addr).add i = ⟨g, o + i, none⟩ := by unfold Addr.add; split <;> simp_all
    have hcell : w.cell? ⟨g, o + i, none⟩ = some cur[o + i] := by simp [World.cell?, hg, hi]
    have hfro : w.frozen? ⟨g, o + i, none⟩ = false := Unf.no hg hfz (by omega)
    have hst : (store ((⟨g, o, none⟩ : Addr).add i) v).run P w = .ok () (w.setRow g (cur.setIfInBounds (o + i) v)) := by
      rw [hadd, run_store P w _ v _ (h1 v (by simp)), hcell]
      simp [hfro, setCell_eq_setRow w g (o + i) cur t fz v hg]
    have ih := run_storeCells_atU P g o t fz n hfz rest (i + 1) (cur.setIfInBounds (o + i) v) (w.setRow g (cur.setIfInBounds (o + i) v)) (by simp [hn]) (setRow_heap w g cur _ t _ hg) (by simp at hl ⊢; omega) (fun x hx => h1 x (by simp [hx]))
    simp only [storeCells, Sem.run_bind, hst, Result.andThen_ok, ih, setRow_setRow]
    congr 3
    have e := list_seg_step cur.toList (o + i) v rest (by simp at hl ⊢; omega)
    simpa [Array.toList_setIfInBounds, Nat.add_assoc] using e
/-- cells of an object are written -/
theorem Rel.store (hR : Rel E w) {r : Nat} {tb : TypeId × Nat} {cs new : List V} {us : List Value} (hr : E.H r = some (.cells tb cs)) {off : Nat} (hle : off + new.length ≤ cs.length) (hn : Vrs E w new us) (h1 : oks new = true) :
    ∃ vs fr, w.heap[(E.μ r).1]? = some (.cells vs tb.1 fr) ∧ Unf fr vs.size ∧ (E.μ r).2 + cs.length ≤ vs.size ∧ (∀ u, u ∈ us → u.oneCell' = true) ∧
      Rel { E with H := upd E.H r (some (.cells tb (setC off new cs))) } (w.setRow (E.μ r).1 (vs.toList.take ((E.μ r).2 + off) ++ us ++ vs.toList.drop ((E.μ r).2 + off + us.length)).toArray) ∧
      Step E w { E with H := upd E.H r (some (.cells tb (setC off new cs))) } (w.setRow (E.μ r).1 (vs.toList.take ((E.μ r).2 + off) ++ us ++ vs.toList.drop ((E.μ r).2 + off + us.length)).toArray) := by
  obtain ⟨ob, g1, g2⟩ := hR.obj r _ hr
  cases ob <;> try exact g2.elim
  rename_i vs ty fr
  obtain ⟨hfr, ⟨h4, h41, rfl, h42, h43⟩, h5⟩ := g2
  have hul : us.length = new.length := hn.len.symm
  refine ⟨vs, fr, g1, hfr, h4, fun u hu => ?_, ?_⟩
  · obtain ⟨j, hj⟩ := List.mem_iff_getElem?.1 hu
    have hjl := (List.getElem?_eq_some_iff.1 hj).1
    have hc : new[j]? = some (new[j]'(by omega)) := List.getElem?_eq_getElem _
    exact (hn.at_ j _ u hc hj).oneCell (List.all_eq_true.1 h1 _ (List.mem_of_getElem? hc))
  obtain ⟨vs', hvs⟩ : ∃ vs', (vs.toList.take ((E.μ r).2 + off) ++ us ++ vs.toList.drop ((E.μ r).2 + off + us.length)).toArray = vs' := ⟨_, rfl⟩
  rw [hvs]
  have hlt : (vs.toList.take ((E.μ r).2 + off)).length = (E.μ r).2 + off := by rw [List.length_take, Array.length_toList]; omega
  have hsz : vs'.size = vs.size := by rw [← hvs]; simp; omega
  have hget : ∀ q, vs'[q]? = if q < (E.μ r).2 + off then vs[q]? else if q < (E.μ r).2 + off + us.length then us[q - ((E.μ r).2 + off)]? else vs[q]? := by
    intro q
    rw [← hvs, List.getElem?_toArray]
    by_cases a1 : q < (E.μ r).2 + off
    · rw [if_pos a1, List.append_assoc, List.getElem?_append_left (by omega), List.getElem?_take, if_pos a1, Array.getElem?_toList]
    · rw [if_neg a1]
      by_cases a2 : q < (E.μ r).2 + off + us.length
      · rw [if_pos a2, List.append_assoc, List.getElem?_append_right (by omega), hlt, List.getElem?_append_left (by omega)]
      · rw [if_neg a2, List.getElem?_append_right (by rw [List.length_append]; omega), List.length_append, hlt, List.getElem?_drop, Array.getElem?_toList]
        congr 1; omega
  have hgs : (w.setRow (E.μ r).1 vs').heap[(E.μ r).1]? = some (.cells vs' tb.1 fr) := by simp only [World.setRow, Array.getElem?_modify, if_true, g1, Option.map_some]
  refine hR.write hr g1 ⟨rfl, rfl, rfl, by simp [World.setRow], fun k hk => by simp [World.setRow, Array.getElem?_modify, Ne.symm hk]⟩ hgs (fun a b c e => by cases e; exact ⟨_, _, _, rfl, hsz⟩) ⟨by rw [hsz]; exact hfr, ⟨?_, ?_, rfl, h42, fun q => ⟨(h43 q).1, ?_⟩⟩, fun j c hc => ?_⟩
  · simp only [setC, List.length_append, List.length_take, List.length_drop]; omega
  · simp only [setC, List.length_append, List.length_take, List.length_drop]; intro q; exact h41 (by omega)
  · have := (h43 q).2
    simp only [setC, List.length_append, List.length_take, List.length_drop]; omega
  · unfold setC at hc
    have hl1 : (cs.take off).length = off := by rw [List.length_take]; omega
    rw [hget]
    by_cases a1 : j < off
    · rw [List.append_assoc, List.getElem?_append_left (by omega), List.getElem?_take, if_pos a1] at hc
      rw [if_pos (by omega)]
      exact h5 j c hc
    · rw [if_neg (by omega)]
      by_cases a2 : j < off + new.length
      · rw [List.append_assoc, List.getElem?_append_right (by omega), hl1, List.getElem?_append_left (by omega)] at hc
        rw [if_pos (by omega), show (E.μ r).2 + j - ((E.μ r).2 + off) = j - off by omega]
        obtain ⟨u, hu, hv⟩ := hn.get hc
        exact ⟨List.all_eq_true.1 h1 _ (List.mem_of_getElem? hc), u, hu, hv⟩
      · rw [List.getElem?_append_right (by rw [List.length_append]; omega), List.length_append, hl1, List.getElem?_drop, show off + new.length + (j - (off + new.length)) = j by omega] at hc
        rw [if_neg (by omega)]
        exact h5 j c hc
end
end Hm
end Go.Proofs.YtcccaomnehdlbaaDoor
