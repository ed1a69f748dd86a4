/-
  A machine with a heap, fifth part: operations are sound.
-/
import Derived.Test.YtcccaomnehdlbaaDoorHpD
namespace Go.Proofs.YtcccaomnehdlbaaDoor
open Go.RowKit
set_option linter.unusedVariables false
set_option linter.unusedSimpArgs false
namespace Hm
section
variable {P : Program} {E : Mx} {w : World} {T : Nat → V} {a : Act} {o : Oper} {nx : Nat} {G : Nat → Option Ob}

theorem alloc_out {t : TypeId} {cs : List V} (hR : Rel E w) (hnx : ¬ E.U nx) (ho : o.op = .alloc t) (hz : zeroC P t = some cs) (h1 : oks cs = true) : Out P E w (execOp a.eval o) (.ptr nx 0) [(nx, some (.cells (t, 0) cs))] nx (nx + 1) := by
  obtain ⟨i, z, hi, hzz, rfl⟩ := zeroC_some hz
  refine Out.made hR hnx (o := .cells z.cells t) (u := .pointer (some ⟨w.heap.size, 0, none⟩)) ?_ (ObR.lits rfl h1) (.ptr _ _ _ (.inr rfl) fun _ => by simp [Mx.new, upd_same])
  simp [execOp, ho, Instr.alloc, zeroValue, typeInfo, hi, hzz, newVar, newRow]
theorem box_out {t : TypeId} {x : Operand} (hR : Rel E w) (hnx : ¬ E.U nx) (ho : o.op = .box t x) (hx : Vr E w (opV T x) (a.eval x)) (h1 : oks (opV T x).cells = true) : Out P E w (execOp a.eval o) (.ptr nx 0) [(nx, some (.cells (t, 0) (opV T x).cells))] nx (nx + 1) := by
  refine Out.made hR hnx (o := .cells (a.eval x).cells t) (u := .pointer (some ⟨w.heap.size, 0, none⟩)) ?_ ?_ (.ptr _ _ _ (.inr rfl) fun _ => by simp [Mx.new, upd_same])
  · simp [execOp, ho, Instr.box, newVar, newRow]
  · have := ObR.vrs (t := t) (k := 0) (hx.cells (oks_known h1)) h1
    simpa using this

/-! ### Parts laid over cells -/
theorem lay_cellsH (off : Nat) : ∀ (l : List Value) (k : Nat) (cs : Array Value), off + k + l.length ≤ cs.size →
    ((l.zipIdx k).foldl (fun cs (p : Value × Nat) => cs.setIfInBounds (off + p.2) p.1) cs).toList = cs.toList.take (off + k) ++ l ++ cs.toList.drop (off + k + l.length)
  | [], k, cs, h => by simp
  | v :: l, k, cs, h => by
    simp only [List.zipIdx_cons, List.foldl_cons]
    rw [lay_cellsH off l (k + 1) _ (by simp at h ⊢; omega), Array.toList_setIfInBounds]
    have hlt : off + k < cs.toList.length := by simp at h ⊢; omega
    have e1 : (cs.toList.set (off + k) v).take (off + (k + 1)) = cs.toList.take (off + k) ++ [v] := by
      rw [List.set_eq_take_append_cons_drop, if_pos hlt, List.take_append]
      have : (cs.toList.take (off + k)).length = off + k := by rw [List.length_take]; omega
      rw [this, List.take_take, Nat.min_eq_right (by omega)]
      rw [show off + (k + 1) - (off + k) = 1 by omega]
      simp
    have e2 : (cs.toList.set (off + k) v).drop (off + (k + 1) + l.length) = cs.toList.drop (off + k + (v :: l).length) := by
      rw [List.drop_set_of_lt (by omega)]
      congr 1
      simp; omega
    rw [e1, e2]
    simp
theorem Vrs.setC {cs new : List V} {us ns : List Value} (h : Vrs E w cs us) (k : Vrs E w new ns) (off : Nat) : Vrs E w (setC off new cs) (us.take off ++ ns ++ us.drop (off + ns.length)) := by
  unfold Hm.setC
  rw [← k.len]
  exact ((h.take off).append k).append (h.drop _)
theorem fill_out {place : Nat → Option (Nat × Nat)} : ∀ (ps : List (Nat × Operand)) {cs : List V} {us : Array Value} {cs' : List V}, (∀ p, p ∈ ps → Vr E w (opV T p.2) (a.eval p.2)) → Vrs E w cs us.toList →
    fillC place cs (ps.map fun p => (p.1, opV T p.2)) = some cs' → ∃ us', Instr.fill place us (ps.map fun p => (p.1, a.eval p.2)) = some us' ∧ Vrs E w cs' us'.toList
  | [], cs, us, cs', _, h, e => by
    simp only [List.map_nil, fillC, Option.some.injEq] at e
    subst e
    exact ⟨us, rfl, h⟩
  | p :: ps, cs, us, cs', hp, h, e => by
    simp only [List.map_cons, fillC] at e
    split at e
    · rename_i off size hpl
      split at e
      · rename_i hc
        rw [Bool.and_eq_true, Bool.and_eq_true, beq_iff_eq, decide_eq_true_eq] at hc
        have hv := (hp p (by simp)).cells hc.1.1
        have hc := And.intro hc.1.2 hc.2
        have hvl : (a.eval p.2).cells.size = size := by have := hv.len; simp at this; omega
        have hul : us.size = cs.length := by have := h.len; simp at this; omega
        have hlay := lay_cellsH off (a.eval p.2).cells.toList 0 us (by simp [hvl]; omega)
        have hfold : ((a.eval p.2).cells.zipIdx.foldl (fun cs (q : Value × Nat) => cs.setIfInBounds (off + q.2) q.1) us) = (((a.eval p.2).cells.toList.zipIdx 0).foldl (fun cs (q : Value × Nat) => cs.setIfInBounds (off + q.2) q.1) us) := by
          rw [← Array.foldl_toList, Array.toList_zipIdx]
        simp only [List.map_cons, Instr.fill, hpl]
        rw [if_neg (by simp [hvl]; omega)]
        show ∃ us', Instr.fill place ((a.eval p.2).cells.zipIdx.foldl (fun cs (q : Value × Nat) => cs.setIfInBounds (off + q.2) q.1) us) _ = some us' ∧ _
        rw [hfold]
        refine fill_out ps (fun q hq => hp q (by simp [hq])) ?_ e
        rw [hlay]
        exact h.setC hv off
      · cases e
    · cases e
theorem mapM_size : ∀ {fs : List Field} {pl : List (Nat × Nat)}, (fs.mapM fun f => (sizeT P f.type).map fun n => (f.offset, n)) = some pl → (fs.mapM fun f => (Prod.mk f.offset <$> sizeOf f.type : Sem (Nat × Nat))).run P w = .ok pl w
  | [], pl, h => by
    simp at h; subst h; rfl
  | f :: fs, pl, h => by
    simp only [List.mapM_cons, Option.bind_eq_bind, Option.pure_def] at h
    cases hx : sizeT P f.type with
    | none => rw [hx] at h; cases h
    | some n =>
      rw [hx] at h
      simp only [Option.map_some, Option.bind_some] at h
      cases hl : (fs.mapM fun f => (sizeT P f.type).map fun n => (f.offset, n)) with
      | none => rw [hl] at h; cases h
      | some ys =>
        rw [hl] at h
        cases h
        obtain ⟨i, hi, rfl⟩ := sizeT_some hx
        have ih := mapM_size hl
        have hs : (sizeOf f.type).run P w = .ok i.size w := by simp [sizeOf, typeInfo, hi]
        simp only [List.mapM_cons, Sem.run_bind, Sem.run_map, hs, Result.andThen, ih]
        rfl
theorem build_out {t : TypeId} {parts : Array (Nat × Operand)} {v : V} (hR : Rel E w) (ho : o.op = .build t parts) (h : ∀ x : Operand, Vr E w (opV T x) (a.eval x)) (e : buildC P T t parts = some v) : Out P E w (execOp a.eval o) v [] nx nx := by
  unfold buildC at e
  have hparts : (parts.map fun (p : Nat × Operand) => (p.1, a.eval p.2)).toList = parts.toList.map fun p => (p.1, a.eval p.2) := by simp
  split at e
  · rename_i zs fs hz hu
    obtain ⟨i, z, hi, hzz, rfl⟩ := zeroC_some hz
    split at e
    · rename_i pl hpl
      rw [Option.map_eq_some_iff] at e
      obtain ⟨cs, hcs, rfl⟩ := e
      obtain ⟨us, h1, h2⟩ := fill_out (a := a) parts.toList (fun p _ => h p.2) (Vrs.lits z.cells.toList) hcs
      have hm := mapM_size (P := P) (w := w) hpl
      have hm' : (fs.mapM fun f => (Prod.mk f.offset <$> sizeOf f.type : Sem (Nat × Nat))).run P w = .ok pl.toArray w := by
        rw [Array.mapM_eq_mapM_toList, Sem.run_map, hm]; rfl
      refine Out.pure hR (u := .agg us) ?_ (by have := h2.agg; simpa using this)
      simp only [execOp, ho, Instr.build, Sem.run_bind, zeroValue, typeInfo]
      simp [hi, hzz, run_underlying hu, hm', h1]
    · cases e
  · rename_i zs len el hz hu
    obtain ⟨i, z, hi, hzz, rfl⟩ := zeroC_some hz
    split at e
    · rename_i n hn
      obtain ⟨j, hj, rfl⟩ := sizeT_some hn
      rw [Option.map_eq_some_iff] at e
      obtain ⟨cs, hcs, rfl⟩ := e
      obtain ⟨us, h1, h2⟩ := fill_out (a := a) parts.toList (fun p _ => h p.2) (Vrs.lits z.cells.toList) hcs
      refine Out.pure hR (u := .agg us) ?_ (by have := h2.agg; simpa using this)
      simp only [execOp, ho, Instr.build, Sem.run_bind, zeroValue, typeInfo]
      simp [hi, hzz, run_underlying hu, sizeOf, typeInfo, hj, h1]
    · cases e
  · cases e
theorem zeroV_some {t : TypeId} {zs : Array Value} (h : zeroV P t = some zs) : ∃ i z, P.info? t = some i ∧ i.zero = some z ∧ zs = z.cells := by
  unfold zeroV at h
  rw [Option.map_eq_some_iff] at h
  obtain ⟨z, hz, rfl⟩ := h
  rw [Option.bind_eq_some_iff] at hz
  obtain ⟨i, hi, hz⟩ := hz
  exact ⟨i, z, hi, hz, rfl⟩
/-- a slice of all of a new object -/
theorem sl_new {E : Mx} {w : World} {ob : Ob} {vs : Array Value} {t : TypeId} {fr : Nat × Nat} {z len cap : Nat} (hz : 0 < z) (hl : len ≤ cap) (hm : cap ≤ maxLen) (hs : cap * z = vs.size) : Vr (E.new nx w.heap.size 0 ob) (w.alloc (.cells vs t fr)) (.sl nx 0 z len) (.slice (some ⟨w.heap.size, 0, none⟩) len cap) := by
  refine .sl _ _ _ _ _ _ (.inr rfl) hz hl hm fun _ => ?_
  have e : (E.new nx w.heap.size 0 ob).μ nx = (w.heap.size, 0) := upd_same _ _ _
  rw [e]
  exact ⟨⟨_, rfl, rfl⟩, fun _ => rfl, vs, t, fr, (Go.MapKept.heap_alloc w _).1, by omega⟩
theorem maxLen_big {n : Nat} (h : n ≤ 1000000000) : n ≤ maxLen := Nat.le_trans h (by decide)
theorem buildSlice_out {t e : TypeId} {len z : Nat} {parts : Array (Nat × Operand)} {zs : Array Value} {cs : List V} (hR : Rel E w) (hnx : ¬ E.U nx) (ho : o.op = .buildSlice t len parts) (h : ∀ x : Operand, Vr E w (opV T x) (a.eval x)) (ht : P.underlying t = some (.slice e)) (hz : sizeT P e = some z) (hzs : zeroV P e = some zs)
    (hc : 0 < z ∧ 0 < len ∧ len ≤ 1000000 ∧ len * z ≤ 1000000) (hf : fillC (fun i => some (i * z, z)) (madeC zs (len * z)) (parts.toList.map fun p => (p.1, opV T p.2)) = some cs) (h1 : oks cs = true) (h2 : cs.length = len * z) :
    Out P E w (execOp a.eval o) (.sl nx 0 z len) [(nx, some (.cells (e, 1) cs))] nx (nx + 1) := by
  obtain ⟨i, zv, hi, hzv, rfl⟩ := zeroV_some hzs
  obtain ⟨j, hj, rfl⟩ := sizeT_some hz
  rw [hi] at hj
  cases hj
  obtain ⟨us, k1, k2⟩ := fill_out (a := a) parts.toList (fun p _ => h p.2) (us := madeCells zv.cells (len * i.size)) (Vrs.lits (E := E) (w := w) _) hf
  have hne : ¬ len * i.size = 0 := by
    have := Nat.mul_pos hc.2.1 hc.1
    omega
  have hsm : ¬ 16777216 < len * i.size := by omega
  refine Out.made hR hnx (o := .cells us e) (u := .slice (some ⟨w.heap.size, 0, none⟩) len len) ?_ ?_ (sl_new hc.1 (Nat.le_refl _) (maxLen_big (by omega)) (by have := k2.len; simp at this; omega))
  · have k1' : Instr.fill (fun i_1 => some (i_1 * i.size, i.size)) ((Array.range (len * i.size)).map (zv.cells[· % zv.cells.size]!)) (parts.toList.map fun p => (p.1, a.eval p.2)) = some us := k1
    simp [execOp, ho, Instr.buildSlice, run_underlying ht, sizeOf, typeInfo, hi, hsm, hne, zeroValue, hzv, newRow, k1']
  · have := ObR.vrs (t := e) (k := 1) k2 h1
    simpa using this
theorem buildNone_out {t e : TypeId} {z : Nat} {parts : Array (Nat × Operand)} (hR : Rel E w) (hnx : ¬ E.U nx) (ho : o.op = .buildSlice t 0 parts) (hp : parts = #[]) (ht : P.underlying t = some (.slice e)) (hz : sizeT P e = some z) (h0 : 0 < z) : Out P E w (execOp a.eval o) (.sl nx 0 z 0) [(nx, some (.cells (e, 1) []))] nx (nx + 1) := by
  subst hp
  obtain ⟨i, hi, rfl⟩ := sizeT_some hz
  refine Out.made hR hnx (o := .cells #[] e) (u := .slice (some ⟨w.heap.size, 0, none⟩) 0 0) ?_ ⟨.inl rfl, by simp, fun j c hc => by simp at hc⟩ (sl_new h0 (Nat.le_refl _) (by decide) (by simp))
  simp [execOp, ho, Instr.buildSlice, run_underlying ht, sizeOf, typeInfo, hi, newRow, Instr.fill, Array.range_zero']
theorem makeSlice_out {t e : TypeId} {x y : Operand} {n m : Int} {i : TypeInfo} {zs : Array Value} (hR : Rel E w) (hnx : ¬ E.U nx) (ho : o.op = .makeSlice t x y) (h : ∀ x : Operand, Vr E w (opV T x) (a.eval x)) (ht : P.underlying t = some (.slice e)) (hx : intV (opV T x) = some n) (hy : intV (opV T y) = some m) (hi : P.info? e = some i) (hzs : zeroV P e = some zs)
    (hc : 0 ≤ n ∧ n ≤ m ∧ m ≤ 1000000 ∧ i.bytes ≤ 1000000 ∧ 0 < i.size ∧ oks (madeC zs (m.toNat * i.size)) = true) : Out P E w (execOp a.eval o) (.sl nx 0 i.size n.toNat) [(nx, some (.cells (e, 1) (madeC zs (m.toNat * i.size))))] nx (nx + 1) := by
  obtain ⟨j, zv, hj, hzv, rfl⟩ := zeroV_some hzs
  rw [hi] at hj
  cases hj
  obtain ⟨k1, e1⟩ := intV_some hx (h x)
  obtain ⟨k2, e2⟩ := intV_some hy (h y)
  obtain ⟨c1, c2, c3, c4, c5, c6⟩ := hc
  have hb : (i.bytes : Int) * m ≤ 281474976710656 := by
    have : (i.bytes : Int) * m ≤ 1000000 * 1000000 := Int.mul_le_mul (by omega) c3 (by omega) (by omega)
    omega
  have hrun := run_make (P := P) w t e i zv ht hi hzv k1 k2 n m c1 c2 hb (by omega)
  refine Out.made hR hnx (o := .cells (madeCells zv.cells (m.toNat * i.size)) e) (u := .slice (some ⟨w.heap.size, 0, none⟩) n.toNat m.toNat) ?_ (ObR.lits rfl c6) (sl_new c5 (by omega) (maxLen_big (by omega)) (by rw [size_madeCells]))
  simp [execOp, ho, e1, e2, hrun]

/-! ### Addresses -/
theorem fieldAddr_out {s : TypeId} {x : Operand} {f r off n : Nat} {fs : Array Field} {fl : Field} (hR : Rel E w) (ho : o.op = .fieldAddr s x f) (h : Vr E w (.ptr r off) (a.eval x)) (hs : P.underlying s = some (.struct fs)) (hf : fs[f]? = some fl) (hz : sizeT P fl.type = some (n + 1)) :
    Out P E w (execOp a.eval o) (.ptr r (off + fl.offset)) [] nx nx := by
  obtain ⟨ad, hp, hU, hl⟩ := h.ptr_inv
  obtain ⟨i, hi, hi2⟩ := sizeT_some hz
  refine Out.pure hR (u := .pointer (some (ad.add fl.offset))) ?_ (.ptr _ _ _ hU fun q => ?_)
  · simp [execOp, ho, hp, Instr.fieldAt, run_underlying hs, hf, Instr.sureAddr, fieldPlace, sizeOf, typeInfo, hi, hi2]
  · rw [hl q, addr_add]; congr 1; omega
theorem run_part {t : TypeId} {agg : Bool} {z off : Nat} {cs : List V} {us : List Value} {v : V} (hv : Vrs E w cs us) (ha : aggT P t = some agg) (hz : sizeT P t = some z) (hg : getC agg z off cs = some v) : ∃ x, (part t us.toArray off).run P w = .ok x w ∧ Vr E w v x := by
  obtain ⟨i, hi, rfl⟩ := sizeT_some hz
  have hagg := aggT_run (P := P) ha w
  unfold getC at hg
  cases agg with
  | true =>
    simp only [if_true] at hg
    split at hg
    · cases hg
      refine ⟨.agg (us.toArray.extract off (off + i.size)), by simp [part, hagg, sizeOf, typeInfo, hi], ?_⟩
      have := ((hv.drop off).take i.size).agg
      have e : ((us.drop off).take i.size).toArray = us.toArray.extract off (off + i.size) := by
        apply Array.ext'
        simp [List.take_drop, List.extract_eq_take_drop]
      rwa [e] at this
    · cases hg
  | false =>
    simp only [Bool.false_eq_true, if_false] at hg
    obtain ⟨u, h1, h2⟩ := hv.get hg
    exact ⟨u, by simp [part, hagg, h1], h2⟩
theorem field_out {s : TypeId} {x : Operand} {f z : Nat} {agg : Bool} {fs : Array Field} {fl : Field} {cs : List V} {v : V} (hR : Rel E w) (ho : o.op = .field s x f) (h : Vr E w (.agg cs) (a.eval x)) (hs : P.underlying s = some (.struct fs)) (hf : fs[f]? = some fl) (ha : aggT P fl.type = some agg) (hz : sizeT P fl.type = some z) (hg : getC agg z fl.offset cs = some v) :
    Out P E w (execOp a.eval o) v [] nx nx := by
  obtain ⟨us, hu, hv⟩ := h.agg_inv
  obtain ⟨x', h1, h2⟩ := run_part hv ha hz hg
  refine Out.pure hR (u := x') ?_ h2
  simp [execOp, ho, hu, Instr.field, run_underlying hs, hf, asAgg, h1]
theorem Vr.sl_inv {r off z len : Nat} {u : Value} (h : Vr E w (.sl r off z len) u) : ∃ A cap, u = .slice A len cap ∧ E.U r ∧ 0 < z ∧ len ≤ cap ∧ cap ≤ maxLen ∧
    ((E.H r).isSome → (∃ a, A = some a ∧ a.block = (E.μ r).1) ∧ (0 < cap → A = some ⟨(E.μ r).1, (E.μ r).2 + off, none⟩) ∧ ∃ vs ty fr, w.heap[(E.μ r).1]? = some (.cells vs ty fr) ∧ (E.μ r).2 + off + cap * z = vs.size) := by
  cases h with
  | sl _ _ _ _ A cap hr hz hl hm h => exact ⟨A, cap, rfl, hr, hz, hl, hm, h⟩
theorem indexAddr_out {t e : TypeId} {x y : Operand} {r off z len : Nat} {n : Int} (hR : Rel E w) (ho : o.op = .indexAddr t x y) (h : Vr E w (.sl r off z len) (a.eval x)) (hy : Vr E w (opV T y) (a.eval y)) (ht : P.underlying t = some (.slice e)) (hn : intV (opV T y) = some n) (hz : sizeT P e = some z) (hlt : 0 ≤ n ∧ n < len) (hlive : (E.H r).isSome) :
    Out P E w (execOp a.eval o) (.ptr r (off + n.toNat * z)) [] nx nx := by
  obtain ⟨A, cap, hu, hU, h0, hl, hm, hlv⟩ := h.sl_inv
  obtain ⟨k, ek⟩ := intV_some hn hy
  obtain ⟨i, hi, rfl⟩ := sizeT_some hz
  obtain ⟨_, hA, _⟩ := hlv hlive
  have hA := hA (by omega)
  subst hA
  refine Out.pure hR (u := .pointer (some ⟨(E.μ r).1, (E.μ r).2 + off + n.toNat * i.size, none⟩)) ?_ (.ptr _ _ _ hU fun q => by congr 1; omega)
  simp [execOp, ho, hu, ek, Instr.indexAt, asIntOf, run_underlying ht, hlt.1, hlt.2, sizeOf, typeInfo, hi, addr_add]
theorem indexArr_out {t e : TypeId} {x y : Operand} {r off z len : Nat} {n : Int} (hR : Rel E w) (ho : o.op = .indexAddr t x y) (h : Vr E w (.ptr r off) (a.eval x)) (hy : Vr E w (opV T y) (a.eval y)) (ht : P.underlying t = some (.array len e)) (hn : intV (opV T y) = some n) (hz : sizeT P e = some (z + 1)) (hlt : 0 ≤ n ∧ n < len) :
    Out P E w (execOp a.eval o) (.ptr r (off + n.toNat * (z + 1))) [] nx nx := by
  obtain ⟨ad, hp, hU, hl⟩ := h.ptr_inv
  obtain ⟨k, ek⟩ := intV_some hn hy
  obtain ⟨i, hi, hi2⟩ := sizeT_some hz
  refine Out.pure hR (u := .pointer (some (ad.add (n.toNat * (z + 1))))) ?_ (.ptr _ _ _ hU fun q => ?_)
  · simp [execOp, ho, hp, ek, Instr.indexAt, Instr.sureAddr, asIntOf, run_underlying ht, hlt.1, hlt.2, sizeOf, typeInfo, hi, hi2]
  · rw [hl q, addr_add]; congr 1; omega
/-! ### Equality, slices -/
theorem slice_out {t e : TypeId} {x : Operand} {lo hi : Option Operand} {r off z len l h' : Nat} (hR : Rel E w) (ho : o.op = .slice t x lo hi none) (h : Vr E w (.sl r off z len) (a.eval x)) (hv : ∀ x : Operand, Vr E w (opV T x) (a.eval x)) (ht : P.underlying t = some (.slice e))
    (hl : boundV (lo.map (opV T)) 0 = some l) (hh : boundV (hi.map (opV T)) len = some h') (hc : sizeT P e = some z ∧ l ≤ h' ∧ h' ≤ len) : Out P E w (execOp a.eval o) (.sl r (off + l * z) z (h' - l)) [] nx nx := by
  obtain ⟨A, cap, hu, hU, h0, hlc, hm, hlv⟩ := h.sl_inv
  obtain ⟨i, hi', rfl⟩ := sizeT_some hc.1
  have hb : ∀ (y : Option Operand) (d m : Nat), boundV (y.map (opV T)) d = some m → (y = none ∧ m = d) ∨ ∃ z k, y = some z ∧ a.eval z = .int k (m : Int) := by
    intro y d m hy
    cases y with
    | none => left; simp [boundV] at hy; exact ⟨rfl, hy.symm⟩
    | some y =>
      right
      simp only [Option.map_some, boundV] at hy
      split at hy
      · rename_i n hn
        split at hy
        · rename_i hn0
          cases hy
          obtain ⟨k, ek⟩ := intV_some hn (hv y)
          exact ⟨y, k, rfl, by rw [ek, Int.toNat_of_nonneg hn0]⟩
        · cases hy
      · cases hy
  have hb1 := hb lo 0 l hl
  have hb2 := hb hi len h' hh
  have hle : h' ≤ cap := by omega
  have hs : (Instr.sliceBounds true len cap (lo.map a.eval) (hi.map a.eval) none).run P w = .ok (l, h', cap) w := by
    rcases hb1 with ⟨rfl, rfl⟩ | ⟨y1, k1, rfl, e1⟩ <;> rcases hb2 with ⟨rfl, rfl⟩ | ⟨y2, k2, rfl, e2⟩ <;>
      simp [Instr.sliceBounds, Instr.sliceBound, asIntOf, *] <;> omega
  refine Out.pure hR (u := .slice (if cap = l then A else A.map (·.add (l * i.size))) (h' - l) (cap - l)) ?_ (.sl _ _ _ _ _ _ hU h0 (by omega) (by omega) fun q => ?_)
  · simp [execOp, ho, hu, Instr.sliceAt, Instr.slice, run_underlying ht, hs, sizeOf, typeInfo, hi']
  · obtain ⟨⟨ad, hA, hbk⟩, hA2, vs, ty, fr, h3, h4⟩ := hlv q
    refine ⟨?_, fun hpos => ?_, vs, ty, fr, h3, ?_⟩
    · split
      · exact ⟨ad, hA, hbk⟩
      · refine ⟨ad.add (l * i.size), by rw [hA]; rfl, ?_⟩
        unfold Addr.add
        split <;> exact hbk
    · rw [if_neg (by omega), hA2 (by omega)]
      simp only [Option.map_some, addr_add]
      congr 2; omega
    · rw [Nat.sub_mul, ← h4]
      have : l * i.size ≤ cap * i.size := Nat.mul_le_mul_right _ (by omega)
      omega
theorem run_guard {op : BinOp} {t : TypeId} {x y : Operand} {u v : Value} (h1 : ∀ cs, u ≠ .agg cs) (h2 : u ≠ .nilIface ∨ v ≠ .nilIface) : (eqGuard op t x y u v).run P w = .ok () w := by
  unfold eqGuard
  cases u <;> cases v <;> first | (exact absurd rfl (h1 _)) | (cases op <;> rfl) | (rcases h2 with h2 | h2 <;> exact absurd rfl h2)
def eqlB : BinOp → Bool → Bool
  | .eql, b => b
  | _, b => !b
theorem eq_out {t : TypeId} {op : BinOp} {x y : Operand} {yt : TypeId} {b : Bool} (hR : Rel E w) (hop : op = .eql ∨ op = .neq) (ho : o.op = .binOp op t x y yt) (h : ∀ x : Operand, Vr E w (opV T x) (a.eval x)) (hG : ∀ r ob, G r = some ob → E.H r = some ob) (he : eqA P G (P.underlying t) (opV T x) (opV T y) = some b) :
    Out P E w (execOp a.eval o) (.lit (.bool (eqlB op b))) [] nx nx := by
  have hx := h x
  have hy := h y
  have fin : (∀ cs, a.eval x ≠ .agg cs) → (a.eval x ≠ .nilIface ∨ a.eval y ≠ .nilIface) → (∀ d, (Op.equalIn (d + 1) t (a.eval x) (a.eval y)).run P w = .ok b w) → (∀ k n, a.eval x ≠ .int k n) → (∀ k n, a.eval x ≠ .float k n) → (∀ k n m, a.eval x ≠ .complex k n m) → (∀ s, a.eval x ≠ .string s) →
      Out P E w (execOp a.eval o) (.lit (.bool (eqlB op b))) [] nx nx := by
    intro g1 g2 g3' g4 g5 g6 g7
    have g3 : (Op.equal t (a.eval x) (a.eval y)).run P w = .ok b w := g3' 9999
    clear g3'
    refine Out.pure hR (u := .bool (eqlB op b)) ?_ (.lit _)
    have gd := run_guard (P := P) (w := w) (op := op) (t := t) (x := x) (y := y) g1 g2
    generalize hu : a.eval x = u at g1 g2 g3 g4 g5 g6 g7 gd
    generalize hv : a.eval y = v at g2 g3 gd
    rcases hop with rfl | rfl
    · cases u <;> first
        | exact absurd rfl (g4 _ _) | exact absurd rfl (g5 _ _) | exact absurd rfl (g6 _ _ _) | exact absurd rfl (g7 _) | exact absurd rfl (g1 _)
        | simp [execOp, ho, hu, hv, gd, binOp, g3, eqlB]
    · cases u <;> first
        | exact absurd rfl (g4 _ _) | exact absurd rfl (g5 _ _) | exact absurd rfl (g6 _ _ _) | exact absurd rfl (g7 _) | exact absurd rfl (g1 _)
        | simp [execOp, ho, hu, hv, gd, binOp, g3, eqlB]
  unfold eqA at he
  split at he
  · rename_i el r1 o1 ht e1 e2
    rw [e1] at hx; rw [e2] at hy
    obtain ⟨ad, hp, _⟩ := hx.ptr_inv
    have hq := hy.lit_inv
    cases he
    exact fin (by simp [hp]) (by simp [hp]) (fun d => by simp [hp, hq, Op.equalIn, run_underlying ht]) (by simp [hp]) (by simp [hp]) (by simp [hp]) (by simp [hp])
  · rename_i el r1 o1 ht e1 e2
    rw [e1] at hx; rw [e2] at hy
    obtain ⟨ad, hp, _⟩ := hy.ptr_inv
    have hq := hx.lit_inv
    cases he
    exact fin (by simp [hq]) (by simp [hq]) (fun d => by simp [hp, hq, Op.equalIn, run_underlying ht]) (by simp [hq]) (by simp [hq]) (by simp [hq]) (by simp [hq])
  · rename_i el r1 o1 z1 n1 n2 n3 ht e1 e2
    rw [e1] at hx; rw [e2] at hy
    split at he
    · rename_i ob hob
      cases he
      obtain ⟨A, cap, hp, _, _, _, _, hl⟩ := hx.sl_inv
      obtain ⟨⟨ad, hA, _⟩, _⟩ := hl (by rw [hG r1 ob hob]; rfl)
      subst hA
      have hq := hy.lit_inv
      exact fin (by simp [hp]) (by simp [hp]) (fun d => by simp [hp, hq, Op.equalIn, run_underlying ht]) (by simp [hp]) (by simp [hp]) (by simp [hp]) (by simp [hp])
    · cases he
  · rename_i el n1 n2 r1 o1 z1 n3 ht e1 e2
    rw [e1] at hx; rw [e2] at hy
    split at he
    · rename_i ob hob
      cases he
      obtain ⟨A, cap, hp, _, _, _, _, hl⟩ := hy.sl_inv
      obtain ⟨⟨ad, hA, _⟩, _⟩ := hl (by rw [hG r1 ob hob]; rfl)
      subst hA
      have hq := hx.lit_inv
      exact fin (by simp [hq]) (by simp [hq]) (fun d => by simp [hp, hq, Op.equalIn, run_underlying ht]) (by simp [hq]) (by simp [hq]) (by simp [hq]) (by simp [hq])
    · cases he
  · rename_i k1 k2 r1 ht e1 e2
    rw [e1] at hx; rw [e2] at hy
    cases he
    have hq := hy.lit_inv
    generalize hp : a.eval x = u at hx fin
    cases hx
    exact fin (by simp) (by simp) (fun d => by simp [hq, Op.equalIn, run_underlying ht]) (by simp) (by simp) (by simp) (by simp)
  · rename_i k1 k2 r1 ht e1 e2
    rw [e1] at hx; rw [e2] at hy
    cases he
    have hq := hx.lit_inv
    generalize hp : a.eval y = u at hy fin
    cases hy
    exact fin (by simp [hq]) (by simp [hq]) (fun d => by simp [hq, Op.equalIn, run_underlying ht]) (by simp [hq]) (by simp [hq]) (by simp [hq]) (by simp [hq])
  · rename_i k1 k2 k3 g b1 b2 ht e1 e2
    rw [e1] at hx; rw [e2] at hy
    cases he
    have hq := hy.lit_inv
    generalize hp : a.eval x = u at hx fin
    cases hx
    exact fin (by simp) (by simp) (fun d => by simp [hq, Op.equalIn, run_underlying ht]) (by simp) (by simp) (by simp) (by simp)
  · rename_i k1 k2 k3 g b1 b2 ht e1 e2
    rw [e1] at hx; rw [e2] at hy
    cases he
    have hq := hx.lit_inv
    generalize hp : a.eval y = u at hy fin
    cases hy
    exact fin (by simp [hq]) (by simp [hq]) (fun d => by simp [hq, Op.equalIn, run_underlying ht]) (by simp [hq]) (by simp [hq]) (by simp [hq]) (by simp [hq])
  · rename_i k1 d1 v1 ht e1 e2
    rw [e1] at hx; rw [e2] at hy
    cases he
    have hq := hy.lit_inv
    generalize hp : a.eval x = u at hx fin
    cases hx
    exact fin (by simp) (by simp) (fun d => by simp [hq, Op.equalIn, run_underlying ht]) (by simp) (by simp) (by simp) (by simp)
  · rename_i k1 d1 v1 ht e1 e2
    rw [e1] at hx; rw [e2] at hy
    cases he
    have hq := hx.lit_inv
    generalize hp : a.eval y = u at hy fin
    cases hy
    exact fin (by simp [hq]) (by simp) (fun d => by simp [hq, Op.equalIn, run_underlying ht]) (by simp [hq]) (by simp [hq]) (by simp [hq]) (by simp [hq])
  · rename_i el r1 o1 r2 o2 ht e1 e2
    rw [e1] at hx; rw [e2] at hy
    split at he
    · rename_i ta1 cs1 ta2 cs2 z g1 g2 hz
      split at he
      case isFalse => cases he
      rename_i hoo12
      cases he
      have q1 := hG _ _ g1
      have q2 := hG _ _ g2
      have hp := hx.ptr_live q1
      have hq := hy.ptr_live q2
      obtain ⟨ie, hie, hies⟩ := sizeT_some hz
      obtain ⟨ob1, w1, x1⟩ := hR.obj _ _ q1
      obtain ⟨ob2, w2, x2⟩ := hR.obj _ _ q2
      cases ob1 <;> try exact x1.elim
      rename_i vs1 ty1 fr1
      cases ob2 <;> try exact x2.elim
      rename_i vs2 ty2 fr2
      obtain ⟨y1, ⟨z1, _, _, z3, _⟩, _⟩ := x1
      obtain ⟨y2, ⟨z2, _, _, z4, _⟩, _⟩ := x2
      refine fin (by simp [hp]) (by simp [hp]) ?_ (by simp [hp]) (by simp [hp]) (by simp [hp]) (by simp [hp])
      have hsame : (sameAddr ⟨(E.μ r1).1, (E.μ r1).2 + o1, none⟩ ⟨(E.μ r2).1, (E.μ r2).2 + o2, none⟩).run P w = .ok (decide (r1 = r2) && decide (o1 = o2)) w := by
        by_cases hrr : r1 = r2
        · subst hrr
          by_cases hoo : o1 = o2
          · subst hoo; simp [sameAddr]
          · simp [sameAddr, hoo]
        · have hne : ((E.μ r1).1 == (E.μ r2).1) = false := by
            rw [beq_eq_false_iff_ne]
            exact fun q => hrr (hR.inj _ _ _ _ q1 q2 q)
          have f1 : w.frozen? ⟨(E.μ r1).1, (E.μ r1).2 + o1, none⟩ = false := Unf.no w1 y1 (by omega)
          have f2 : w.frozen? ⟨(E.μ r2).1, (E.μ r2).2 + o2, none⟩ = false := Unf.no w2 y2 (by omega)
          have s1 : w.shape? (E.μ r1).1 = some (ty1, vs1.size) := by simp [World.shape?, w1]
          have s2 : w.shape? (E.μ r2).1 = some (ty2, vs2.size) := by simp [World.shape?, w2]
          have k1 : 0 < vs1.size := by omega
          have k2 : 0 < vs2.size := by omega
          have k3 : w.frozen? ⟨(E.μ r1).1, vs1.size, none⟩ = false ∨ w.frozen? ⟨(E.μ r2).1, vs2.size, none⟩ = false := by
            rcases hoo12.2 with q | q
            · left
              have := z3 q
              subst this
              simp [World.frozen?, w1]
            · right
              have := z4 q
              subst this
              simp [World.frozen?, w2]
          generalize vs1.size = m1 at *
          generalize vs2.size = m2 at *
          have u1 : (frozen ⟨(E.μ r1).1, (E.μ r1).2 + o1, none⟩).run P w = .ok false w := by show Result.ok (w.frozen? _) w = _; rw [f1]
          have u2 : (frozen ⟨(E.μ r2).1, (E.μ r2).2 + o2, none⟩).run P w = .ok false w := by show Result.ok (w.frozen? _) w = _; rw [f2]
          have v1 : (shape (E.μ r1).1).run P w = .ok (some (ty1, m1)) w := by show Result.ok (w.shape? _) w = _; rw [s1]
          have v2 : (shape (E.μ r2).1).run P w = .ok (some (ty2, m2)) w := by show Result.ok (w.shape? _) w = _; rw [s2]
          obtain ⟨m1', rfl⟩ : ∃ m, m1 = m + 1 := ⟨m1 - 1, by omega⟩
          obtain ⟨m2', rfl⟩ : ∃ m, m2 = m + 1 := ⟨m2 - 1, by omega⟩
          rcases k3 with k3 | k3 <;> simp [sameAddr, hne, u1, u2, noView, viewAt, v1, v2, mayBeOne, stringish, hrr, f1, f2, s1, s2, k3]
      intro d
      simp [hp, hq, Op.equalIn, run_underlying ht, sizeOf, typeInfo, hie, hies, hsame]
    · cases he
  · cases he
end
end Hm
end Go.Proofs.YtcccaomnehdlbaaDoor
