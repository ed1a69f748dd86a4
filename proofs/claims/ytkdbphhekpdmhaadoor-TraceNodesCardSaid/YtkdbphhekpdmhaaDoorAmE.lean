/-
  The plain machine, fifth part: addresses, slices, lengths.
-/
import Derived.Test.YtkdbphhekpdmhaaDoorAmD
namespace Go.Proofs.YtkdbphhekpdmhaaDoor
open Go.RowKit
set_option linter.unusedVariables false
set_option linter.unusedSimpArgs false

theorem add_none (b o j : Nat) : (⟨b, o, none⟩ : Addr).add j = ⟨b, o + j, none⟩ := by
  unfold Addr.add
  split
  · rename_i e; rw [e]; rfl
  · rfl

section
variable {P : Program} {w0 : Start} {Pr0 : Nat → Nat → Prop} {n : Nat} {μ : Nat → Option Nat} {σ : St} {a : Act} {w : World} {Pr : Nat → Nat → Prop} {H : Nat → Option Arr}

theorem faddr_sound {o : Oper} {s : TypeId} {f : Nat} {x : Operand} {ix : IOpd} {fs : Array Field} {fl : Field} {i : TypeInfo} (ho : o.op = .fieldAddr s x f) (hs : P.underlying s = some (.struct fs)) (hf : fs[f]? = some fl) (hi : P.info? fl.type = some i) (hz : ¬ i.size = 0) (hx : compOpd x = some ix)
    (h : SR w0 Pr0 n μ σ a w) {hid : List Nat} {K : AV → List Nat → Prop} (hE : evalV hid σ K (.faddr fl.offset ix)) : Yld P w0 Pr0 μ σ a w o K := by
  have tx := h.get hx
  have hrun : ∀ b p, a.eval x = .pointer (some ⟨b, p, none⟩) → (execOp a.eval o).run P w = .ok (.value (.pointer (some ⟨b, p + fl.offset, none⟩))) w := by
    intro b p hv
    simp [execOp, ho, hv, Instr.fieldAt, run_underlying hs, hf, Instr.sureAddr, fieldPlace, sizeOf, typeInfo, hi, hz, add_none]
  simp only [evalV] at hE
  split at hE
  · rename_i cs e
    rw [e] at tx
    have tx' : VR (PrOf w0 Pr0 μ σ.H) w (.rp cs) (a.eval x) := tx
    generalize hv : a.eval x = v at tx'
    cases tx' with
    | rp _ b off u hb hc hr =>
      refine Yld.mk0 hE (hrun b off hv) (TR.of_VR (.rp _ b (off + fl.offset) (fun j => u (fl.offset + j)) hb (fun j hj => ?_) fun j c hj => ?_))
      · rw [List.length_drop] at hj
        rw [Nat.add_assoc]
        exact hc (fl.offset + j) (by omega)
      · rw [List.getElem?_drop] at hj
        exact hr _ c hj
  · rename_i r k f' e
    rw [e] at tx
    obtain ⟨-, hE⟩ := hE
    split at hE
    · rename_i arr hr
      obtain ⟨g, hg, hv⟩ := tx arr hr
      refine Yld.mk0 hE (hrun g _ hv) ?_
      intro arr' ha'
      rw [hr] at ha'; cases ha'
      exact ⟨g, hg, by rw [Nat.add_assoc]⟩
    · exact hE.elim
  · exact hE.elim

/-- a part of cells that read one by one -/
theorem run_part {t : TypeId} {z : Nat} {agg : Bool} (ht : tyOf P t = some (z, agg)) {us : List Value} {off : Nat} {d : AV}
    (hd : if agg then z ≤ (us.drop off).length ∧ VR Pr w d (.agg ((us.drop off).take z).toArray) else ∃ u, (us.drop off)[0]? = some u ∧ VR Pr w d u) :
    ∃ v, (part t us.toArray off).run P w = .ok v w ∧ VR Pr w d v := by
  unfold tyOf at ht
  split at ht
  · rename_i i ds hi hu
    injection ht with ht
    injection ht with h1 h2
    subst h1
    have hagg : (isAgg t).run P w = .ok agg w := by
      unfold isAgg
      rw [Sem.run_bind, run_underlying hu]
      rw [← h2]
      cases ds <;> rfl
    cases agg with
    | true =>
      simp only [if_true] at hd
      refine ⟨_, ?_, hd.2⟩
      simp only [part, Sem.run_bind, hagg, Result.andThen_ok, if_true, sizeOf, typeInfo, run_program, hi, Sem.run_pure]
      congr 2
      apply Array.ext'
      simp [List.extract_eq_take_drop]
    | false =>
      simp only [Bool.false_eq_true, if_false] at hd
      obtain ⟨u, hu0, hv⟩ := hd
      refine ⟨u, ?_, hv⟩
      rw [List.getElem?_drop] at hu0
      simp only [Nat.add_zero] at hu0
      simp [part, hagg, hu0]
  · cases ht

theorem VR.agg_inv {cs : List AV} {v : Value} (h : VR Pr w (.agg cs) v) : ∃ us : List Value, v = .agg us.toArray ∧ cs.length = us.length ∧ ∀ (j : Nat) (c : AV) (u : Value), cs[j]? = some c → us[j]? = some u → VR Pr w c u := by
  cases h with
  | agg _ us hl h => exact ⟨us, rfl, hl, h⟩

theorem fld_sound {o : Oper} {s : TypeId} {f : Nat} {x : Operand} {ix : IOpd} {fs : Array Field} {fl : Field} {z : Nat} {agg : Bool} (ho : o.op = .field s x f) (hs : P.underlying s = some (.struct fs)) (hf : fs[f]? = some fl) (ht : tyOf P fl.type = some (z, agg)) (hx : compOpd x = some ix)
    (h : SR w0 Pr0 n μ σ a w) {hid : List Nat} {K : AV → List Nat → Prop} (hE : evalV hid σ K (.fld fl.offset z agg ix)) : Yld P w0 Pr0 μ σ a w o K := by
  have tx := h.get hx
  simp only [evalV] at hE
  split at hE
  · rename_i cs e
    rw [e] at tx
    obtain ⟨us, hv, hl, hr⟩ := VR.agg_inv (show VR (PrOf w0 Pr0 μ σ.H) w (.agg cs) (a.eval x) from tx)
    obtain ⟨d, hK, hd⟩ := cellsV_sound (w := w) (Pr := PrOf w0 Pr0 μ σ.H) (us := us.drop fl.offset) hE (by simp [hl]) (fun j c u' hj hu' => by
      rw [List.getElem?_drop] at hj hu'
      exact hr _ c u' hj hu')
    obtain ⟨v, h1, h2⟩ := run_part (P := P) ht hd
    refine Yld.mk0 hK ?_ (TR.of_VR h2)
    simp [execOp, ho, hv, Instr.field, run_underlying hs, hf, asAgg, h1]
  · exact hE.elim

theorem idx_sound {o : Oper} {t : TypeId} {x i : Operand} {ix ii : IOpd} (ho : o.op = .index t x i) (ht : P.underlying t = some .string) (hx : compOpd x = some ix) (hi : compOpd i = some ii)
    (h : SR w0 Pr0 n μ σ a w) {hid : List Nat} {K : AV → List Nat → Prop} (hE : evalV hid σ K (.idx ix ii)) : Yld P w0 Pr0 μ σ a w o K := by
  have tx := h.get hx
  have ti := h.get hi
  simp only [evalV] at hE
  split at hE
  · rename_i k m s e1 e2
    rw [e1] at ti; rw [e2] at tx
    obtain ⟨⟨h0, h1⟩, hE⟩ := hE
    have hlt : m.toNat < s.size := by omega
    have hb : s[m.toNat]? = some (s.data.toList.getD m.toNat 0) := by
      have hlt' : m.toNat < s.data.toList.length := by simpa using hlt
      have e : s.data.toList.getD m.toNat 0 = s[m.toNat] := by
        rw [List.getD_eq_getElem?_getD, List.getElem?_eq_getElem hlt']
        rfl
      rw [e]
      exact getElem?_pos s m.toNat hlt
    refine Yld.mk0 hE ?_ (TR.of_VR (.int _ _))
    simp only [execOp, ho, tx.str, ti.int, Instr.index, asIntOf]
    simp [run_underlying ht, h0, hb]
  · exact hE.elim

theorem idxA_sound {o : Oper} {t e : TypeId} {len z : Nat} {agg : Bool} {x i : Operand} {ix ii : IOpd} (ho : o.op = .index t x i) (ht : P.underlying t = some (.array len e)) (he : tyOf P e = some (z, agg)) (hx : compOpd x = some ix) (hi : compOpd i = some ii)
    (h : SR w0 Pr0 n μ σ a w) {hid : List Nat} {K : AV → List Nat → Prop} (hE : evalV hid σ K (.idxA len z agg ix ii)) : Yld P w0 Pr0 μ σ a w o K := by
  have tx := h.get hx
  have ti := h.get hi
  simp only [evalV] at hE
  split at hE
  · rename_i k m cs e1 e2
    rw [e1] at ti; rw [e2] at tx
    obtain ⟨⟨h0, h1⟩, hE⟩ := hE
    obtain ⟨us, hv, hl, hr⟩ := VR.agg_inv (show VR (PrOf w0 Pr0 μ σ.H) w (.agg cs) (a.eval x) from tx)
    obtain ⟨d, hK, hd⟩ := cellsV_sound (w := w) (Pr := PrOf w0 Pr0 μ σ.H) (us := us.drop (m.toNat * z)) hE (by simp [hl]) (fun j c u' hj hu' => by
      rw [List.getElem?_drop] at hj hu'
      exact hr _ c u' hj hu')
    obtain ⟨v, h2, h3⟩ := run_part (P := P) he hd
    refine Yld.mk0 hK ?_ (TR.of_VR h3)
    have hz : ∃ j, P.info? e = some j ∧ j.size = z := by
      unfold tyOf at he
      split at he
      · rename_i j ds hj _
        injection he with he
        injection he with he1 _
        exact ⟨j, hj, he1⟩
      · cases he
    obtain ⟨j, hj, rfl⟩ := hz
    have hs : (sizeOf e).run P w = .ok j.size w := by simp [sizeOf, typeInfo, hj]
    simp only [execOp, ho, hv, ti.int, Instr.index, asIntOf]
    simp [run_underlying ht, h0, h1, hs, h2]
  · exact hE.elim

theorem iaddr_sound {o : Oper} {t e : TypeId} {j : TypeInfo} {x i : Operand} {ix ii : IOpd} (ho : o.op = .indexAddr t x i) (ht : P.underlying t = some (.slice e)) (hj : P.info? e = some j) (hz : ¬ j.size = 0) (hx : compOpd x = some ix) (hi : compOpd i = some ii)
    (h : SR w0 Pr0 n μ σ a w) {hid : List Nat} {K : AV → List Nat → Prop} (hE : evalV hid σ K (.iaddr j.size ix ii)) : Yld P w0 Pr0 μ σ a w o K := by
  have tx := h.get hx
  have ti := h.get hi
  have hrun : ∀ (k : IntKind) (m : Int) (b off len cap : Nat), 0 ≤ m → m < len → a.eval i = .int k m → a.eval x = .slice (some ⟨b, off, none⟩) len cap →
      (execOp a.eval o).run P w = .ok (.value (.pointer (some ⟨b, off + m.toNat * j.size, none⟩))) w := by
    intro k m b off len cap h0 h1 e1 e2
    simp [execOp, ho, e1, e2, Instr.indexAt, asIntOf, run_underlying ht, h0, h1, sizeOf, typeInfo, hj, add_none]
  simp only [evalV] at hE
  split at hE
  · rename_i k m l e1 e2
    rw [e1] at ti; rw [e2] at tx
    obtain ⟨⟨h0, h1⟩, hz', hE⟩ := hE
    have tx' : VR (PrOf w0 Pr0 μ σ.H) w (.sl l) (a.eval x) := tx
    generalize hv : a.eval x = v at tx'
    cases tx' with
    | sl _ A cap z u hcap hmax hA hr =>
      obtain ⟨b, off, rfl, hL⟩ := hA (by omega)
      have hlt : m.toNat < l.length := by omega
      have hg : l[m.toNat]? = some (l.getD m.toNat .und) := by rw [List.getD_eq_getElem?_getD, List.getElem?_eq_getElem hlt]; rfl
      have hzz : z = j.size := by rw [← hL.len _ (List.mem_of_getElem? hg)]; exact hz'
      subst hzz
      refine Yld.mk0 hE (hrun k m b off l.length cap h0 h1 ti.int hv) (TR.of_VR (.rp _ b _ (u m.toNat) hL.lt (fun q hq => ?_) fun q c hq => hr _ _ q c hg hq))
      rw [hz'] at hq
      have := hL.at_ m.toNat q hlt hq
      rw [Nat.add_assoc]; exact this
  · rename_i k m r off len e1 e2
    rw [e1] at ti; rw [e2] at tx
    obtain ⟨-, ⟨h0, h1⟩, hE⟩ := hE
    split at hE
    · rename_i arr ha
      obtain ⟨hz', hE⟩ := hE
      rcases tx arr ha with ⟨_, _, _, rfl⟩ | ⟨g, cap, cs, g1, g2, g3, g4, g5, g6, g7⟩
      · omega
      · refine Yld.mk0 hE (hrun k m g _ len cap h0 h1 ti.int g2) ?_
        intro arr' ha'
        rw [ha] at ha'; cases ha'
        refine ⟨g, g1, ?_⟩
        rw [hz', Nat.add_mul, Nat.add_zero]
    · exact hE.elim
  · exact hE.elim

theorem conv_sound {o : Oper} {src dst : TypeId} {k k' : IntKind} {x : Operand} {ix : IOpd} (ho : o.op = .convert src dst x) (hs : P.underlying src = some (.int k')) (hd : P.underlying dst = some (.int k)) (hx : compOpd x = some ix)
    (h : SR w0 Pr0 n μ σ a w) {hid : List Nat} {K : AV → List Nat → Prop} (hE : evalV hid σ K (.conv k ix)) : Yld P w0 Pr0 μ σ a w o K := by
  have tx := h.get hx
  simp only [evalV] at hE
  split at hE
  · rename_i k0 m e
    rw [e] at tx
    refine Yld.mk0 hE ?_ (TR.of_VR (.int _ _))
    simp [execOp, ho, tx.int, convert, run_underlying hs, run_underlying hd, Conv.intToInt]
  · exact hE.elim

theorem convS_sound {o : Oper} {src dst : TypeId} {x : Operand} {ix : IOpd} (ho : o.op = .convert src dst x) (hs : P.underlying src = some .string) (hd : P.underlying dst = some .string) (hx : compOpd x = some ix)
    (h : SR w0 Pr0 n μ σ a w) {hid : List Nat} {K : AV → List Nat → Prop} (hE : evalV hid σ K (.mvs ix)) : Yld P w0 Pr0 μ σ a w o K := by
  have tx := h.get hx
  simp only [evalV] at hE
  split at hE
  · rename_i s e
    rw [e] at tx
    refine Yld.mk0 hE ?_ (TR.of_VR (.str _))
    simp [execOp, ho, tx.str, convert, run_underlying hs, run_underlying hd]
  · exact hE.elim

theorem run_builtin {o : Oper} {c : Call} {b : Builtin} (ho : o.op = .call c) (hc : c.callee = .builtin b) :
    (execOp a.eval o).run P w = (builtin b c.argTypes o.type (c.args.map fun | .const _ => true | _ => false) (c.args.map a.eval)).run P w := by
  simp only [execOp, ho, resolve, hc]
  simp [invoke]
  rfl

theorem call1 {c : Call} {x : Operand} (ha : c.args.toList = [x]) : c.args = #[x] := by apply Array.ext'; exact ha
theorem call2 {c : Call} {x y : Operand} (ha : c.args.toList = [x, y]) : c.args = #[x, y] := by apply Array.ext'; exact ha
theorem callT {c : Call} {x : TypeId} (ha : c.argTypes.toList = [x]) : c.argTypes = #[x] := by apply Array.ext'; exact ha

theorem lenS_sound {o : Oper} {c : Call} {t : TypeId} {x : Operand} {ix : IOpd} (ho : o.op = .call c) (hc : c.callee = .builtin .len) (ha : c.args.toList = [x]) (hts : c.argTypes.toList = [t]) (ht : P.underlying t = some .string) (hx : compOpd x = some ix)
    (h : SR w0 Pr0 n μ σ a w) {hid : List Nat} {K : AV → List Nat → Prop} (hE : evalV hid σ K (.len true ix)) : Yld P w0 Pr0 μ σ a w o K := by
  have tx := h.get hx
  have hrun := run_builtin (P := P) (a := a) (w := w) ho hc
  rw [call1 ha, callT hts] at hrun
  simp only [evalV] at hE
  split at hE
  · rename_i e _; cases e
  · rename_i e _; cases e
  · rename_i s _ e
    rw [e] at tx
    refine Yld.mk0 hE ?_ (TR.of_VR (.int _ _))
    rw [hrun]
    simp [builtin, Builtin.len_, run_underlying ht, tx.str, goInt]
  · exact hE.elim

theorem lenL_sound {o : Oper} {c : Call} {t e : TypeId} {x : Operand} {ix : IOpd} (ho : o.op = .call c) (hc : c.callee = .builtin .len) (ha : c.args.toList = [x]) (hts : c.argTypes.toList = [t]) (ht : P.underlying t = some (.slice e)) (hx : compOpd x = some ix)
    (h : SR w0 Pr0 n μ σ a w) {hid : List Nat} {K : AV → List Nat → Prop} (hE : evalV hid σ K (.len false ix)) : Yld P w0 Pr0 μ σ a w o K := by
  have tx := h.get hx
  have hrun := run_builtin (P := P) (a := a) (w := w) ho hc
  rw [call1 ha, callT hts] at hrun
  have hS : ∀ A l cp, a.eval x = .slice A l cp → (execOp a.eval o).run P w = .ok (.value (.int .i64 l)) w := by
    intro A l cp hv
    rw [hrun]
    simp [builtin, Builtin.len_, run_underlying ht, hv, goInt]
  simp only [evalV] at hE
  split at hE
  · rename_i l _ e
    rw [e] at tx
    have tx' : VR (PrOf w0 Pr0 μ σ.H) w (.sl l) (a.eval x) := tx
    generalize hv : a.eval x = v at tx'
    cases tx' with
    | sl _ A cap z u hcap hmax hA hr => exact Yld.mk0 hE (hS _ _ _ hv) (TR.of_VR (.int _ _))
  · rename_i r off len _ e
    rw [e] at tx
    obtain ⟨-, hE⟩ := hE
    split at hE
    · rename_i arr harr
      rcases tx arr harr with ⟨_, hv, _, rfl⟩ | ⟨g, cap, cs, g1, hv, _⟩
      · exact Yld.mk0 hE (hS _ _ _ hv) (TR.of_VR (.int _ _))
      · exact Yld.mk0 hE (hS _ _ _ hv) (TR.of_VR (.int _ _))
    · exact hE.elim
  · rename_i e _; cases e
  · exact hE.elim

theorem mx_sound {o : Oper} {c : Call} {b : Bool} {x y : Operand} {ix iy : IOpd} (ho : o.op = .call c) (hc : c.callee = .builtin (if b then .max else .min)) (ha : c.args.toList = [x, y]) (hx : compOpd x = some ix) (hy : compOpd y = some iy)
    (h : SR w0 Pr0 n μ σ a w) {hid : List Nat} {K : AV → List Nat → Prop} (hE : evalV hid σ K (.mx b ix iy)) : Yld P w0 Pr0 μ σ a w o K := by
  have tx := h.get hx
  have ty := h.get hy
  have hrun := run_builtin (P := P) (a := a) (w := w) ho hc
  rw [call2 ha] at hrun
  simp only [evalV] at hE
  split at hE
  · rename_i k m k' m' e1 e2
    rw [e1] at tx; rw [e2] at ty
    refine Yld.mk0 hE ?_ (TR.of_VR (.int _ _))
    rw [hrun]
    cases b
    · simp [builtin, Builtin.min_, Builtin.min2, tx.int, ty.int]
    · simp [builtin, Builtin.max_, Builtin.max2, tx.int, ty.int]
  · rename_i s s' e1 e2
    rw [e1] at tx; rw [e2] at ty
    refine Yld.mk0 hE ?_ (TR.of_VR (.str _))
    rw [hrun]
    cases b
    · cases h1 : Op.bytesLess s.toList s'.toList <;> cases h2 : s.toList == s'.toList <;> simp [builtin, Builtin.min_, Builtin.min2, Op.stringOp, asBool, tx.str, ty.str, mnS, h1, h2]
    · cases h1 : Op.bytesLess s.toList s'.toList <;> simp [builtin, Builtin.max_, Builtin.max2, Op.stringOp, asBool, tx.str, ty.str, mxS, h1]
  · exact hE.elim

theorem compO_none {x : Option Operand} (h : compO x = some none) : x = none := by
  cases x with
  | none => rfl
  | some x =>
    simp only [compO, Option.map_eq_some_iff] at h
    obtain ⟨y, _, h⟩ := h
    cases h
theorem compO_some {x : Option Operand} {i : IOpd} (h : compO x = some (some i)) : ∃ y, x = some y ∧ compOpd y = some i := by
  cases x with
  | none => cases h
  | some x =>
    simp only [compO, Option.map_eq_some_iff] at h
    obtain ⟨y, h1, h⟩ := h
    cases h
    exact ⟨x, rfl, h1⟩

/-- a slice's bound -/
theorem bound_sound {x : Option Operand} {ix : Option IOpd} (hx : compO x = some ix) (h : SR w0 Pr0 n μ σ a w) {d : Nat} {K : Nat → Prop} (hE : bound σ ix d K) :
    (x = none ∧ K d) ∨ ∃ y k m, x = some y ∧ a.eval y = .int k m ∧ 0 ≤ m ∧ K m.toNat := by
  cases ix with
  | none => exact .inl ⟨compO_none hx, hE⟩
  | some i =>
    obtain ⟨y, rfl, hy⟩ := compO_some hx
    have ty := h.get hy
    simp only [bound] at hE
    split at hE
    · rename_i k m e
      rw [e] at ty
      exact .inr ⟨y, k, m, rfl, ty.int, hE.1, hE.2⟩
    · exact hE.elim

theorem run_bound {k : IntKind} {m : Int} {y : Nat} {code : BoundsCode} (h0 : 0 ≤ m) (h1 : m.toNat ≤ y) : (Instr.sliceBound (.int k m) y code).run P w = .ok m.toNat w :=
  run_sliceBound (P := P) w k m y code h0 (by omega)

/-- both bounds -/
theorem run_bounds {isSlice : Bool} {len cap : Nat} {lo hi : Option Operand} {l hh : Nat} (hhi : (hi = none ∧ hh = len) ∨ ∃ y k m, hi = some y ∧ a.eval y = .int k m ∧ 0 ≤ m ∧ hh = m.toNat) (hlo : (lo = none ∧ l = 0) ∨ ∃ y k m, lo = some y ∧ a.eval y = .int k m ∧ 0 ≤ m ∧ l = m.toNat)
    (h1 : l ≤ hh) (h2 : hh ≤ cap) : (Instr.sliceBounds isSlice len cap (lo.map a.eval) (hi.map a.eval) none).run P w = .ok (l, hh, cap) w := by
  rcases hhi with ⟨rfl, rfl⟩ | ⟨y, k, m, rfl, e1, e2, rfl⟩ <;> rcases hlo with ⟨rfl, rfl⟩ | ⟨y', k', m', rfl, e1', e2', rfl⟩
  · simp [Instr.sliceBounds]
  · simp [Instr.sliceBounds, e1', run_bound e2' h1]
  · simp [Instr.sliceBounds, e1, run_bound e2 h2]
  · simp [Instr.sliceBounds, e1, e1', run_bound e2 h2, run_bound e2' h1]

theorem slcS_sound {o : Oper} {t : TypeId} {x : Operand} {ix : IOpd} {lo hi : Option Operand} {il ih : Option IOpd} (ho : o.op = .slice t x lo hi none) (ht : P.underlying t = some .string) (hx : compOpd x = some ix) (hl : compO lo = some il) (hh : compO hi = some ih)
    (h : SR w0 Pr0 n μ σ a w) {hid : List Nat} {K : AV → List Nat → Prop} {z : Nat} (hE : evalV hid σ K (.slc true z ix il ih)) : Yld P w0 Pr0 μ σ a w o K := by
  have tx := h.get hx
  simp only [evalV] at hE
  split at hE
  · rename_i s _ e
    rw [e] at tx
    have b1 := bound_sound hh h hE
    have key : ∃ H, ((hi = none ∧ H = s.size) ∨ ∃ y k m, hi = some y ∧ a.eval y = .int k m ∧ 0 ≤ m ∧ H = m.toNat) ∧ H ≤ s.size ∧ bound σ il 0 fun l => l ≤ H ∧ K (.str (s.extract l H)) [] := by
      rcases b1 with ⟨e1, e2, e3⟩ | ⟨y, k, m, e1, e2, e3, e4, e5⟩
      · exact ⟨_, .inl ⟨e1, rfl⟩, e2, e3⟩
      · exact ⟨_, .inr ⟨y, k, m, e1, e2, e3, rfl⟩, e4, e5⟩
    obtain ⟨H, k1, k2, k3⟩ := key
    have key2 : ∃ L, ((lo = none ∧ L = 0) ∨ ∃ y k m, lo = some y ∧ a.eval y = .int k m ∧ 0 ≤ m ∧ L = m.toNat) ∧ L ≤ H ∧ K (.str (s.extract L H)) [] := by
      rcases bound_sound hl h k3 with ⟨e1, e2, e3⟩ | ⟨y, k, m, e1, e2, e3, e4, e5⟩
      · exact ⟨_, .inl ⟨e1, rfl⟩, e2, e3⟩
      · exact ⟨_, .inr ⟨y, k, m, e1, e2, e3, rfl⟩, e4, e5⟩
    obtain ⟨L, j1, j2, j3⟩ := key2
    refine Yld.mk0 j3 ?_ (TR.of_VR (.str _))
    have hb := run_bounds (P := P) (w := w) (a := a) (isSlice := false) (len := s.size) (cap := s.size) k1 j1 j2 k2
    simp only [execOp, ho, tx.str, Option.map_none]
    simp [Instr.sliceAt, run_underlying ht, Instr.slice, hb]
  · rename_i e _; cases e
  · rename_i e _; cases e
  · exact hE.elim
end
end Go.Proofs.YtkdbphhekpdmhaaDoor
