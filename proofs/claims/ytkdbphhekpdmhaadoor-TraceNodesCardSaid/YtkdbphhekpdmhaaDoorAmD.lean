/-
  The plain machine, fourth part: what an operation of the value kind comes to is what the model's comes to.
-/
import Derived.Test.YtkdbphhekpdmhaaDoorAmC
namespace Go.Proofs.YtkdbphhekpdmhaaDoor
open Go.RowKit
set_option linter.unusedVariables false
set_option linter.unusedSimpArgs false

section
variable {P : Program} {w0 : Start} {Pr0 : Nat → Nat → Prop} {n : Nat} {μ : Nat → Option Nat} {σ : St} {a : Act} {w : World} {Pr : Nat → Nat → Prop} {H : Nat → Option Arr}

theorem TR.int {k : IntKind} {m : Int} {v : Value} (h : TR Pr μ H w (.int k m) v) : v = .int k m := by cases (show VR Pr w (.int k m) v from h); rfl
theorem TR.bool {b : Bool} {v : Value} (h : TR Pr μ H w (.bool b) v) : v = .bool b := by cases (show VR Pr w (.bool b) v from h); rfl
theorem TR.str {b : ByteArray} {v : Value} (h : TR Pr μ H w (.str b) v) : v = .string b := by cases (show VR Pr w (.str b) v from h); rfl

/-- an operation yields a value and leaves the world -/
def Yld (P : Program) (w0 : Start) (Pr0 : Nat → Nat → Prop) (μ : Nat → Option Nat) (σ : St) (a : Act) (w : World) (o : Oper) (K : AV → List Nat → Prop) : Prop :=
  ∃ d fz v, K d fz ∧ (execOp a.eval o).run P w = .ok (.value v) w ∧ TR (PrOf w0 Pr0 μ (σ.fzs fz).H) μ (σ.fzs fz).H w d v

theorem Yld.mk0 {o : Oper} {K : AV → List Nat → Prop} {d : AV} {v : Value} (hK : K d []) (hr : (execOp a.eval o).run P w = .ok (.value v) w) (ht : TR (PrOf w0 Pr0 μ σ.H) μ σ.H w d v) : Yld P w0 Pr0 μ σ a w o K :=
  ⟨d, [], v, hK, hr, ht⟩

theorem bin_sound {o : Oper} {op : BinOp} {t yt : TypeId} {x y : Operand} {ix iy : IOpd} (ho : o.op = .binOp op t x y yt) (hx : compOpd x = some ix) (hy : compOpd y = some iy)
    (h : SR w0 Pr0 n μ σ a w) {hid : List Nat} {K : AV → List Nat → Prop} (hE : evalV hid σ K (.bin op ix iy)) : Yld P w0 Pr0 μ σ a w o K := by
  have tx := h.get hx
  have ty := h.get hy
  simp only [evalV] at hE
  split at hE
  · rename_i k m k' m' e1 e2
    rw [e1] at tx; rw [e2] at ty
    have vx := tx.int
    have vy := ty.int
    obtain ⟨rfl, hE⟩ := hE
    have hrun : (execOp a.eval o).run P w = ((binOp op t (.int k m) (.int k m')).run P w).andThen fun v w' => .ok (.value v) w' := by
      simp only [execOp, ho, vx, vy]
      cases op <;> simp [eqGuard]
    cases op <;> simp only [binI] at hE <;>
      first
        | exact hE.elim
        | (refine Yld.mk0 hE (by rw [hrun]; simp only [binOp, ne_eq, not_true_eq_false, if_false, Op.intArith, Op.intBits, Op.intCmp]; rfl) (TR.of_VR ?_); first | exact .int _ _ | exact .bool _)
        | (obtain ⟨hb, hE⟩ := hE; refine Yld.mk0 hE (by rw [hrun]; simp [binOp, Op.intDiv, hb]; rfl) (TR.of_VR ?_); exact .int _ _)
  · rename_i s s' e1 e2
    rw [e1] at tx; rw [e2] at ty
    have vx := tx.str
    have vy := ty.str
    have hrun : (execOp a.eval o).run P w = ((binOp op t (.string s) (.string s')).run P w).andThen fun v w' => .ok (.value v) w' := by
      simp only [execOp, ho, vx, vy]
      cases op <;> simp [eqGuard]
    cases op <;> simp only [binS] at hE <;>
      first
        | exact hE.elim
        | (refine Yld.mk0 hE (by rw [hrun]; simp only [binOp, Op.stringOp]; rfl) (TR.of_VR ?_); exact .bool _)
        | (obtain ⟨hb, hE⟩ := hE
           have hb' : ¬ (((s.size + s'.size : Nat) : Int) > IntKind.i64.max) := by show ¬ (_ > (9223372036854775807 : Int)); omega
           refine Yld.mk0 hE (by rw [hrun]; simp only [binOp, Op.stringOp, if_neg hb']; rfl) (TR.of_VR ?_); exact .str _)
  · exact hE.elim
theorem mv_sound {o : Oper} {x : Operand} {ix : IOpd} (hr : (execOp a.eval o).run P w = .ok (.value (a.eval x)) w) (hx : compOpd x = some ix)
    (h : SR w0 Pr0 n μ σ a w) {hid : List Nat} {K : AV → List Nat → Prop} (hE : evalV hid σ K (.mv ix)) : Yld P w0 Pr0 μ σ a w o K :=
  Yld.mk0 hE hr (h.get hx)

theorem pick_sound {o : Oper} {c x y : Operand} {ic ix iy : IOpd} (ho : o.op = .pick c x y) (hc : compOpd c = some ic) (hx : compOpd x = some ix) (hy : compOpd y = some iy)
    (h : SR w0 Pr0 n μ σ a w) {hid : List Nat} {K : AV → List Nat → Prop} (hE : evalV hid σ K (.pick ic ix iy)) : Yld P w0 Pr0 μ σ a w o K := by
  have tc := h.get hc
  simp only [evalV] at hE
  split at hE
  · rename_i e
    rw [e] at tc
    exact Yld.mk0 hE (by simp [execOp, ho, tc.bool, asBool]) (h.get hx)
  · rename_i e
    rw [e] at tc
    exact Yld.mk0 hE (by simp [execOp, ho, tc.bool, asBool]) (h.get hy)
  · exact hE.elim

theorem run_equalIn_bool (d : Nat) {t : TypeId} (ht : P.underlying t = some .bool) (x y : Bool) : (Op.equalIn (d + 1) t (.bool x) (.bool y)).run P w = .ok (x == y) w := by
  simp only [Op.equalIn, Sem.run_bind, run_underlying ht, Result.andThen_ok]
  rfl

theorem run_equal_bool {t : TypeId} (ht : P.underlying t = some .bool) (x y : Bool) : (Op.equal t (.bool x) (.bool y)).run P w = .ok (x == y) w := run_equalIn_bool 9999 ht x y

theorem beq_sound {o : Oper} {op : BinOp} {neq : Bool} {t yt : TypeId} {x y : Operand} {ix iy : IOpd} (ho : o.op = .binOp op t x y yt) (hop : op = if neq then .neq else .eql) (ht : P.underlying t = some .bool) (hx : compOpd x = some ix) (hy : compOpd y = some iy)
    (h : SR w0 Pr0 n μ σ a w) {hid : List Nat} {K : AV → List Nat → Prop} (hE : evalV hid σ K (.beq neq ix iy)) : Yld P w0 Pr0 μ σ a w o K := by
  have tx := h.get hx
  have ty := h.get hy
  simp only [evalV] at hE
  split at hE
  · rename_i b b' e1 e2
    rw [e1] at tx; rw [e2] at ty
    have vx := tx.bool
    have vy := ty.bool
    refine Yld.mk0 hE ?_ (TR.of_VR (.bool _))
    have he := run_equal_bool (P := P) (w := w) ht b b'
    subst hop
    cases neq
    · simp only [execOp, ho, vx, vy, Bool.false_eq_true, if_false]
      simp [eqGuard, binOp, he]
    · simp only [execOp, ho, vx, vy, if_true]
      simp [eqGuard, binOp, he]
  · exact hE.elim

theorem un_sound {o : Oper} {op : UnOp} {t : TypeId} {x : Operand} {ix : IOpd} (ho : o.op = .unOp op t x) (hx : compOpd x = some ix)
    (h : SR w0 Pr0 n μ σ a w) {hid : List Nat} {K : AV → List Nat → Prop} (hE : evalV hid σ K (.un op ix)) : Yld P w0 Pr0 μ σ a w o K := by
  have tx := h.get hx
  simp only [evalV] at hE
  split at hE
  · rename_i b e
    rw [e] at tx
    exact Yld.mk0 hE (by simp [execOp, ho, tx.bool, Op.unary]) (TR.of_VR (.bool _))
  · rename_i k m e
    rw [e] at tx
    exact Yld.mk0 hE (by simp [execOp, ho, tx.int, Op.unary, Op.intArith]) (TR.of_VR (.int _ _))
  · exact hE.elim

theorem VR.get_tup {vs : List AV} {v : Value} (h : VR Pr w (.tup vs) v) {i : Nat} {c : AV} (hi : vs[i]? = some c) : ∃ (l : List Value) (u : Value), v = .tuple l.toArray ∧ l[i]? = some u ∧ VR Pr w c u := by
  cases h with
  | tup _ l hl h =>
    have hlt := (List.getElem?_eq_some_iff.1 hi).1
    exact ⟨l, l[i]'(by omega), rfl, List.getElem?_eq_getElem _, h i c _ hi (List.getElem?_eq_getElem _)⟩

theorem ext_sound {o : Oper} {x : Operand} {ix : IOpd} {i : Nat} (ho : o.op = .extract x i) (hx : compOpd x = some ix)
    (h : SR w0 Pr0 n μ σ a w) {hid : List Nat} {K : AV → List Nat → Prop} (hE : evalV hid σ K (.ext i ix)) : Yld P w0 Pr0 μ σ a w o K := by
  have tx := h.get hx
  simp only [evalV] at hE
  split at hE
  · rename_i vs e
    rw [e] at tx
    split at hE
    · rename_i c hc
      obtain ⟨l, u, hv, hu, hr⟩ := VR.get_tup (show VR _ _ _ _ from tx) hc
      have hu' : l.toArray[i]? = some u := by rw [List.getElem?_toArray]; exact hu
      exact Yld.mk0 hE (by simp [execOp, ho, hv, Instr.extract, hu]) (TR.of_VR hr)
    · exact hE.elim
  · exact hE.elim

/-- z cells that read one by one, as a value -/
theorem cellsV_sound {agg : Bool} {z : Nat} {cs : List AV} {us : List Value} {K : AV → Prop} (hE : cellsV agg z cs K) (hl : cs.length ≤ us.length) (h : ∀ (j : Nat) (c : AV) (u : Value), cs[j]? = some c → us[j]? = some u → VR Pr w c u) :
    ∃ d, K d ∧ if agg then z ≤ us.length ∧ VR Pr w d (.agg (us.take z).toArray) else ∃ u, us[0]? = some u ∧ VR Pr w d u := by
  unfold cellsV at hE
  cases agg with
  | true =>
    simp only [if_true] at hE ⊢
    refine ⟨_, hE.2, by omega, .agg _ _ (by rw [List.length_take, List.length_take]; omega) fun j c v hc hv => ?_⟩
    rw [List.getElem?_take] at hc hv
    split at hc
    · rename_i hj
      rw [if_pos hj] at hv
      exact h j c v hc hv
    · cases hc
  | false =>
    simp only [Bool.false_eq_true, if_false] at hE ⊢
    match cs, hE with
    | c :: cs', hE =>
      have hlt : 0 < us.length := by simp at hl; omega
      exact ⟨c, hE, us[0], List.getElem?_eq_getElem hlt, h 0 c _ rfl (List.getElem?_eq_getElem hlt)⟩

/-- a load of cells that read as 'us' -/
theorem run_loadAt {t : TypeId} {z : Nat} {agg : Bool} (ht : tyOf P t = some (z, agg)) (hz : (agg || z == 1) = true) {b o : Nat} {us : List Value} {d : AV} (hlt : ∀ (j : Nat) (u : Value), us[j]? = some u → w.cell? ⟨b, o + j, none⟩ = some u)
    (hd : if agg then z ≤ us.length ∧ VR Pr w d (.agg (us.take z).toArray) else ∃ u, us[0]? = some u ∧ VR Pr w d u) :
    ∃ v, (Instr.loadAt t (.pointer (some ⟨b, o, none⟩))).run P w = .ok v w ∧ VR Pr w d v := by
  unfold tyOf at ht
  split at ht
  · rename_i i ds hi hu
    injection ht with ht
    injection ht with h1 h2
    subst h1
    have hagg : (isAgg t).run P w = .ok agg w := by
      unfold isAgg
      rw [Sem.run_bind, run_underlying hu]
      rw [← h2]
      cases ds <;> rfl
    have hadd : ∀ j, (⟨b, o, none⟩ : Addr).add j = ⟨b, o + j, none⟩ := fun j => by
      unfold Addr.add
      split
      · rename_i e; rw [e]; rfl
      · rfl
    cases agg with
    | true =>
      simp only [if_true] at hd
      have hl := run_loadCells_list (P := P) w ⟨b, o, none⟩ (us.take i.size) (fun j v hj => by
        rw [hadd]
        rw [List.getElem?_take] at hj
        split at hj
        · exact hlt j v hj
        · cases hj)
      rw [List.length_take, Nat.min_eq_left hd.1] at hl
      refine ⟨_, ?_, hd.2⟩
      simp [Instr.loadAt, Instr.sureAddr, loadVar, hagg, sizeOf, typeInfo, hi, hl]
    | false =>
      simp only [Bool.false_eq_true, if_false] at hd
      obtain ⟨u, hu0, hv⟩ := hd
      have := hlt 0 u hu0
      refine ⟨u, ?_, hv⟩
      simp [Instr.loadAt, Instr.sureAddr, loadVar, hagg, show w.cell? ⟨b, o, none⟩ = some u from this]
  · cases ht

theorem load_core {t : TypeId} {z : Nat} {agg : Bool} {x : Operand} {ix : IOpd} (ht : tyOf P t = some (z, agg)) (hz : (agg || z == 1) = true) (hx : compOpd x = some ix)
    (h : SR w0 Pr0 n μ σ a w) {hid : List Nat} {K : AV → List Nat → Prop} (hE : evalV hid σ K (.load z agg ix)) : ∃ d v ad, K d [] ∧ a.eval x = .pointer (some ad) ∧ (Instr.loadAt t (a.eval x)).run P w = .ok v w ∧ VR (PrOf w0 Pr0 μ σ.H) w d v := by
  have tx := h.get hx
  simp only [evalV] at hE
  split at hE
  · rename_i cs e
    rw [e] at tx
    have tx' : VR (PrOf w0 Pr0 μ σ.H) w (.rp cs) (a.eval x) := tx
    generalize hv : a.eval x = v at tx'
    cases tx' with
    | rp _ b off u hb hc hr =>
      obtain ⟨d, hK, hd⟩ := cellsV_sound (w := w) (Pr := PrOf w0 Pr0 μ σ.H) (us := (List.range cs.length).map u) hE (by simp) (fun j c u' hj hu' => by
        have hlt := (List.getElem?_eq_some_iff.1 hj).1
        simp [hlt] at hu'
        subst hu'
        exact hr j c hj)
      obtain ⟨v, h1, h2⟩ := run_loadAt (P := P) ht hz (b := b) (o := off) (us := (List.range cs.length).map u) (fun j u' hu' => by
        have hlt : j < cs.length := by have := (List.getElem?_eq_some_iff.1 hu').1; simpa using this
        simp [hlt] at hu'
        subst hu'
        exact (hc j hlt).2) hd
      exact ⟨d, v, _, hK, rfl, h1, h2⟩
  · rename_i r i f e
    rw [e] at tx
    obtain ⟨hh, hE⟩ := hE
    split at hE
    · rename_i arr ha
      split at hE
      · rename_i d0 hi
        obtain ⟨g, hg, hv⟩ := tx arr ha
        obtain ⟨o1, o2, o3, o4⟩ := h.obj r arr ha
        rw [hg] at o4
        rcases o4 with ⟨q, _⟩ | ⟨cs, f1, f2, f3⟩
        · rw [q] at hi; simp at hi
        have hil : i < arr.cells.length := (List.getElem?_eq_some_iff.1 hi).1
        have hdl := (o3 d0 (List.mem_of_getElem? hi)).1
        have hcs : ∀ j, j < arr.z → ∃ u, cs[i * arr.z + j]? = some u := fun j hj => ⟨_, Array.getElem?_eq_getElem (by have := idx_lt hil hj; omega)⟩
        obtain ⟨d, hK, hd⟩ := cellsV_sound (w := w) (Pr := PrOf w0 Pr0 μ σ.H) (us := (List.range (arr.z - f)).map fun j => cs.getD (i * arr.z + (f + j)) undef) hE (by simp [hdl]) (fun j c u' hj hu' => by
          rw [List.getElem?_drop] at hj
          have hlt : f + j < arr.z := by have := (List.getElem?_eq_some_iff.1 hj).1; omega
          obtain ⟨u, q1, q2⟩ := f3 i d0 (f + j) c hi hj
          simp [show j < arr.z - f by omega] at hu'
          rw [q1] at hu'
          simp at hu'
          subst hu'
          exact q2)
        obtain ⟨v, h1, h2⟩ := run_loadAt (P := P) ht hz (b := g) (o := i * arr.z + f) (us := (List.range (arr.z - f)).map fun j => cs.getD (i * arr.z + (f + j)) undef) (fun j u' hu' => by
          have hlt : j < arr.z - f := by have := (List.getElem?_eq_some_iff.1 hu').1; simpa using this
          obtain ⟨u, q1⟩ := hcs (f + j) (by omega)
          simp [hlt] at hu'
          rw [q1] at hu'
          simp at hu'
          subst hu'
          rw [cell_row f1, Nat.add_assoc]
          exact q1) hd
        exact ⟨d, v, _, hK, hv, by rw [hv]; exact h1, h2⟩
      · exact hE.elim
    · exact hE.elim
  · exact hE.elim

theorem load_sound {o : Oper} {t : TypeId} {z : Nat} {agg : Bool} {x : Operand} {ix : IOpd} (ho : o.op = .load t x) (ht : tyOf P t = some (z, agg)) (hz : (agg || z == 1) = true) (hx : compOpd x = some ix)
    (h : SR w0 Pr0 n μ σ a w) {hid : List Nat} {K : AV → List Nat → Prop} (hE : evalV hid σ K (.load z agg ix)) : Yld P w0 Pr0 μ σ a w o K := by
  obtain ⟨d, v, ad, hK, hv, hr, h2⟩ := load_core ht hz hx h hE
  exact Yld.mk0 hK (by simp only [execOp, ho, Sem.run_bind, hr]; rfl) (TR.of_VR h2)
end
end Go.Proofs.YtkdbphhekpdmhaaDoor
