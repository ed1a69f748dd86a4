/-
  The plain machine, sixth part: slices of slices, function values; all operations of the value kind together.
-/
import Derived.Test.YtkdbphhekpdmhaaDoorAmE
import Derived.Laws.StructEq
namespace Go.Proofs.YtkdbphhekpdmhaaDoor
open Go.RowKit
set_option linter.unusedVariables false
set_option linter.unusedSimpArgs false

section
variable {P : Program} {w0 : Start} {Pr0 : Nat → Nat → Prop} {n : Nat} {μ : Nat → Option Nat} {σ : St} {a : Act} {w : World} {Pr : Nat → Nat → Prop} {H : Nat → Option Arr}

/-- what is frozen in order to be read by others -/
theorem fzs_all {σ : St} {f : List Nat} : ∀ s arr, σ.H s = some arr → ∃ arr', (σ.fzs f).H s = some arr' ∧ Frozen arr arr' ∧ (s ∈ f → arr'.prot = arr.cells.length) := fun s arr h => fzs_H h

theorem VR.sl_len {l : List AV} {A : Option Addr} {N cap : Nat} (h : VR Pr w (.sl l) (.slice A N cap)) : l.length = N := by
  generalize hv : Value.slice A N cap = v at h
  cases h with
  | sl => cases hv; rfl

theorem VR.slice {l : List AV} {A : Option Addr} {N cap z L H : Nat} (h : VR Pr w (.sl l) (.slice A N cap)) (hz : ∀ d ∈ l, d.cells.length = z) (h1 : L ≤ H) (h2 : H ≤ l.length) :
    VR Pr w (.sl ((l.take H).drop L)) (.slice (if cap = L then A else A.map (·.add (L * z))) (H - L) (cap - L)) := by
  cases h with
  | sl _ _ _ z' u hcap hmax hA hr =>
    have hlen : ((l.take H).drop L).length = H - L := by rw [List.length_drop, List.length_take]; omega
    have hget : ∀ i, i < H - L → ((l.take H).drop L)[i]? = l[L + i]? := fun i hi => by rw [List.getElem?_drop, List.getElem?_take, if_pos (by omega)]
    rw [← hlen]
    refine .sl _ _ _ z (fun i j => u (L + i) j) (by rw [hlen]; omega) (by omega) (fun h0 => ?_) (fun i d j c hi hj => ?_)
    · rw [hlen] at h0
      obtain ⟨b, off, rfl, hL⟩ := hA (by omega)
      have hzz : z' = z := by
        have h0' : 0 < l.length := by omega
        rw [← hL.len l[0] (List.getElem_mem h0'), hz l[0] (List.getElem_mem h0')]
      subst hzz
      refine ⟨b, off + L * z', ?_, hL.lt, fun d hd => hz d (List.mem_of_mem_take (List.mem_of_mem_drop hd)), fun i j hi hj => ?_⟩
      · rw [if_neg (by omega)]
        show some (Addr.add _ _) = _
        rw [add_none]
      · rw [hlen] at hi
        have := hL.at_ (L + i) j (by omega) hj
        rw [show off + L * z' + (i * z' + j) = off + ((L + i) * z' + j) by rw [Nat.add_mul]; omega]
        exact this
    · have hil : i < H - L := by have := (List.getElem?_eq_some_iff.1 hi).1; rw [hlen] at this; exact this
      rw [hget i hil] at hi
      exact hr _ d j c hi hj

theorem slcL_sound {o : Oper} {t e : TypeId} {q : TypeInfo} {x : Operand} {ix : IOpd} {lo hi : Option Operand} {il ih : Option IOpd} (ho : o.op = .slice t x lo hi none) (ht : P.underlying t = some (.slice e)) (hq : P.info? e = some q) (hz : ¬ q.size = 0) (hx : compOpd x = some ix) (hl : compO lo = some il) (hh : compO hi = some ih)
    (h : SR w0 Pr0 n μ σ a w) {hid : List Nat} {K : AV → List Nat → Prop} (hE : evalV hid σ K (.slc false q.size ix il ih)) : Yld P w0 Pr0 μ σ a w o K := by
  have tx := h.get hx
  have hrun : ∀ A N cap L H, a.eval x = .slice A N cap → (Instr.sliceBounds true N cap (lo.map a.eval) (hi.map a.eval) none).run P w = .ok (L, H, cap) w →
      (execOp a.eval o).run P w = .ok (.value (.slice (if cap = L then A else A.map (·.add (L * q.size))) (H - L) (cap - L))) w := by
    intro A N cap L H hv hb
    simp only [execOp, ho, hv, Option.map_none]
    simp [Instr.sliceAt, run_underlying ht, Instr.slice, hb, sizeOf, typeInfo, hq]
  simp only [evalV] at hE
  split at hE
  · rename_i e1 _; cases e1
  · rename_i l _ e1
    rw [e1] at tx
    have tx' : VR (PrOf w0 Pr0 μ σ.H) w (.sl l) (a.eval x) := tx
    obtain ⟨A, cap, hv, hcap⟩ : ∃ A cap, a.eval x = .slice A l.length cap ∧ l.length ≤ cap := by
      generalize a.eval x = v at tx'
      cases tx' with
      | sl _ A cap z u hcap hmax hA hr => exact ⟨A, cap, rfl, hcap⟩
    rw [hv] at tx'
    have key : ∃ H, ((hi = none ∧ H = l.length) ∨ ∃ y k m, hi = some y ∧ a.eval y = .int k m ∧ 0 ≤ m ∧ H = m.toNat) ∧ H ≤ l.length ∧ bound σ il 0 fun m => m ≤ H ∧ (∀ d ∈ l, d.cells.length = q.size) ∧ K (.sl ((l.take H).drop m)) [] := by
      rcases bound_sound hh h hE with ⟨e1, e2, e3⟩ | ⟨y, k, m, e1, e2, e3, e4, e5⟩
      · exact ⟨_, .inl ⟨e1, rfl⟩, e2, e3⟩
      · exact ⟨_, .inr ⟨y, k, m, e1, e2, e3, rfl⟩, e4, e5⟩
    obtain ⟨H, k1, k2, k3⟩ := key
    have key2 : ∃ L, ((lo = none ∧ L = 0) ∨ ∃ y k m, lo = some y ∧ a.eval y = .int k m ∧ 0 ≤ m ∧ L = m.toNat) ∧ L ≤ H ∧ (∀ d ∈ l, d.cells.length = q.size) ∧ K (.sl ((l.take H).drop L)) [] := by
      rcases bound_sound hl h k3 with ⟨e1, e2, e3⟩ | ⟨y, k, m, e1, e2, e3, e4, e5⟩
      · exact ⟨_, .inl ⟨e1, rfl⟩, e2, e3⟩
      · exact ⟨_, .inr ⟨y, k, m, e1, e2, e3, rfl⟩, e4, e5⟩
    obtain ⟨L, j1, j2, j3, j4⟩ := key2
    exact Yld.mk0 j4 (hrun _ _ _ _ _ hv (run_bounds k1 j1 j2 (by omega))) (TR.of_VR (VR.slice tx' j3 j2 k2))
  · rename_i r off len _ e1
    rw [e1] at tx
    obtain ⟨hh', hE⟩ := hE
    split at hE
    · rename_i arr ha
      obtain ⟨hz', hE⟩ := hE
      have key : ∃ H, ((hi = none ∧ H = len) ∨ ∃ y k m, hi = some y ∧ a.eval y = .int k m ∧ 0 ≤ m ∧ H = m.toNat) ∧ H ≤ len ∧ slcEnd σ arr.cells r off H K il := by
        rcases bound_sound hh h hE with ⟨e1, e2, e3⟩ | ⟨y, k, m, e1, e2, e3, e4, e5⟩
        · exact ⟨_, .inl ⟨e1, rfl⟩, e2, e3⟩
        · exact ⟨_, .inr ⟨y, k, m, e1, e2, e3, rfl⟩, e4, e5⟩
      obtain ⟨H, k1, k2, k3⟩ := key
      cases il with
      | none =>
        have hlo := compO_none hl
        simp only [slcEnd] at k3
        rcases tx arr ha with ⟨m1, m2, m3, m4⟩ | ⟨g, cap, cs, m1, m2, m3, m4, m5, m6, m7⟩
        · have e0 : H = 0 := by omega
          subst e0
          refine Yld.mk0 k3 (hrun _ _ _ 0 0 m2 (run_bounds (by rcases k1 with ⟨a1, a2⟩ | a1; exact .inl ⟨a1, a2.trans m4⟩; exact .inr a1) (.inl ⟨hlo, rfl⟩) (Nat.le_refl _) (Nat.le_refl _))) ?_
          intro arr' ha'
          exact .inl ⟨m1, by simp, m3, rfl⟩
        · refine Yld.mk0 k3 (hrun _ _ _ 0 H m2 (run_bounds k1 (.inl ⟨hlo, rfl⟩) (Nat.zero_le _) (by omega))) ?_
          intro arr' ha'
          rw [ha] at ha'; cases ha'
          refine .inr ⟨g, cap, cs, m1, ?_, m3, m4, by omega, by omega, m7⟩
          rw [Nat.zero_mul, Nat.sub_zero, Nat.sub_zero]
          split
          · rfl
          · show Value.slice (some (Addr.add _ _)) _ _ = _
            rw [add_none]; rfl
      | some lo' =>
        simp only [slcEnd] at k3
        have key2 : ∃ L, ((lo = none ∧ L = 0) ∨ ∃ y k m, lo = some y ∧ a.eval y = .int k m ∧ 0 ≤ m ∧ L = m.toNat) ∧ L ≤ H ∧ K (.sl ((arr.cells.drop (off + L)).take (H - L))) [r] := by
          rcases bound_sound hl h k3 with ⟨e1, e2, e3⟩ | ⟨y, k, m, e1, e2, e3, e4, e5⟩
          · exact ⟨_, .inl ⟨e1, rfl⟩, e2, e3⟩
          · exact ⟨_, .inr ⟨y, k, m, e1, e2, e3, rfl⟩, e4, e5⟩
        obtain ⟨L, j1, j2, j3⟩ := key2
        obtain ⟨A, cap, hv, hlc⟩ : ∃ A cap, a.eval x = .slice A len cap ∧ len ≤ cap := by
          rcases tx arr ha with ⟨m1, m2, m3, m4⟩ | ⟨g, cap, cs, m1, m2, m3, m4, m5, m6, m7⟩
          · exact ⟨none, 0, by rw [m2, m4], by omega⟩
          · exact ⟨_, cap, m2, m6⟩
        have hall : VR (PrOf w0 Pr0 μ (σ.fzs [r]).H) w (.sl ((arr.cells.drop off).take len)) (.slice A len cap) := by
          rw [← hv]
          refine h.byval (hid := hid) (f := [r]) ?_ tx (SR.fzs h) fzs_all
          simp only [St.byval, hh', ha]
          rfl
        have hlen : ((arr.cells.drop off).take len).length = len := hall.sl_len
        refine ⟨_, [r], _, j3, hrun _ _ _ L H hv (run_bounds k1 j1 j2 (by omega)), TR.of_VR ?_⟩
        have hs := VR.slice (z := q.size) hall (fun d hd => by rw [((h.obj r arr ha).2.2.1 d (List.mem_of_mem_drop (List.mem_of_mem_take hd))).1]; exact hz') j2 (by rw [hlen]; exact k2)
        have e : (((arr.cells.drop off).take len).take H).drop L = (arr.cells.drop (off + L)).take (H - L) := by
          rw [List.take_take, Nat.min_eq_left k2, List.drop_take, List.drop_drop]
        rw [e] at hs
        exact hs
    · exact hE.elim
  · exact hE.elim

/-- values that lead into frozen objects read by themselves -/
theorem SR.byvals (h : SR w0 Pr0 n μ σ a w) {hid : List Nat} {σ' : St} (h' : SR w0 Pr0 n μ σ' a w) : ∀ {ds ds' : List AV} {vs : List Value} {f : List Nat}, σ.byvals hid ds = some (ds', f) → ds.length = vs.length →
    (∀ (j : Nat) (d : AV) (v : Value), ds[j]? = some d → vs[j]? = some v → TR (PrOf w0 Pr0 μ σ.H) μ σ.H w d v) →
    (∀ s arr, σ.H s = some arr → ∃ arr', σ'.H s = some arr' ∧ Frozen arr arr' ∧ (s ∈ f → arr'.prot = arr.cells.length)) →
    ds'.length = vs.length ∧ ∀ (j : Nat) (d : AV) (v : Value), ds'[j]? = some d → vs[j]? = some v → VR (PrOf w0 Pr0 μ σ'.H) w d v
  | [], ds', vs, f, hd, hl, _, _ => by
    simp only [St.byvals, Option.some.injEq, Prod.mk.injEq] at hd
    obtain ⟨rfl, _⟩ := hd
    exact ⟨hl, fun j d v h => by simp at h⟩
  | d :: ds, ds', [], f, hd, hl, _, _ => by simp at hl
  | d :: ds, ds', v :: vs, f, hd, hl, hv, hf => by
    simp only [St.byvals] at hd
    split at hd
    · rename_i e1 f1 h1
      split at hd
      · rename_i e2 f2 h2
        cases hd
        obtain ⟨k1, k2⟩ := SR.byvals h h' h2 (by simpa using hl) (fun j d' v' hj hj' => hv (j + 1) d' v' hj hj') (fun s arr hs => by
          obtain ⟨a', q1, q2, q3⟩ := hf s arr hs
          exact ⟨a', q1, q2, fun hm => q3 (List.mem_append.2 (.inr hm))⟩)
        have k0 := h.byval h1 (hv 0 d v rfl rfl) h' (fun s arr hs => by
          obtain ⟨a', q1, q2, q3⟩ := hf s arr hs
          exact ⟨a', q1, q2, fun hm => q3 (List.mem_append.2 (.inl hm))⟩)
        refine ⟨by simp [k1], fun j d' v' hj hj' => ?_⟩
        cases j with
        | zero => cases hj; cases hj'; exact k0
        | succ j => exact k2 j d' v' hj hj'
      · cases hd
    · cases hd

theorem compOpds_get : ∀ {l : List Operand} {il : List IOpd}, compOpds l = some il → l.length = il.length ∧ ∀ (j : Nat) (x : Operand) (i : IOpd), l[j]? = some x → il[j]? = some i → compOpd x = some i
  | [], il, h => by
    cases h
    exact ⟨rfl, fun j x i h => by simp at h⟩
  | x :: l, il, h => by
    simp only [compOpds] at h
    split at h
    · rename_i y ys h1 h2
      cases h
      obtain ⟨k1, k2⟩ := compOpds_get h2
      refine ⟨by simp [k1], fun j x' i hj hj' => ?_⟩
      cases j with
      | zero => cases hj; cases hj'; exact h1
      | succ j => exact k2 j x' i hj hj'
    · cases h

/-- operands, one by one -/
theorem SR.gets (h : SR w0 Pr0 n μ σ a w) {l : List Operand} {il : List IOpd} (hl : compOpds l = some il) :
    (il.map σ.get).length = (l.map a.eval).length ∧ ∀ (j : Nat) (d : AV) (v : Value), (il.map σ.get)[j]? = some d → (l.map a.eval)[j]? = some v → TR (PrOf w0 Pr0 μ σ.H) μ σ.H w d v := by
  obtain ⟨k1, k2⟩ := compOpds_get hl
  refine ⟨by simp [k1], fun j d v hj hj' => ?_⟩
  rw [List.getElem?_map, Option.map_eq_some_iff] at hj hj'
  obtain ⟨i, hi, rfl⟩ := hj
  obtain ⟨x, hx, rfl⟩ := hj'
  exact h.get (k2 j x i hx hi)

theorem mkfn_sound {o : Oper} {f : FuncId} {first caps : Array Operand} {i1 i2 : List IOpd} (ho : o.op = .makeFunc (.func f) first caps) (h1 : compOpds first.toList = some i1) (h2 : compOpds caps.toList = some i2)
    (h : SR w0 Pr0 n μ σ a w) {hid : List Nat} {K : AV → List Nat → Prop} (hE : evalV hid σ K (.mkfn f i1 i2)) : Yld P w0 Pr0 μ σ a w o K := by
  simp only [evalV] at hE
  split at hE
  · rename_i vf f1 vc f2 e1 e2
    obtain ⟨l1, t1⟩ := h.gets h1
    obtain ⟨l2, t2⟩ := h.gets h2
    have hS : SR w0 Pr0 n μ (σ.fzs (f1 ++ f2)) a w := SR.fzs h
    obtain ⟨m1, b1⟩ := h.byvals hS e1 l1 t1 (fun s arr hs => by
      obtain ⟨a', q1, q2, q3⟩ := fzs_all (f := f1 ++ f2) s arr hs
      exact ⟨a', q1, q2, fun hm => q3 (List.mem_append.2 (.inl hm))⟩)
    obtain ⟨m2, b2⟩ := h.byvals hS e2 l2 t2 (fun s arr hs => by
      obtain ⟨a', q1, q2, q3⟩ := fzs_all (f := f1 ++ f2) s arr hs
      exact ⟨a', q1, q2, fun hm => q3 (List.mem_append.2 (.inr hm))⟩)
    refine ⟨_, f1 ++ f2, _, hE, ?_, TR.of_VR (.clo f vf vc _ _ m1 m2 b1 b2)⟩
    simp only [execOp, ho, Instr.makeFunc]
    simp
    exact ⟨by apply Array.ext'; simp, by apply Array.ext'; simp⟩
  · exact hE.elim

/-! ### '==' of structs -/

theorem part_of {t : TypeId} {i : TypeInfo} {d : TypeDesc} (hi : P.info? t = some i) (hu : P.underlying t = some d) (xs : Array Value) (off : Nat) :
    (part t xs off).run P w = if isAggD d then .ok (.agg (xs.extract off (off + i.size))) w else match xs[off]? with
      | some v => .ok v w
      | none => .halt (.stuck "part: no such cell") w := by
  have hagg : (isAgg t).run P w = .ok (isAggD d) w := by
    unfold isAgg
    rw [Sem.run_bind, run_underlying hu]
    cases d <;> rfl
  unfold part
  rw [Sem.run_bind, hagg]
  simp only [Result.andThen_ok]
  cases isAggD d with
  | true => simp [sizeOf, typeInfo, hi]
  | false =>
    simp only [Bool.false_eq_true, if_false]
    cases xs[off]? <;> simp [stuck]

/-- the cells that '==' looks at are of one kind on both sides -/
def Fits (xs ys : List AV) (us vs : Array Value) (sh : List (Nat × Nat)) : Prop :=
  ∀ p, p ∈ sh → ∃ a b, cellFit p.2 (xs.getD p.1 .und) (ys.getD p.1 .und) ∧ us[p.1]? = some a ∧ vs[p.1]? = some b ∧ VR Pr w (xs.getD p.1 .und) a ∧ VR Pr w (ys.getD p.1 .und) b

theorem cell_equal {t : TypeId} {k : Nat} {dd : TypeDesc} (hu : P.underlying t = some dd) (hk : (∃ q, dd = .int q ∧ k = 0) ∨ (dd = .string ∧ k = 1) ∨ (dd = .bool ∧ k = 2)) {x y : AV} {a b : Value} (hf : cellFit k x y) (ha : VR Pr w x a) (hb : VR Pr w y b) (D : Nat) :
    (Op.equalIn (D + 1) t a b).run P w = .ok (cellEq x y) w := by
  unfold cellFit at hf
  split at hf
  · obtain ⟨rfl, rfl⟩ := hf
    cases ha; cases hb
    rcases hk with ⟨q, rfl, _⟩ | ⟨_, h⟩ | ⟨_, h⟩
    · exact run_equalIn_int w D t _ q _ _ hu
    · cases h
    · cases h
  · subst hf
    cases ha; cases hb
    rcases hk with ⟨q, _, h⟩ | ⟨rfl, _⟩ | ⟨_, h⟩
    · cases h
    · exact run_equalIn_string w D t _ _ hu
    · cases h
  · subst hf
    cases ha; cases hb
    rcases hk with ⟨q, _, h⟩ | ⟨_, h⟩ | ⟨rfl, _⟩
    · cases h
    · cases h
    · exact Go.run_equalIn_bool w D t _ _ hu
  · exact hf.elim

theorem valF_append (xs ys : List AV) : ∀ (l m : List (Nat × Nat)), valF xs ys (l ++ m) = (valF xs ys l && valF xs ys m)
  | [], m => by simp [valF]
  | p :: l, m => by simp [valF, valF_append xs ys l m, Bool.and_assoc]

/-- the value of a type, among a struct's cells -/
theorem shape_equal : ∀ (d : Nat) {t : TypeId} {i : TypeInfo} {dd : TypeDesc} {sh : List (Nat × Nat)}, shapeOf P d t = some sh → P.info? t = some i → P.underlying t = some dd → (∀ p, p ∈ sh → p.1 < i.size) →
    ∀ {xs ys : List AV} {us vs : Array Value} {off : Nat}, Fits (Pr := Pr) (w := w) xs ys us vs (sh.map fun p => (off + p.1, p.2)) → ∀ (D : Nat), d ≤ D →
    ∃ a b, (part t us off).run P w = .ok a w ∧ (part t vs off).run P w = .ok b w ∧ (Op.equalIn D t a b).run P w = .ok (valF xs ys (sh.map fun p => (off + p.1, p.2))) w
  | 0, t, i, dd, sh, hs, _, _, _, xs, ys, us, vs, off, _, D, _ => by simp [shapeOf] at hs
  | d + 1, t, i, dd, sh, hs, hi, hu, hlt, xs, ys, us, vs, off, hF, D, hD => by
    obtain ⟨D', rfl⟩ : ∃ D', D = D' + 1 := ⟨D - 1, by omega⟩
    simp only [shapeOf, hu] at hs
    have leaf : ∀ k, sh = [(0, k)] → isAggD dd = false → ((∃ q, dd = .int q ∧ k = 0) ∨ (dd = .string ∧ k = 1) ∨ (dd = .bool ∧ k = 2)) →
        ∃ a b, (part t us off).run P w = .ok a w ∧ (part t vs off).run P w = .ok b w ∧ (Op.equalIn (D' + 1) t a b).run P w = .ok (valF xs ys (sh.map fun p => (off + p.1, p.2))) w := by
      intro k hsh hagg hk
      subst hsh
      obtain ⟨a, b, f1, f2, f3, f4, f5⟩ := hF (off + 0, k) (by simp)
      refine ⟨a, b, ?_, ?_, ?_⟩
      · rw [part_of hi hu, hagg]; simp only [Bool.false_eq_true, if_false]; rw [show us[off]? = some a from f2]
      · rw [part_of hi hu, hagg]; simp only [Bool.false_eq_true, if_false]; rw [show vs[off]? = some b from f3]
      · rw [cell_equal hu hk f1 f4 f5]
        simp [valF]
    cases dd with
    | int q => cases hs; exact leaf 0 rfl rfl (.inl ⟨q, rfl, rfl⟩)
    | string => cases hs; exact leaf 1 rfl rfl (.inr (.inl ⟨rfl, rfl⟩))
    | bool => cases hs; exact leaf 2 rfl rfl (.inr (.inr ⟨rfl, rfl⟩))
    | struct fs =>
      simp only at hs
      split at hs
      · cases hs
      · rename_i hst
        have hst' : P.stoodInHeld t = false := by simpa using hst
        refine ⟨.agg (us.extract off (off + i.size)), .agg (vs.extract off (off + i.size)), by rw [part_of hi hu]; rfl, by rw [part_of hi hu]; rfl, ?_⟩
        have hfo : P.fieldsOf t = fs := by simp [Program.fieldsOf, hu]
        rw [run_equalIn_struct w D' t _ _ (by rw [hfo]; exact hu) hst', hfo]
        -- the fields, one by one
        generalize fs.toList = fl at hs
        clear hst leaf hfo hu
        induction fl generalizing sh with
        | nil =>
          simp only [List.foldr_nil, Option.some.injEq] at hs
          subst hs
          simp [Op.eqFields, valF]
        | cons f fl ih =>
          simp only [List.foldr_cons] at hs
          split at hs
          · rename_i l j hacc hj
            split at hs
            · cases hs
            · rename_i hname
              split at hs
              · rename_i s hsf
                split at hs
                · rename_i hall
                  cases hs
                  have hall' : ∀ p, p ∈ s → p.1 < j.size := fun p hp => by
                    have := List.all_eq_true.1 hall p hp
                    simpa using this
                  obtain ⟨df, hdf⟩ : ∃ df, P.underlying f.type = some df := by
                    cases d with
                    | zero => simp [shapeOf] at hsf
                    | succ d =>
                      simp only [shapeOf] at hsf
                      cases hu2 : P.underlying f.type with
                      | none => rw [hu2] at hsf; cases hsf
                      | some df => exact ⟨df, rfl⟩
                  -- the field's cells, in the struct's own cells
                  have hsub : Fits (Pr := Pr) (w := w) ((xs.drop off).take i.size) ((ys.drop off).take i.size) (us.extract off (off + i.size)) (vs.extract off (off + i.size)) (s.map fun p => (f.offset + p.1, p.2)) := by
                    intro p hp
                    obtain ⟨q, hq, rfl⟩ := List.mem_map.1 hp
                    have hlq := hlt (f.offset + q.1, q.2) (List.mem_append.2 (.inl (List.mem_map.2 ⟨q, hq, rfl⟩)))
                    simp only at hlq
                    obtain ⟨a, b, f1, f2, f3, f4, f5⟩ := hF (off + (f.offset + q.1), q.2) (List.mem_map.2 ⟨(f.offset + q.1, q.2), List.mem_append.2 (.inl (List.mem_map.2 ⟨q, hq, rfl⟩)), rfl⟩)
                    simp only at f1 f2 f3 f4 f5
                    have g : ∀ zs : List AV, ((zs.drop off).take i.size).getD (f.offset + q.1) .und = zs.getD (off + (f.offset + q.1)) .und := fun zs => by
                      rw [List.getD_eq_getElem?_getD, List.getD_eq_getElem?_getD, List.getElem?_take, if_pos hlq, List.getElem?_drop]
                    have ge : ∀ zs : Array Value, (zs.extract off (off + i.size))[f.offset + q.1]? = zs[off + (f.offset + q.1)]? := fun zs => by
                      rw [Array.getElem?_extract]
                      split
                      · rfl
                      · rename_i hn
                        rw [Array.getElem?_eq_none]
                        simp at hn
                        omega
                    exact ⟨a, b, by rw [g, g]; exact f1, by rw [ge]; exact f2, by rw [ge]; exact f3, by rw [g]; exact f4, by rw [g]; exact f5⟩
                  obtain ⟨a, b, p1, p2, p3⟩ := shape_equal d hsf hj hdf hall' hsub D' (by omega)
                  have hl2 : ∀ p, p ∈ l → p.1 < i.size := fun p hp => hlt p (List.mem_append.2 (.inr hp))
                  have hF2 : Fits (Pr := Pr) (w := w) xs ys us vs (l.map fun p => (off + p.1, p.2)) := fun p hp => hF p (by rw [List.map_append]; exact List.mem_append.2 (.inr hp))
                  have ih' := ih l hl2 hF2 hacc
                  have hname' : f.name ≠ "_" := hname
                  unfold Op.eqFields
                  rw [if_pos hname']
                  simp only [Sem.run_bind, p1, p2, p3, Result.andThen_ok]
                  have hv : valF ((xs.drop off).take i.size) ((ys.drop off).take i.size) (s.map fun p => (f.offset + p.1, p.2)) = valF xs ys ((s.map fun p => (f.offset + p.1, p.2)).map fun p => (off + p.1, p.2)) := by
                    have : ∀ (m : List (Nat × Nat)), (∀ p, p ∈ m → p.1 < i.size) → valF ((xs.drop off).take i.size) ((ys.drop off).take i.size) m = valF xs ys (m.map fun p => (off + p.1, p.2)) := by
                      intro m
                      induction m with
                      | nil => intro _; rfl
                      | cons p m ihm =>
                        intro hm
                        have hp := hm p (by simp)
                        have g : ∀ zs : List AV, ((zs.drop off).take i.size).getD p.1 .und = zs.getD (off + p.1) .und := fun zs => by
                          rw [List.getD_eq_getElem?_getD, List.getD_eq_getElem?_getD, List.getElem?_take, if_pos hp, List.getElem?_drop]
                        simp only [valF, List.map_cons, g, ihm (fun p hp => hm p (by simp [hp]))]
                    exact this _ (fun p hp => hlt p (List.mem_append.2 (.inl hp)))
                  rw [hv, List.map_append, valF_append]
                  cases valF xs ys ((s.map fun p => (f.offset + p.1, p.2)).map fun p => (off + p.1, p.2)) with
                  | false => simp
                  | true => simp [ih']
                · cases hs
              · cases hs
          · cases hs
    | _ => cases hs

theorem shapeOf_struct (d : Nat) {t : TypeId} {fs : Array Field} (ht : P.underlying t = some (.struct fs)) : shapeOf P (d + 1) t = if P.stoodInHeld t then none else fs.toList.foldr (fun f acc => match acc, P.info? f.type with
        | some l, some i => if f.name = "_" then none else match shapeOf P d f.type with
          | some s => if s.all (fun p => decide (p.1 < i.size)) then some (s.map (fun p => (f.offset + p.1, p.2)) ++ l) else none
          | none => none
        | _, _ => none) (some []) := by
  simp only [shapeOf, ht]
  rfl
theorem shapeOf_under {d : Nat} {t : TypeId} {s : List (Nat × Nat)} (h : shapeOf P d t = some s) : ∃ df, P.underlying t = some df := by
  cases d with
  | zero => simp [shapeOf] at h
  | succ d =>
    simp only [shapeOf] at h
    cases hu2 : P.underlying t with
    | none => rw [hu2] at h; cases h
    | some df => exact ⟨df, rfl⟩

theorem okF_mem {xs ys : List AV} : ∀ {sh : List (Nat × Nat)}, okF xs ys sh → ∀ p, p ∈ sh → cellFit p.2 (xs.getD p.1 .und) (ys.getD p.1 .und)
  | q :: l, h, p, hp => by
    rcases List.mem_cons.1 hp with e | e
    · subst e; exact h.1
    · exact okF_mem h.2 p e

theorem cellFit_und {k : Nat} {y : AV} : ¬ cellFit k .und y := by intro h; cases y <;> exact h
theorem cellFit_und' {k : Nat} {x : AV} : ¬ cellFit k x .und := by intro h; cases x <;> exact h

theorem feq_sound {o : Oper} {op : BinOp} {neq : Bool} {t yt : TypeId} {x y : Operand} {ix iy : IOpd} {fs : Array Field} {sh : List (Nat × Nat)} (ho : o.op = .binOp op t x y yt) (hop : op = if neq then .neq else .eql) (ht : P.underlying t = some (.struct fs)) (hg : P.eqGuardType P.depth t = false) (hsh : shapeOf P 8 t = some sh) (hx : compOpd x = some ix) (hy : compOpd y = some iy)
    (h : SR w0 Pr0 n μ σ a w) {hid : List Nat} {K : AV → List Nat → Prop} (hE : evalV hid σ K (.feq neq sh ix iy)) : Yld P w0 Pr0 μ σ a w o K := by
  have tx := h.get hx
  have ty := h.get hy
  simp only [evalV] at hE
  split at hE
  · rename_i xs ys e1 e2
    obtain ⟨hok, hE⟩ := hE
    rw [e1] at tx; rw [e2] at ty
    obtain ⟨us, hux, hlx, hrx⟩ := VR.agg_inv (show VR (PrOf w0 Pr0 μ σ.H) w (.agg xs) (a.eval x) from tx)
    obtain ⟨vs, hvy, hly, hry⟩ := VR.agg_inv (show VR (PrOf w0 Pr0 μ σ.H) w (.agg ys) (a.eval y) from ty)
    have hfit : ∀ p, p ∈ sh → ∃ a b, cellFit p.2 (xs.getD p.1 .und) (ys.getD p.1 .und) ∧ us[p.1]? = some a ∧ vs[p.1]? = some b ∧ VR (PrOf w0 Pr0 μ σ.H) w (xs.getD p.1 .und) a ∧ VR (PrOf w0 Pr0 μ σ.H) w (ys.getD p.1 .und) b := by
      intro p hp
      have hc := okF_mem hok p hp
      have hxl : p.1 < xs.length := by
        rcases Nat.lt_or_ge p.1 xs.length with h | h
        · exact h
        · rw [List.getD_eq_getElem?_getD, List.getElem?_eq_none h] at hc; exact (cellFit_und hc).elim
      have hyl : p.1 < ys.length := by
        rcases Nat.lt_or_ge p.1 ys.length with h | h
        · exact h
        · rw [List.getD_eq_getElem?_getD (l := ys), List.getElem?_eq_none h] at hc; exact (cellFit_und' hc).elim
      have ux : us[p.1]? = some (us[p.1]'(by omega)) := List.getElem?_eq_getElem _
      have vy : vs[p.1]? = some (vs[p.1]'(by omega)) := List.getElem?_eq_getElem _
      refine ⟨_, _, hc, ux, vy, ?_, ?_⟩
      · rw [List.getD_eq_getElem?_getD, List.getElem?_eq_getElem hxl]
        exact hrx p.1 _ _ (List.getElem?_eq_getElem hxl) ux
      · rw [List.getD_eq_getElem?_getD, List.getElem?_eq_getElem hyl]
        exact hry p.1 _ _ (List.getElem?_eq_getElem hyl) vy
    -- the struct's own equality
    have heq : (Op.equalIn 10000 t (.agg us.toArray) (.agg vs.toArray)).run P w = .ok (valF xs ys sh) w := by
      have hst : P.stoodInHeld t = false ∧ True := by
        have hsh' := hsh
        rw [shapeOf_struct 7 ht] at hsh'
        split at hsh'
        · cases hsh'
        · rename_i hn; exact ⟨by simpa using hn, trivial⟩
      have hfo : P.fieldsOf t = fs := by simp [Program.fieldsOf, ht]
      rw [run_equalIn_struct w 9999 t _ _ (by rw [hfo]; exact ht) hst.1, hfo]
      have hsh' := hsh
      rw [shapeOf_struct 7 ht, hst.1, if_neg (by simp)] at hsh'
      clear hok hE hsh
      generalize fs.toList = fl at hsh'
      induction fl generalizing sh with
      | nil =>
        simp only [List.foldr_nil, Option.some.injEq] at hsh'
        subst hsh'
        simp [Op.eqFields, valF]
      | cons f fl ih =>
        simp only [List.foldr_cons] at hsh'
        split at hsh'
        · rename_i l j hacc hj
          split at hsh'
          · cases hsh'
          · rename_i hname
            split at hsh'
            · rename_i s hsf
              split at hsh'
              · rename_i hall
                cases hsh'
                have hall' : ∀ p, p ∈ s → p.1 < j.size := fun p hp => by
                  have := List.all_eq_true.1 hall p hp
                  simpa using this
                obtain ⟨df, hdf⟩ := shapeOf_under hsf
                have hsub : Fits (Pr := PrOf w0 Pr0 μ σ.H) (w := w) xs ys us.toArray vs.toArray (s.map fun p => (f.offset + p.1, p.2)) := by
                  intro p hp
                  obtain ⟨a, b, f1, f2, f3, f4, f5⟩ := hfit p (List.mem_append.2 (.inl hp))
                  exact ⟨a, b, f1, by rw [List.getElem?_toArray]; exact f2, by rw [List.getElem?_toArray]; exact f3, f4, f5⟩
                obtain ⟨a, b, p1, p2, p3⟩ := shape_equal 7 hsf hj hdf hall' hsub 9999 (by omega)
                have ih' := ih (fun p hp => hfit p (List.mem_append.2 (.inr hp))) hacc
                have hname' : f.name ≠ "_" := hname
                unfold Op.eqFields
                rw [if_pos hname']
                simp only [Sem.run_bind, p1, p2, p3, Result.andThen_ok]
                rw [valF_append]
                cases valF xs ys (s.map fun p => (f.offset + p.1, p.2)) with
                | false => simp
                | true => simp [ih']
              · cases hsh'
            · cases hsh'
        · cases hsh'
    refine Yld.mk0 hE ?_ (TR.of_VR (.bool _))
    subst hop
    cases neq
    · simp only [execOp, ho, hux, hvy, Bool.false_eq_true, if_false]
      simp [run_eqGuard_agg w .eql t x y us.toArray vs.toArray hg, run_eql_struct, heq]
    · simp only [execOp, ho, hux, hvy, if_true]
      simp [run_eqGuard_agg w .neq t x y us.toArray vs.toArray hg, run_neq_struct, heq]
  · exact hE.elim

/-! ### Structs written out -/

theorem lay_cells (off : Nat) : ∀ (l : List Value) (k : Nat) (cs : Array Value), off + k + l.length ≤ cs.size →
    ((l.zipIdx k).foldl (fun cs (p : Value × Nat) => cs.setIfInBounds (off + p.2) p.1) cs).toList = cs.toList.take (off + k) ++ l ++ cs.toList.drop (off + k + l.length)
  | [], k, cs, h => by simp
  | v :: l, k, cs, h => by
    simp only [List.zipIdx_cons, List.foldl_cons]
    rw [lay_cells off l (k + 1) _ (by simp at h ⊢; omega), Array.toList_setIfInBounds]
    have hlt : off + k < cs.toList.length := by simp at h ⊢; omega
    have e1 : (cs.toList.set (off + k) v).take (off + (k + 1)) = cs.toList.take (off + k) ++ [v] := by
      rw [List.set_eq_take_append_cons_drop, if_pos hlt, List.take_append]
      have : (cs.toList.take (off + k)).length = off + k := by rw [List.length_take]; omega
      rw [this, List.take_take, Nat.min_eq_right (by omega)]
      rw [show off + (k + 1) - (off + k) = 1 by omega]
      simp
    have e2 : (cs.toList.set (off + k) v).drop (off + (k + 1) + l.length) = cs.toList.drop (off + k + (v :: l).length) := by
      rw [List.drop_set_of_lt (by omega)]
      congr 1
      simp; omega
    rw [e1, e2]
    simp

theorem VR.cells0 {d : AV} {v : Value} (h : VR Pr w d v) : d.cells.length = v.cells.size ∧ ∀ (j : Nat) (c : AV) (u : Value), d.cells[j]? = some c → v.cells[j]? = some u → VR Pr w c u := by
  have one : ∀ {d : AV} {v : Value}, VR Pr w d v → d.cells = [d] → v.cells = #[v] → d.cells.length = v.cells.size ∧ ∀ (j : Nat) (c : AV) (u : Value), d.cells[j]? = some c → v.cells[j]? = some u → VR Pr w c u := by
    intro d v h e1 e2
    rw [e1, e2]
    refine ⟨rfl, fun j c u hj hu => ?_⟩
    cases j with
    | zero => cases hj; simp at hu; subst hu; exact h
    | succ j => simp at hj
  cases h with
  | agg cs vs hl hr =>
    refine ⟨by simpa [AV.cells, Value.cells] using hl, fun j c u hj hu => hr j c u hj ?_⟩
    simpa [Value.cells] using hu
  | cst v h1 =>
    refine one (.cst v h1) rfl ?_
    cases v <;> first | rfl | cases h1
  | int k m => exact one (.int k m) rfl rfl
  | bool b => exact one (.bool b) rfl rfl
  | str s => exact one (.str s) rfl rfl
  | nilp => exact one .nilp rfl rfl
  | sl l A cap z u h1 h2 h3 h4 => exact one (.sl l A cap z u h1 h2 h3 h4) rfl rfl
  | tup cs vs h1 h2 => exact one (.tup cs vs h1 h2) rfl rfl
  | rp cs b off u h1 h2 h3 => exact one (.rp cs b off u h1 h2 h3) rfl rfl
  | clo f fi ca vf vc h1 h2 h3 h4 => exact one (.clo f fi ca vf vc h1 h2 h3 h4) rfl rfl
  | mv es g ms c h1 h2 h3 h4 h5 h6 => exact one (.mv es g ms c h1 h2 h3 h4 h5 h6) rfl rfl

theorem VR.ofCells {cs : List AV} {us : List Value} (hl : cs.length = us.length) (h : ∀ (j : Nat) (c : AV) (u : Value), cs[j]? = some c → us[j]? = some u → VR Pr w c u) : VR Pr w (.agg cs) (.agg us.toArray) := .agg cs us hl h

/-- parts laid over cells, in the model and here -/
theorem fill_parts {place : Nat → Option (Nat × Nat)} : ∀ (ps : List (Nat × Nat × Nat)) (ds : List AV) (vs : List Value) {cs : List AV} {us : Array Value} {cs' : List AV}, (∀ p, p ∈ ps → place p.1 = some (p.2.1, p.2.2)) → ps.length = ds.length → ds.length = vs.length →
    (∀ (j : Nat) (d : AV) (v : Value), ds[j]? = some d → vs[j]? = some v → VR Pr w d v) → cs.length = us.size → (∀ (j : Nat) (c : AV) (u : Value), cs[j]? = some c → us[j]? = some u → VR Pr w c u) →
    fillV cs ((ps.zip ds).map fun q => (q.1.2.1, q.1.2.2, q.2)) = some cs' →
    ∃ us', Instr.fill place us ((ps.zip vs).map fun q => (q.1.1, q.2)) = some us' ∧ cs'.length = us'.size ∧ ∀ (j : Nat) (c : AV) (u : Value), cs'[j]? = some c → us'[j]? = some u → VR Pr w c u
  | [], [], [], cs, us, cs', _, _, _, _, hl, hr, hf => by
    simp only [List.zip_nil_left, List.map_nil, fillV, Option.some.injEq] at hf
    subst hf
    exact ⟨us, rfl, hl, hr⟩
  | p :: ps, d :: ds, v :: vs, cs, us, cs', hp, hl1, hl2, hv, hl, hr, hf => by
    simp only [List.zip_cons_cons, List.map_cons, fillV] at hf
    split at hf
    · rename_i hc
      obtain ⟨hc1, hc2⟩ := hc
      obtain ⟨k1, k2⟩ := (hv 0 d v rfl rfl).cells0
      have hvs : v.cells.size = p.2.2 := by rw [← k1]; exact hc1
      have hlay := lay_cells p.2.1 v.cells.toList 0 us (by simp [hvs]; omega)
      simp only [List.zip_cons_cons, List.map_cons, Instr.fill, hp p (by simp)]
      rw [if_neg (by simp [hvs]; omega)]
      have hfold : (v.cells.zipIdx.foldl (fun cs (q : Value × Nat) => cs.setIfInBounds (p.2.1 + q.2) q.1) us) = ((v.cells.toList.zipIdx 0).foldl (fun cs (q : Value × Nat) => cs.setIfInBounds (p.2.1 + q.2) q.1) us) := by
        rw [← Array.foldl_toList, Array.toList_zipIdx]
      show ∃ us', Instr.fill place (v.cells.zipIdx.foldl (fun cs (q : Value × Nat) => cs.setIfInBounds (p.2.1 + q.2) q.1) us) _ = some us' ∧ _
      rw [hfold]
      generalize ((v.cells.toList.zipIdx 0).foldl (fun cs (q : Value × Nat) => cs.setIfInBounds (p.2.1 + q.2) q.1) us) = us2 at hlay ⊢
      simp only [Nat.add_zero, Array.length_toList, hvs] at hlay
      have hsz : us2.size = us.size := by
        have := congrArg List.length hlay
        simp [hvs] at this
        omega
      refine fill_parts ps ds vs (fun q hq => hp q (by simp [hq])) (by simpa using hl1) (by simpa using hl2) (fun j d' v' hj hj' => hv (j + 1) d' v' (by simpa using hj) (by simpa using hj')) ?_ ?_ hf
      · rw [hsz]; simp [hc1]; omega
      · intro j c u hj hu
        rw [← Array.getElem?_toList, hlay] at hu
        rcases Nat.lt_or_ge j p.2.1 with h1 | h1
        · rw [List.append_assoc, List.getElem?_append_left (by rw [List.length_take]; omega), List.getElem?_take, if_pos h1] at hj
          rw [List.append_assoc, List.getElem?_append_left (by rw [List.length_take, Array.length_toList]; omega), List.getElem?_take, if_pos h1, Array.getElem?_toList] at hu
          exact hr j c u hj hu
        · rcases Nat.lt_or_ge j (p.2.1 + p.2.2) with h2 | h2
          · rw [List.append_assoc, List.getElem?_append_right (by rw [List.length_take]; omega), List.length_take, Nat.min_eq_left (by omega), List.getElem?_append_left (by omega)] at hj
            rw [List.append_assoc, List.getElem?_append_right (by rw [List.length_take, Array.length_toList]; omega), List.length_take, Array.length_toList, Nat.min_eq_left (by omega), List.getElem?_append_left (by rw [Array.length_toList]; omega), Array.getElem?_toList] at hu
            exact k2 _ c u hj hu
          · rw [List.getElem?_append_right (by rw [List.length_append, List.length_take]; omega), List.length_append, List.length_take, Nat.min_eq_left (by omega), hc1, List.getElem?_drop, show p.2.1 + p.2.2 + (j - (p.2.1 + p.2.2)) = j by omega] at hj
            rw [List.getElem?_append_right (by rw [List.length_append, List.length_take, Array.length_toList, Array.length_toList]; omega), List.length_append, List.length_take, Array.length_toList, Array.length_toList, Nat.min_eq_left (by omega), hvs, List.getElem?_drop, show p.2.1 + p.2.2 + (j - (p.2.1 + p.2.2)) = j by omega, Array.getElem?_toList] at hu
            exact hr j c u hj hu
    · cases hf
  | [], _ :: _, _, _, _, _, _, h, _, _, _, _, _ => by simp at h
  | _ :: _, [], _, _, _, _, _, h, _, _, _, _, _ => by simp at h
  | _, [], _ :: _, _, _, _, _, _, h, _, _, _, _ => by simp at h
  | _, _ :: _, [], _, _, _, _, _, h, _, _, _, _ => by simp at h

theorem mapM_both {α β : Type} {f : α → Option β} : ∀ {l : List α} {r : List β}, l.mapM f = some r → l.length = r.length ∧ ∀ (j : Nat) (x : α) (y : β), l[j]? = some x → r[j]? = some y → f x = some y
  | [], r, h => by
    simp at h; subst h
    exact ⟨rfl, fun j x y h => by simp at h⟩
  | x :: l, r, h => by
    simp only [List.mapM_cons, Option.bind_eq_bind, Option.pure_def] at h
    cases hx : f x with
    | none => rw [hx] at h; cases h
    | some y =>
      cases hl : l.mapM f with
      | none => rw [hx, hl] at h; cases h
      | some ys =>
        rw [hx, hl] at h
        cases h
        obtain ⟨k1, k2⟩ := mapM_both hl
        refine ⟨by simp [k1], fun j x' y' hj hj' => ?_⟩
        cases j with
        | zero => cases hj; cases hj'; exact hx
        | succ j => exact k2 j x' y' hj hj'

theorem zip_bld : ∀ (pa : List (Nat × Operand)) (ps : List Part) (vs : List AV), pa.length = ps.length →
    (((pa.zip ps).map fun q => (q.1.1, q.2.off, q.2.z)).zip vs).map (fun q => (q.1.2.1, q.1.2.2, q.2)) = (ps.zip vs).map fun q => (q.1.off, q.1.z, q.2)
  | [], [], vs, _ => by simp
  | x :: pa, p :: ps, [], _ => by simp
  | x :: pa, p :: ps, v :: vs, h => by simp [zip_bld pa ps vs (by simpa using h)]
  | [], _ :: _, _, h => by simp at h
  | _ :: _, [], _, h => by simp at h
theorem zip_vals (a : Act) : ∀ (pa : List (Nat × Operand)) (ps : List Part), pa.length = ps.length →
    pa.map (fun q => (q.1, a.eval q.2)) = (((pa.zip ps).map fun q => (q.1.1, q.2.off, q.2.z)).zip (pa.map fun p => a.eval p.2)).map fun q => (q.1.1, q.2)
  | [], [], _ => by simp
  | x :: pa, p :: ps, h => by simp [zip_vals a pa ps (by simpa using h)]
  | [], _ :: _, h => by simp at h
  | _ :: _, [], h => by simp at h

theorem bld_sound {o : Oper} {t : TypeId} {parts : Array (Nat × Operand)} {it : TypeInfo} {fs : Array Field} {zs : Array Value} {zero : List AV} {pl : List (Nat × Nat)} {ps : List Part} (ho : o.op = .build t parts) (h1 : P.info? t = some it) (h2 : P.underlying t = some (.struct fs)) (h3 : it.zero = some (.agg zs))
    (h4 : zs.toList.mapM compConst = some zero) (h5 : fs.toList.mapM (fun f => (P.info? f.type).map fun j => (f.offset, j.size)) = some pl)
    (h6 : parts.toList.mapM (fun p => match pl[p.1]?, compOpd p.2 with
            | some q, some x => some (⟨q.1, q.2, x⟩ : Part)
            | _, _ => none) = some ps)
    (h : SR w0 Pr0 n μ σ a w) {hid : List Nat} {K : AV → List Nat → Prop} (hE : evalV hid σ K (.bld zero ps)) : Yld P w0 Pr0 μ σ a w o K := by
  simp only [evalV] at hE
  split at hE
  · rename_i vs fz e1
    split at hE
    · rename_i cs e2
      obtain ⟨m1, m2⟩ := mapM_both h4
      obtain ⟨p1, p2⟩ := mapM_both h6
      have hpart : ∀ (j : Nat) (x : Nat × Operand) (y : Part), parts.toList[j]? = some x → ps[j]? = some y → pl[x.1]? = some (y.off, y.z) ∧ compOpd x.2 = some y.x := by
        intro j x y hj hj'
        have := p2 j x y hj hj'
        split at this
        · rename_i q i g1 g2
          cases this
          exact ⟨g1, g2⟩
        · cases this
      have hS : SR w0 Pr0 n μ (σ.fzs fz) a w := SR.fzs h
      have hlen : (ps.map fun p => σ.get p.x).length = (parts.toList.map fun p => a.eval p.2).length := by simp [p1]
      obtain ⟨q1, q2⟩ := h.byvals hS e1 hlen (fun j d v hj hj' => by
        rw [List.getElem?_map, Option.map_eq_some_iff] at hj hj'
        obtain ⟨y, hy, rfl⟩ := hj
        obtain ⟨x, hx, rfl⟩ := hj'
        exact h.get (hpart j x y hx hy).2) (fun s arr hs => fzs_all s arr hs)
      let tr : List (Nat × Nat × Nat) := (parts.toList.zip ps).map fun q => (q.1.1, q.2.off, q.2.z)
      have htr : tr.length = vs.length := by
        simp only [tr, List.length_map, List.length_zip, q1]
        omega
      have hmem : ∀ p, p ∈ tr → (fun x => pl[x]?) p.1 = some (p.2.1, p.2.2) := by
        intro p hp
        obtain ⟨q, hq, rfl⟩ := List.mem_map.1 hp
        obtain ⟨j, hj⟩ := List.getElem?_of_mem hq
        rw [List.getElem?_zip_eq_some] at hj
        exact (hpart j _ _ hj.1 hj.2).1
      have hz1 : zero.length = zs.size := by rw [← m1]; simp
      have hz2 : ∀ (j : Nat) (c : AV) (u : Value), zero[j]? = some c → zs[j]? = some u → VR (PrOf w0 Pr0 μ (σ.fzs fz).H) w c u := by
        intro j c u hj hu
        rw [← Array.getElem?_toList] at hu
        exact compConst_VR (m2 j u c hu hj)
      have hfill : fillV zero ((tr.zip vs).map fun q => (q.1.2.1, q.1.2.2, q.2)) = some cs := by
        rw [← e2]
        congr 1
        exact zip_bld _ _ _ p1
      obtain ⟨us', f1, f2, f3⟩ := fill_parts tr vs _ hmem htr q1 q2 hz1 hz2 hfill
      refine ⟨_, fz, _, hE, ?_, TR.of_VR (VR.ofCells (cs := cs) (us := us'.toList) (by simpa using f2) (fun j c u hj hu => f3 j c u hj (by simpa using hu)))⟩
      simp only [execOp, ho]
      have hb : P.built t (parts.map fun (i, x) => (i, a.eval x)).toList = some us' := by
        simp only [Program.built, h1, h2, h3, h5]
        have e : (parts.map fun (i, x) => (i, a.eval x)).toList = (tr.zip (parts.toList.map fun p => a.eval p.2)).map fun q => (q.1.1, q.2) := by
          have : (parts.map fun (i, x) => (i, a.eval x)).toList = parts.toList.map fun q => (q.1, a.eval q.2) := by simp
          rw [this]
          exact zip_vals a _ _ p1
        rw [e]
        simpa [Value.cells] using f1
      rw [Sem.run_bind, run_build w t _ us' hb]
      simp
    · exact hE.elim
  · exact hE.elim

/-- all operations of the value kind -/
theorem evalV_sound {o : Oper} {io : IOp} (hc : compV P o.op = some io) (h : SR w0 Pr0 n μ σ a w) {hid : List Nat} {K : AV → List Nat → Prop} (hE : evalV hid σ K io) : Yld P w0 Pr0 μ σ a w o K := by
  unfold compV at hc
  split at hc
  · rename_i x ho
    rw [Option.map_eq_some_iff] at hc
    obtain ⟨ix, hx, rfl⟩ := hc
    exact mv_sound (by simp [execOp, ho]) hx h hE
  · rename_i x ho
    rw [Option.map_eq_some_iff] at hc
    obtain ⟨ix, hx, rfl⟩ := hc
    exact mv_sound (by simp [execOp, ho]) hx h hE
  · rename_i c x y ho
    split at hc
    · rename_i h1 h2 h3; cases hc; exact pick_sound ho h1 h2 h3 h hE
    · cases hc
  · rename_i op t x y yt ho
    split at hc
    · rename_i h1 h2
      split at hc
      · rename_i ht; cases hc; exact beq_sound (neq := false) ho rfl ht h1 h2 h hE
      · rename_i ht; cases hc; exact beq_sound (neq := true) ho rfl ht h1 h2 h hE
      · rename_i fs ht
        split at hc
        · cases hc
        · rename_i hg
          rw [Option.map_eq_some_iff] at hc
          obtain ⟨sh, hs, rfl⟩ := hc
          exact feq_sound (neq := false) ho rfl ht (by simpa using hg) hs h1 h2 h hE
      · rename_i fs ht
        split at hc
        · cases hc
        · rename_i hg
          rw [Option.map_eq_some_iff] at hc
          obtain ⟨sh, hs, rfl⟩ := hc
          exact feq_sound (neq := true) ho rfl ht (by simpa using hg) hs h1 h2 h hE
      · cases hc; exact bin_sound ho h1 h2 h hE
    · cases hc
  · rename_i op t x ho
    rw [Option.map_eq_some_iff] at hc
    obtain ⟨ix, hx, rfl⟩ := hc
    exact un_sound ho hx h hE
  · rename_i x i ho
    rw [Option.map_eq_some_iff] at hc
    obtain ⟨ix, hx, rfl⟩ := hc
    exact ext_sound ho hx h hE
  · rename_i t x ho
    split at hc
    · rename_i z agg ix h1 h2
      split at hc
      · rename_i hz; cases hc; exact load_sound ho h1 hz h2 h hE
      · cases hc
    · cases hc
  · rename_i s x f ho
    split at hc
    · rename_i fs ix h1 h2
      split at hc
      · rename_i fl h3
        split at hc
        · rename_i i h4
          split at hc
          · cases hc
          · rename_i hz; cases hc; exact faddr_sound ho h1 h3 h4 hz h2 h hE
        · cases hc
      · cases hc
    · cases hc
  · rename_i s x f ho
    split at hc
    · rename_i fs ix h1 h2
      split at hc
      · rename_i fl h3
        split at hc
        · rename_i z agg h4; cases hc; exact fld_sound ho h1 h3 h4 h2 h hE
        · cases hc
      · cases hc
    · cases hc
  · rename_i t x i ho
    split at hc
    · rename_i e ix ii h1 h2 h3
      split at hc
      · rename_i j h4
        split at hc
        · cases hc
        · rename_i hz; cases hc; exact iaddr_sound ho h1 h4 hz h2 h3 h hE
      · cases hc
    · cases hc
  · rename_i t x i ho
    split at hc
    · rename_i ix ii h1 h2 h3; cases hc; exact idx_sound ho h1 h2 h3 h hE
    · rename_i len e ix ii h1 h2 h3
      split at hc
      · rename_i z agg h4; cases hc; exact idxA_sound ho h1 h4 h2 h3 h hE
      · cases hc
    · cases hc
  · rename_i t x lo hi ho
    split at hc
    · rename_i ix il ih h1 h2 h3 h4; cases hc; exact slcS_sound ho h1 h2 h3 h4 h hE
    · rename_i e ix il ih h1 h2 h3 h4
      split at hc
      · rename_i j h5
        split at hc
        · cases hc
        · rename_i hz; cases hc; exact slcL_sound ho h1 h5 hz h2 h3 h4 h hE
      · cases hc
    · cases hc
  · rename_i src dst x ho
    split at hc
    · rename_i k' k ix h1 h2 h3; cases hc; exact conv_sound ho h1 h2 h3 h hE
    · rename_i ix h1 h2 h3; cases hc; exact convS_sound ho h1 h2 h3 h hE
    · cases hc
  · rename_i f first caps ho
    split at hc
    · rename_i i1 i2 h1 h2; cases hc; exact mkfn_sound ho h1 h2 h hE
    · cases hc
  · rename_i t parts ho
    split at hc
    · rename_i it fs h1 h2
      split at hc
      · rename_i zs h3
        split at hc
        · rename_i zero pl h4 h5
          split at hc
          · rename_i ps h6; cases hc; exact bld_sound ho h1 h2 h3 h4 h5 h6 h hE
          · cases hc
        · cases hc
      · cases hc
    · cases hc
  · rename_i c ho
    split at hc
    · rename_i x t h1 h2 h3
      split at hc
      · rename_i h4
        rw [Option.map_eq_some_iff] at hc
        obtain ⟨ix, hx, rfl⟩ := hc
        exact lenS_sound ho h1 h2 h3 h4 hx h hE
      · rename_i e h4
        rw [Option.map_eq_some_iff] at hc
        obtain ⟨ix, hx, rfl⟩ := hc
        exact lenL_sound ho h1 h2 h3 h4 hx h hE
      · cases hc
    · rename_i x y h1 h2
      split at hc
      · rename_i h3 h4; cases hc; exact mx_sound (b := true) ho h1 h2 h3 h4 h hE
      · cases hc
    · rename_i x y h1 h2
      split at hc
      · rename_i h3 h4; cases hc; exact mx_sound (b := false) ho h1 h2 h3 h4 h hE
      · cases hc
    · cases hc
  · cases hc
end
end Go.Proofs.YtkdbphhekpdmhaaDoor
