/-
  The plain machine, ninth part: slices written out; all head operations together; stores and appends.
-/
import Derived.Test.YtkdbphhekpdmhaaDoorAmH2
import Derived.Great.BuildSlice
namespace Go.Proofs.YtkdbphhekpdmhaaDoor
open Go.RowKit
set_option linter.unusedVariables false
set_option linter.unusedSimpArgs false

theorem fill_seq (size : Nat) : ∀ (vs : List Value) (k : Nat) (cs : Array Value), (∀ v, v ∈ vs → v.cells.size = size) → (k + vs.length) * size ≤ cs.size →
    ∃ out, Instr.fill (fun i => some (i * size, size)) cs ((vs.zipIdx k).map fun p => (p.2, p.1)) = some out ∧ out.toList = cs.toList.take (k * size) ++ vs.flatMap (fun v => v.cells.toList) ++ cs.toList.drop ((k + vs.length) * size)
  | [], k, cs, _, _ => ⟨cs, rfl, by simp⟩
  | v :: vs, k, cs, hv, h => by
    have hvs := hv v (by simp)
    have hle : k * size + size ≤ cs.size := by
      have e : (k + (v :: vs).length) * size = k * size + size + vs.length * size := by
        rw [List.length_cons, Nat.add_mul, Nat.succ_mul]; omega
      omega
    have hl := lay_cells (k * size) v.cells.toList 0 cs (by simp [hvs]; omega)
    simp only [List.zipIdx_cons, List.map_cons, Instr.fill]
    rw [if_neg (by simp [hvs]; omega)]
    have hf : (v.cells.zipIdx.foldl (fun cs (p : Value × Nat) => cs.setIfInBounds (k * size + p.2) p.1) cs) = ((v.cells.toList.zipIdx 0).foldl (fun cs (p : Value × Nat) => cs.setIfInBounds (k * size + p.2) p.1) cs) := by
      rw [← Array.foldl_toList, Array.toList_zipIdx]
    show ∃ out, Instr.fill _ (v.cells.zipIdx.foldl (fun cs (p : Value × Nat) => cs.setIfInBounds (k * size + p.2) p.1) cs) _ = some out ∧ _
    rw [hf]
    generalize ((v.cells.toList.zipIdx 0).foldl (fun cs (p : Value × Nat) => cs.setIfInBounds (k * size + p.2) p.1) cs) = cs' at hl ⊢
    have hsz : cs'.size = cs.size := by
      have := congrArg List.length hl
      simp [hvs] at this
      omega
    obtain ⟨out, h1, h2⟩ := fill_seq size vs (k + 1) cs' (fun x hx => hv x (by simp [hx])) (by rw [hsz]; simp at h; rw [show k + 1 + vs.length = k + (vs.length + 1) by omega]; exact h)
    refine ⟨out, h1, ?_⟩
    rw [h2, hl]
    have l1 : (cs.toList.take (k * size + 0)).length = k * size := by rw [List.length_take]; simp; omega
    have l2 : v.cells.toList.length = size := by simp [hvs]
    simp only [Nat.add_zero] at l1 ⊢
    have t1 : (List.take (k * size) cs.toList ++ v.cells.toList ++ List.drop (k * size + v.cells.toList.length) cs.toList).take ((k + 1) * size) = List.take (k * size) cs.toList ++ v.cells.toList := by
      rw [List.take_append_of_le_length (by simp [hvs, Nat.add_mul]; omega), List.take_of_length_le (by simp [hvs, Nat.add_mul]; omega)]
    have t2 : (List.take (k * size) cs.toList ++ v.cells.toList ++ List.drop (k * size + v.cells.toList.length) cs.toList).drop ((k + 1 + vs.length) * size) = cs.toList.drop ((k + (v :: vs).length) * size) := by
      have e : (k + 1 + vs.length) * size = k * size + size + vs.length * size := by rw [Nat.add_mul, Nat.add_mul]; omega
      rw [List.drop_append, List.length_append, l1, l2, e, List.drop_of_length_le (by simp [hvs]; omega), List.nil_append, List.drop_drop]
      congr 1
      rw [List.length_cons, Nat.add_mul, Nat.succ_mul]; omega
    rw [t1, t2]
    simp

section
variable {P : Program} {w0 : Start} {Pr0 : Nat → Nat → Prop} {n : Nat} {μ : Nat → Option Nat} {σ : St} {a : Act} {w : World} {Pr : Nat → Nat → Prop} {H : Nat → Option Arr}

theorem zip_parts {ρ : Operand → Value} : ∀ {l : List (Nat × Operand)} {k : Nat}, l.map (·.1) = (List.range l.length).map (· + k) → l.map (fun p => (p.1, ρ p.2)) = (((l.map (·.2)).map ρ).zipIdx k).map fun p => (p.2, p.1)
  | [], k, h => rfl
  | p :: l, k, h => by
    rw [List.length_cons, List.range_succ_eq_map, List.map_cons, List.map_cons, List.map_map] at h
    injection h with h1 h2
    have ih := zip_parts (ρ := ρ) (l := l) (k := k + 1) (by rw [h2]; apply List.map_congr_left; intro x _; simp; omega)
    simp only [List.map_cons, List.zipIdx_cons, ih]
    simp at h1
    rw [h1]

theorem flat_get {size : Nat} : ∀ {vs : List Value} {i j : Nat} {v u : Value}, (∀ v, v ∈ vs → v.cells.size = size) → vs[i]? = some v → v.cells[j]? = some u → (vs.flatMap (fun v => v.cells.toList))[i * size + j]? = some u
  | [], i, j, v, u, _, hi, _ => by simp at hi
  | x :: vs, 0, j, v, u, hs, hi, hj => by
    simp at hi; subst hi
    have hjl := (Array.getElem?_eq_some_iff.1 hj).1
    rw [List.flatMap_cons, List.getElem?_append_left (by simp; omega), Nat.zero_mul, Nat.zero_add]
    simpa using hj
  | x :: vs, i + 1, j, v, u, hs, hi, hj => by
    have ih := flat_get (vs := vs) (i := i) (j := j) (fun v hv => hs v (by simp [hv])) (by simpa using hi) hj
    have hx := hs x (by simp)
    rw [List.flatMap_cons, List.getElem?_append_right (by simp [hx, Nat.succ_mul]; omega)]
    rw [show (i + 1) * size + j - x.cells.toList.length = i * size + j by simp [hx, Nat.succ_mul]; omega]
    exact ih

theorem flat_len {size : Nat} : ∀ {vs : List Value}, (∀ v, v ∈ vs → v.cells.size = size) → (vs.flatMap (fun v => v.cells.toList)).length = vs.length * size
  | [], _ => by simp
  | x :: vs, hs => by
    rw [List.flatMap_cons, List.length_append, flat_len (vs := vs) (fun v hv => hs v (by simp [hv])), List.length_cons, Nat.succ_mul]
    simp [hs x (by simp)]; omega

theorem bsl_sound {C : FuncId → List AV → AV → Prop} {o : Oper} {t e : TypeId} {len : Nat} {parts : Array (Nat × Operand)} {i : TypeInfo} {zv : Value} {xs : List IOpd} {dst : Nat} (ho : o.op = .buildSlice t len parts) (ht : P.underlying t = some (.slice e)) (hx : compOpds (parts.toList.map (·.2)) = some xs)
    (hi : P.info? e = some i) (hzv : i.zero = some zv) (hp : (partsOk len parts.toList && decide (len * i.size ≤ 16777216) && zv.cells.size == i.size) = true) (hdst : o.dst = some dst) (hn : dst < n)
    (h : SR w0 Pr0 n μ σ a w) (h0 : σ.H dst = none) (hT : ∀ t, (σ.T t).name ≠ some dst) {hid : List Nat} {K : AV → Option Arr → List Nat → Prop} (hE : evalM C dst hid σ K (.bsl i.size e xs)) {Q : Exit → Act → World → Prop} :
    o.wp P a w (Made w0 Pr0 n σ dst K) Q := by
  simp only [evalM] at hE
  split at hE
  · rename_i ds fz hbv
    obtain ⟨hz, hds, hK⟩ := hE
    simp only [Bool.and_eq_true, decide_eq_true_eq, beq_iff_eq, partsOk] at hp
    obtain ⟨⟨hp1, hp2⟩, hp3⟩ := hp
    have hplen : parts.toList.length = len := by have := congrArg List.length hp1; simpa using this
    obtain ⟨l1, t1⟩ := h.gets hx
    have hS : SR w0 Pr0 n μ (σ.fzs fz) a w := SR.fzs h
    obtain ⟨l2, b2⟩ := h.byvals hS hbv l1 t1 fzs_all
    obtain ⟨vs, hvs⟩ : ∃ vs, (parts.toList.map (·.2)).map a.eval = vs := ⟨_, rfl⟩
    rw [hvs] at l1 l2 b2 t1
    have hvlen : vs.length = len := by rw [← hvs]; simpa using hplen
    have hvcell : ∀ v, v ∈ vs → v.cells.size = i.size := by
      intro v hv
      obtain ⟨j, hj⟩ := List.mem_iff_getElem?.1 hv
      have hjl := (List.getElem?_eq_some_iff.1 hj).1
      have hd : ds[j]? = some (ds[j]'(by omega)) := List.getElem?_eq_getElem _
      have := (b2 j _ v hd hj).cells.1
      rw [← this]
      exact (hds _ (List.mem_of_getElem? hd)).1
    have hpar : (parts.map fun (p : Nat × Operand) => (p.1, a.eval p.2)).toList = (vs.zipIdx 0).map fun p => (p.2, p.1) := by
      rw [Array.toList_map, zip_parts (k := 0) (by rw [hplen]; simpa using hp1), hvs]
    obtain ⟨out, hf1, hf2⟩ := fill_seq i.size vs 0 ((Array.range (len * i.size)).map fun x => zv.cells[x % zv.cells.size]!) hvcell (by simp [hvlen])
    have hout : out.toList = vs.flatMap (fun v => v.cells.toList) := by
      rw [hf2, Nat.zero_mul, List.take_zero, List.nil_append, Nat.zero_add, hvlen, List.drop_of_length_le (by simp), List.append_nil]
    have hosz : out.size = len * i.size := by rw [← Array.length_toList, hout, flat_len hvcell, hvlen]
    have hrun : (execOp a.eval o).run P w = .ok (.value (.slice (some ⟨w.heap.size, 0, none⟩) len len)) (w.alloc (.cells out e)) := by
      have hcap : ¬ (len * i.size > 2 ^ 24) := by omega
      simp only [execOp, ho, Instr.buildSlice]
      by_cases hz0 : len * i.size = 0
      · have hl0 : len = 0 := by
          rcases Nat.mul_eq_zero.1 hz0 with q | q
          · exact q
          · omega
        subst hl0
        have hv0 : vs = [] := List.length_eq_zero_iff.1 hvlen
        subst hv0
        have hp0 : parts = #[] := by apply Array.ext'; exact List.length_eq_zero_iff.1 hplen
        have ho0 : out = #[] := by apply Array.ext'; rw [hout]; rfl
        subst hp0
        subst ho0
        simp [run_underlying ht, sizeOf, typeInfo, hi, Instr.fill, newRow]
        congr 2
        apply Array.ext'
        simp
      · simp only [Sem.run_bind, run_underlying ht, Result.andThen_ok, sizeOf, typeInfo, run_program, hi, Sem.run_pure, if_neg hcap, if_neg hz0, zeroValue, hzv]
        rw [hpar, hf1]
        simp [newRow]
    unfold Oper.wp
    rw [hrun, Oper.upon_value, hdst]
    have hb : Below w.heap.size w (w.alloc (.cells out e)) := (Below.refl _ _).alloc (Nat.le_refl _) _
    have hdl : ds.length = len := by rw [l2, hvlen]
    have hS2 := SR.adopt hS hb (g := w.heap.size) (Nat.le_refl _) (Nat.lt_of_lt_of_le hn h.small) (fzs_none h0) (by rw [fzs_T]; exact hT) (arr := ⟨i.size, e, ds, 0⟩) (cs := out) rfl hz (fun x hx => ⟨(hds x hx).1, fun c hc => List.all_eq_true.1 (hds x hx).2 c hc⟩) (heap_alloc_new w _)
      (by show ds.length * i.size ≤ _; rw [hosz, hdl]; exact Nat.le_refl _) (by
      intro k x j c hk hj
      have hkl : k < ds.length := (List.getElem?_eq_some_iff.1 hk).1
      have hv : vs[k]? = some (vs[k]'(by omega)) := List.getElem?_eq_getElem _
      have hr := b2 k x _ hk hv
      obtain ⟨c1, c2⟩ := hr.cells
      have hjl := (List.getElem?_eq_some_iff.1 hj).1
      have hu : (vs[k]'(by omega)).cells[j]? = some ((vs[k]'(by omega)).cells[j]'(by omega)) := Array.getElem?_eq_getElem _
      refine ⟨_, ?_, (c2 j c _ hj hu).kept ⟨hb.size, fun b o hlt hp => ⟨hp, by omega⟩, fun b o hlt _ => hb.cell (p := ⟨b, o, none⟩) hlt, fun b ms c hlt _ e => by rw [hb.block b hlt]; exact e⟩⟩
      have := flat_get hvcell hv hu
      rw [← Array.getElem?_toList, hout]; exact this)
    refine ⟨_, _, _, fz, hK, SR.put hS2 hn ?_⟩
    intro arr ha
    have ha2 : upd (σ.fzs fz).H dst (some ⟨i.size, e, ds, 0⟩) dst = some arr := ha
    rw [upd_same] at ha2
    cases ha2
    refine .inr ⟨w.heap.size, len, out, upd_same _ _ _, by rw [Nat.zero_mul, hdl], heap_alloc_new w _, by rw [Nat.zero_add, hosz], by simp, by omega, ?_⟩
    have : len ≤ len * i.size := Nat.le_mul_of_pos_right _ hz
    have h9 : maxLen = 9223372036854775807 := rfl
    omega
  · exact hE.elim

def IOp.pure : IOp → Bool
  | .alloc .. | .box .. | .mknil .. | .bsl .. | .callv .. | .call .. => false
  | _ => true

theorem compV_pure {op : Op} {io : IOp} (h : compV P op = some io) : io.pure = true := by
  unfold compV at h
  repeat' split at h
  all_goals first
    | (cases h; done)
    | (cases h; rfl)
    | (rw [Option.map_eq_some_iff] at h; obtain ⟨_, _, rfl⟩ := h; rfl)

theorem evalM_pure {C : FuncId → List AV → AV → Prop} {dst : Nat} {hid : List Nat} {K : AV → Option Arr → List Nat → Prop} {io : IOp} (h : io.pure = true) (hE : evalM C dst hid σ K io) : evalV hid σ (fun v fz => K v none fz) io := by
  cases io <;> first | exact hE | cases h

/-- all head operations -/
theorem evalM_sound {o : Oper} {io : IOp} {dst : Nat} (hc : compM P o = some io) (hdst : o.dst = some dst) (hn : dst < n)
    (h : SR w0 Pr0 n μ σ a w) (hF : io.pure = false → σ.H dst = none ∧ ∀ t, (σ.T t).name ≠ some dst) {hid : List Nat} {K : AV → Option Arr → List Nat → Prop} (hE : evalM (AFn P) dst hid σ K io) {Q : Exit → Act → World → Prop} :
    o.wp P a w (Made w0 Pr0 n σ dst K) Q := by
  have pureCase : compV P o.op = some io → o.wp P a w (Made w0 Pr0 n σ dst K) Q := by
    intro hv
    obtain ⟨d, fz, v, hK, hrun, ht⟩ := evalV_sound hv h (evalM_pure (compV_pure hv) hE)
    unfold Oper.wp
    rw [hrun, Oper.upon_value, hdst]
    exact ⟨_, _, none, fz, hK, (SR.fzs h).made_none hn ht⟩
  unfold compM at hc
  split at hc
  · rename_i e ho
    split at hc
    · rename_i i hi
      split at hc
      · rename_i zv hz
        rw [Option.map_eq_some_iff] at hc
        obtain ⟨d, hd, rfl⟩ := hc
        exact alloc_sound ho hi hz hd hdst hn h (hF rfl).1 (hF rfl).2 hE
      · cases hc
    · cases hc
  · rename_i e x ho
    split at hc
    · rename_i i ix hi hx
      cases hc
      exact box_sound ho hi hx hdst hn h (hF rfl).1 (hF rfl).2 hE
    · cases hc
  · rename_i ho
    split at hc
    · rename_i e he
      split at hc
      · rename_i i hi
        cases hc
        exact mknil_sound ho hdst hn h (hF rfl).1 (hF rfl).2 hE
      · cases hc
    · cases hc
  · rename_i t len parts ho
    split at hc
    · rename_i e xs h1 h2
      split at hc
      · rename_i i hi
        split at hc
        · rename_i zv hz
          split at hc
          · rename_i hp
            cases hc
            exact bsl_sound ho h1 h2 hi hz hp hdst hn h (hF rfl).1 (hF rfl).2 hE
          · cases hc
        · cases hc
      · cases hc
    · cases hc
  · rename_i src dst' x ho
    split at hc
    · rename_i e ix h1 h2 h3
      split at hc
      · rename_i he
        cases hc
        exact tobytes_sound ho h1 h2 he h3 hdst hn h hE
      · cases hc
    · rename_i e ix h1 h2 h3
      split at hc
      · rename_i he
        cases hc
        exact tostr_sound ho h1 h2 he h3 hdst hn h hE
      · cases hc
    · exact pureCase hc
  · rename_i t x y ho
    split at hc
    · rename_i e ix h1 h2
      split at hc
      · rename_i i hi
        split at hc
        · rename_i zv hz
          split at hc
          · rename_i d0 hd0
            split at hc
            · rename_i hxy
              cases hc
              exact mksl_sound ho h1 hi hz hd0 h2 hxy hdst hn h (hF rfl).1 (hF rfl).2 hE
            · cases hc
          · cases hc
        · cases hc
      · cases hc
    · cases hc
  · rename_i t x y yt ho
    split at hc
    · rename_i ix iy h1 h2
      cases hc
      exact shift_sound (.inl ⟨rfl, rfl⟩) ho h1 h2 hdst hn h hE
    · cases hc
  · rename_i t x y yt ho
    split at hc
    · rename_i ix iy h1 h2
      cases hc
      exact shift_sound (.inr ⟨rfl, rfl⟩) ho h1 h2 hdst hn h hE
    · cases hc
  · rename_i c ho
    split at hc
    · rename_i f hf
      split at hc
      · rename_i fx xs h1 h2
        cases hc
        exact call_sound ho hf h1 h2 hdst hn h (hF rfl).1 (hF rfl).2 hE
      · cases hc
    · exact pureCase hc
  · exact pureCase hc
end
end Go.Proofs.YtkdbphhekpdmhaaDoor
