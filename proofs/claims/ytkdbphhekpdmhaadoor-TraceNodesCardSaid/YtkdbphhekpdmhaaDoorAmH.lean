/-
  The plain machine, eighth part: operations that make memory, and calls, are the model's.
-/
import Derived.Test.YtkdbphhekpdmhaaDoorAmG
import Derived.Laws.MakeOwn
import Derived.Laws.IdiomStrings
import Derived.Laws.BytesArg
import Derived.Laws.Shifts
namespace Go.Proofs.YtkdbphhekpdmhaaDoor
open Go.RowKit
set_option linter.unusedVariables false
set_option linter.unusedSimpArgs false

def compZero : Value → Option AV
  | .agg cs => (cs.toList.mapM compConst).map .agg
  | v => compConst v

def partsOk (len : Nat) (parts : List (Nat × Operand)) : Bool := parts.map (·.1) == List.range len

/-- the same operand -/
def sameOpd : Operand → Operand → Bool
  | .tmp i, .tmp j => i == j
  | .const (.int k n), .const (.int k' m) => decide (k = k') && n == m
  | _, _ => false
theorem sameOpd_eval {x y : Operand} (h : sameOpd x y = true) (a : Act) : a.eval y = a.eval x := by
  unfold sameOpd at h
  split at h
  · rename_i i j; rw [beq_iff_eq] at h; rw [h]
  · rename_i k n k' m
    simp only [Bool.and_eq_true, decide_eq_true_eq, beq_iff_eq] at h
    rw [h.1, h.2]
  · cases h

/-- the operation -/
def compM (P : Program) (o : Oper) : Option IOp :=
  match o.op with
  | .alloc e => match P.info? e with
    | some i => match i.zero with
      | some zv => (compZero zv).map (.alloc i.size e)
      | none => none
    | none => none
  | .box e x => match P.info? e, compOpd x with
    | some i, some x => some (.box i.size e x)
    | _, _ => none
  | .assign (.const (.slice none 0 0)) => match P.underlying o.type with
    | some (.slice e) => match P.info? e with
      | some i => some (.mknil i.size e)
      | none => none
    | _ => none
  | .buildSlice t len parts => match P.underlying t, compOpds (parts.toList.map (·.2)) with
    | some (.slice e), some xs => match P.info? e with
      | some i => match i.zero with
        | some zv => if partsOk len parts.toList && decide (len * i.size ≤ 16777216) && zv.cells.size == i.size then some (.bsl i.size e xs) else none
        | none => none
      | none => none
    | _, _ => none
  | .convert src dst x => match P.underlying src, P.underlying dst, compOpd x with
    | some .string, some (.slice e), some x => match P.underlying e with
      | some (.int .u8) => some (.call 0 [x])
      | _ => none
    | some (.slice e), some .string, some x => match P.underlying e with
      | some (.int .u8) => some (.call 1 [x])
      | _ => none
    | _, _, _ => compV P o.op
  | .makeSlice t len cap => match P.underlying t, compOpd len with
    | some (.slice e), some x => match P.info? e with
      | some i => match i.zero with
        | some zv => match compZero zv with
          | some d => if sameOpd len cap then some (.call 2 [.c (.int .i64 i.bytes), .c (.int .i64 i.size), .c (.int .i64 (e : Nat)), .c d, x]) else none
          | none => none
        | none => none
      | none => none
    | _, _ => none
  | .binOp .shl _ x y _ => match compOpd x, compOpd y with
    | some x, some y => some (.call 3 [x, y])
    | _, _ => none
  | .binOp .shr _ x y _ => match compOpd x, compOpd y with
    | some x, some y => some (.call 4 [x, y])
    | _, _ => none
  | .call c => match c.callee with
    | .value f => match compOpd f, compOpds c.args.toList with
      | some f, some xs => some (.callv f xs)
      | _, _ => none
    | _ => compV P o.op
  | _ => compV P o.op

section
variable {P : Program} {w0 : Start} {Pr0 : Nat → Nat → Prop} {n : Nat} {μ : Nat → Option Nat} {σ : St} {a : Act} {w : World} {Pr : Nat → Nat → Prop} {H : Nat → Option Arr}

theorem mapM_consts {w : World} : ∀ {vs : List Value} {cs : List AV}, vs.mapM compConst = some cs → cs.length = vs.length ∧ ∀ (j : Nat) (c : AV) (v : Value), cs[j]? = some c → vs[j]? = some v → VR Pr w c v
  | [], cs, h => by
    simp at h; subst h
    exact ⟨rfl, fun j c v h => by simp at h⟩
  | v :: vs, cs, h => by
    rw [List.mapM_cons] at h
    simp only [Option.bind_eq_bind, Option.bind_eq_some_iff] at h
    obtain ⟨d, h1, ds, h2, h3⟩ := h
    cases h3
    obtain ⟨k1, k2⟩ := mapM_consts (w := w) h2
    refine ⟨by simp [k1], fun j c v' hj hj' => ?_⟩
    cases j with
    | zero => cases hj; cases hj'; exact compConst_VR h1
    | succ j => exact k2 j c v' hj hj'

theorem compConst_cells {v : Value} {d : AV} (h : compConst v = some d) : v.cells = #[v] ∧ d.cells = [d] := by
  unfold compConst at h
  split at h <;> cases h <;> exact ⟨rfl, rfl⟩

/-- a zero value's cells -/
theorem compZero_cells {v : Value} {d : AV} (h : compZero v = some d) : d.cells.length = v.cells.size ∧ ∀ (j : Nat) (c : AV) (u : Value), d.cells[j]? = some c → v.cells[j]? = some u → VR Pr w c u := by
  unfold compZero at h
  split at h
  · rename_i cs
    rw [Option.map_eq_some_iff] at h
    obtain ⟨ds, h1, rfl⟩ := h
    obtain ⟨k1, k2⟩ := mapM_consts (Pr := Pr) (w := w) h1
    refine ⟨by simpa [AV.cells, Value.cells] using k1, fun j c u hj hu => k2 j c u hj ?_⟩
    simpa [Value.cells] using hu
  · rename_i hne
    obtain ⟨e1, e2⟩ := compConst_cells h
    rw [e1, e2]
    refine ⟨rfl, fun j c u hj hu => ?_⟩
    cases j with
    | zero => cases hj; simp at hu; subst hu; exact compConst_VR h
    | succ j => simp at hj

/-- a value by itself, cell by cell -/
theorem VR.cells {d : AV} {v : Value} (h : VR Pr w d v) : d.cells.length = v.cells.size ∧ ∀ (j : Nat) (c : AV) (u : Value), d.cells[j]? = some c → v.cells[j]? = some u → VR Pr w c u := by
  have one : ∀ {d : AV} {v : Value}, VR Pr w d v → d.cells = [d] → v.cells = #[v] → d.cells.length = v.cells.size ∧ ∀ (j : Nat) (c : AV) (u : Value), d.cells[j]? = some c → v.cells[j]? = some u → VR Pr w c u := by
    intro d v h e1 e2
    rw [e1, e2]
    refine ⟨rfl, fun j c u hj hu => ?_⟩
    cases j with
    | zero => cases hj; simp at hu; subst hu; exact h
    | succ j => simp at hj
  cases h with
  | agg cs vs hl hr =>
    refine ⟨by simpa [AV.cells, Value.cells] using hl, fun j c u hj hu => hr j c u hj ?_⟩
    simpa [Value.cells] using hu
  | cst v h1 =>
    refine one (.cst v h1) rfl ?_
    cases v <;> first | rfl | cases h1
  | int k m => exact one (.int k m) rfl rfl
  | bool b => exact one (.bool b) rfl rfl
  | str s => exact one (.str s) rfl rfl
  | nilp => exact one .nilp rfl rfl
  | sl l A cap z u h1 h2 h3 h4 => exact one (.sl l A cap z u h1 h2 h3 h4) rfl rfl
  | tup cs vs h1 h2 => exact one (.tup cs vs h1 h2) rfl rfl
  | rp cs b off u h1 h2 h3 => exact one (.rp cs b off u h1 h2 h3) rfl rfl
  | clo f fi ca vf vc h1 h2 h3 h4 => exact one (.clo f fi ca vf vc h1 h2 h3 h4) rfl rfl
  | mv es g ms c h1 h2 h3 h4 h5 h6 => exact one (.mv es g ms c h1 h2 h3 h4 h5 h6) rfl rfl

/-- the operation's end: a slot's value, and perhaps a new object -/
def Made (w0 : Start) (Pr0 : Nat → Nat → Prop) (n : Nat) (σ : St) (dst : Nat) (K : AV → Option Arr → List Nat → Prop) (a' : Act) (w' : World) : Prop :=
  ∃ μ' v s fz, K v s fz ∧ SR w0 Pr0 n μ' ((σ.fzs fz).made dst v s) a' w'

theorem fzs_none : ∀ {l : List Nat} {σ : St} {d : Nat}, σ.H d = none → (σ.fzs l).H d = none
  | [], σ, d, h => h
  | r :: l, σ, d, h => fzs_none (l := l) (σ := σ.fz r) (by
    show upd σ.H r _ d = none
    by_cases e : d = r
    · subst e; rw [upd_same, h]; rfl
    · rw [upd_ne _ _ e]; exact h)

theorem SR.made_none (h : SR w0 Pr0 n μ σ a w) {dst : Nat} (hd : dst < n) {d : AV} {v : Value} (hv : TR (PrOf w0 Pr0 μ σ.H) μ σ.H w d v) : SR w0 Pr0 n μ (σ.made dst d none) (a.put (some dst) v) w := h.put hd hv

/-- a new object of one element, and the pointer to it -/
theorem SR.made_box (h : SR w0 Pr0 n μ σ a w) {dst : Nat} (hd : dst < n) (h0 : σ.H dst = none) (hT : ∀ t, (σ.T t).name ≠ some dst) {z : Nat} {ty : TypeId} {d : AV} {v : Value} (hl : d.cells.length = z) (hz : 0 < z) (hones : d.cells.all AV.one = true)
    (hc : v.cells.size = z) (hv : ∀ (j : Nat) (c : AV) (u : Value), d.cells[j]? = some c → v.cells[j]? = some u → VR (PrOf w0 Pr0 μ σ.H) w c u) :
    SR w0 Pr0 n (upd μ dst (some w.heap.size)) (σ.made dst (.ptr dst 0 0) (some ⟨z, ty, [d], 0⟩)) (a.put (some dst) (.pointer (some ⟨w.heap.size, 0, none⟩))) (w.alloc (.cells v.cells ty)) := by
  have hb : Below w.heap.size w (w.alloc (.cells v.cells ty)) := (Below.refl _ _).alloc (Nat.le_refl _) _
  have hS := SR.adopt h hb (g := w.heap.size) (Nat.le_refl _) (Nat.lt_of_lt_of_le hd h.small) h0 hT (arr := ⟨z, ty, [d], 0⟩) (cs := v.cells) rfl hz (by
    intro x hx
    rw [List.mem_singleton] at hx
    subst hx
    exact ⟨hl, fun c hc => List.all_eq_true.1 hones c hc⟩) (heap_alloc_new w _) (by simp [hc]) (by
    intro i x j c hi hj
    cases i with
    | zero =>
      simp at hi; subst hi
      have hjl := (List.getElem?_eq_some_iff.1 hj).1
      have hu : v.cells[j]? = some (v.cells[j]'(by rw [hc, ← hl]; exact hjl)) := Array.getElem?_eq_getElem _
      refine ⟨_, by rw [Nat.zero_mul, Nat.zero_add]; exact hu, (hv j c _ hj hu).kept ⟨hb.size, fun b o hlt hp => ⟨hp, by omega⟩, fun b o hlt _ => hb.cell (p := ⟨b, o, none⟩) hlt, fun b ms c hlt _ e => by rw [hb.block b hlt]; exact e⟩⟩
    | succ i => simp at hi)
  refine SR.put hS hd ?_
  intro arr' ha'
  have ha2 : upd σ.H dst (some ⟨z, ty, [d], 0⟩) dst = some arr' := ha'
  rw [upd_same] at ha2
  cases ha2
  exact ⟨w.heap.size, upd_same _ _ _, by simp⟩

theorem alloc_sound {C : FuncId → List AV → AV → Prop} {o : Oper} {e : TypeId} {i : TypeInfo} {zv : Value} {d : AV} {dst : Nat} (ho : o.op = .alloc e) (hi : P.info? e = some i) (hz : i.zero = some zv) (hd : compZero zv = some d) (hdst : o.dst = some dst) (hn : dst < n)
    (h : SR w0 Pr0 n μ σ a w) (h0 : σ.H dst = none) (hT : ∀ t, (σ.T t).name ≠ some dst) {hid : List Nat} {K : AV → Option Arr → List Nat → Prop} (hE : evalM C dst hid σ K (.alloc i.size e d)) {Q : Exit → Act → World → Prop} :
    o.wp P a w (Made w0 Pr0 n σ dst K) Q := by
  simp only [evalM] at hE
  obtain ⟨h1, h2, h3, hK⟩ := hE
  obtain ⟨k1, k2⟩ := compZero_cells (Pr := PrOf w0 Pr0 μ σ.H) (w := w) hd
  have hrun : (execOp a.eval o).run P w = .ok (.value (.pointer (some ⟨w.heap.size, 0, none⟩))) (w.alloc (.cells zv.cells e)) := by
    simp [execOp, ho, Instr.alloc, zeroValue, typeInfo, hi, hz, newVar, newRow]
  unfold Oper.wp
  rw [hrun, Oper.upon_value, hdst]
  exact ⟨_, _, _, [], hK, h.made_box hn h0 hT h1 h2 h3 (by rw [← k1]; exact h1) k2⟩

theorem box_sound {C : FuncId → List AV → AV → Prop} {o : Oper} {e : TypeId} {i : TypeInfo} {x : Operand} {ix : IOpd} {dst : Nat} (ho : o.op = .box e x) (hi : P.info? e = some i) (hx : compOpd x = some ix) (hdst : o.dst = some dst) (hn : dst < n)
    (h : SR w0 Pr0 n μ σ a w) (h0 : σ.H dst = none) (hT : ∀ t, (σ.T t).name ≠ some dst) {hid : List Nat} {K : AV → Option Arr → List Nat → Prop} (hE : evalM C dst hid σ K (.box i.size e ix)) {Q : Exit → Act → World → Prop} :
    o.wp P a w (Made w0 Pr0 n σ dst K) Q := by
  simp only [evalM] at hE
  split at hE
  · rename_i d fz hbv
    obtain ⟨h1, h2, h3, hK⟩ := hE
    have hS : SR w0 Pr0 n μ (σ.fzs fz) a w := SR.fzs h
    have hv := h.byval hbv (h.get hx) hS fzs_all
    obtain ⟨k1, k2⟩ := hv.cells
    have hrun : (execOp a.eval o).run P w = .ok (.value (.pointer (some ⟨w.heap.size, 0, none⟩))) (w.alloc (.cells (a.eval x).cells e)) := by
      simp [execOp, ho, Instr.box, newVar, newRow]
    unfold Oper.wp
    rw [hrun, Oper.upon_value, hdst]
    exact ⟨_, _, _, fz, hK, hS.made_box hn (fzs_none h0) (by rw [fzs_T]; exact hT) h1 h2 h3 (by rw [← k1]; exact h1) k2⟩
  · exact hE.elim

theorem mknil_sound {C : FuncId → List AV → AV → Prop} {o : Oper} {z : Nat} {e : TypeId} {dst : Nat} (ho : o.op = .assign (.const (.slice none 0 0))) (hdst : o.dst = some dst) (hn : dst < n)
    (h : SR w0 Pr0 n μ σ a w) (h0 : σ.H dst = none) (hT : ∀ t, (σ.T t).name ≠ some dst) {hid : List Nat} {K : AV → Option Arr → List Nat → Prop} (hE : evalM C dst hid σ K (.mknil z e)) {Q : Exit → Act → World → Prop} :
    o.wp P a w (Made w0 Pr0 n σ dst K) Q := by
  simp only [evalM] at hE
  obtain ⟨h1, hK⟩ := hE
  have hrun : (execOp a.eval o).run P w = .ok (.value (.slice none 0 0)) w := by simp [execOp, ho, Act.eval]
  unfold Oper.wp
  rw [hrun, Oper.upon_value, hdst]
  obtain ⟨hS, hμ⟩ := h.adoptNil (Nat.lt_of_lt_of_le hn h.small) h0 hT (z := z) (ty := e) h1
  refine ⟨_, _, _, [], hK, SR.put hS hn ?_⟩
  intro arr ha
  exact .inl ⟨hμ, rfl, rfl, rfl⟩

theorem callFunc_run {f : FuncId} {args : Array Value} (h : funcOk P f = true) : (callFunc f args).run P w = .ok (.enter f args) w := by
  unfold funcOk at h
  split at h
  · rename_i fn hf
    simp only [Bool.and_eq_true, bne_iff_ne, ne_eq] at h
    obtain ⟨h1, h2⟩ := h
    have h3 : fn.body ≠ none := fun e => by rw [e] at h2; cases h2
    simp [callFunc, hf, h1, h3]
  · cases h

theorem getElem?_app3 {α : Type} {l1 l2 l3 : List α} {j : Nat} {x : α} (h : (l1 ++ l2 ++ l3)[j]? = some x) :
    (j < l1.length ∧ l1[j]? = some x) ∨ (l1.length ≤ j ∧ j - l1.length < l2.length ∧ l2[j - l1.length]? = some x) ∨ (l1.length + l2.length ≤ j ∧ l3[j - (l1.length + l2.length)]? = some x) := by
  rcases Nat.lt_or_ge j (l1 ++ l2).length with h1 | h1
  · rw [List.getElem?_append_left h1] at h
    rcases Nat.lt_or_ge j l1.length with h2 | h2
    · rw [List.getElem?_append_left h2] at h; exact .inl ⟨h2, h⟩
    · rw [List.getElem?_append_right h2] at h
      rw [List.length_append] at h1
      exact .inr (.inl ⟨h2, by omega, h⟩)
  · rw [List.getElem?_append_right h1] at h
    rw [List.length_append] at h1 h
    exact .inr (.inr ⟨h1, h⟩)

theorem call_sound {o : Oper} {c : Call} {f : Operand} {fx : IOpd} {xs : List IOpd} {dst : Nat} (ho : o.op = .call c) (hc : c.callee = .value f) (hf : compOpd f = some fx) (hxs : compOpds c.args.toList = some xs) (hdst : o.dst = some dst) (hn : dst < n)
    (h : SR w0 Pr0 n μ σ a w) (h0 : σ.H dst = none) (hT : ∀ t, (σ.T t).name ≠ some dst) {hid : List Nat} {K : AV → Option Arr → List Nat → Prop} (hE : evalM (AFn P) dst hid σ K (.callv fx xs)) {Q : Exit → Act → World → Prop} :
    o.wp P a w (Made w0 Pr0 n σ dst K) Q := by
  simp only [evalM] at hE
  have tf := h.get hf
  split at hE
  · rename_i g first caps e1
    rw [e1] at tf
    split at hE
    · rename_i ds fz hbv
      obtain ⟨r, hA, hK⟩ := hE
      have tf' : VR (PrOf w0 Pr0 μ σ.H) w (.clo g first caps) (a.eval f) := tf
      generalize hvf : a.eval f = vf at tf'
      cases tf' with
      | clo _ _ _ lf lc hf1 hc1 r1 r2 =>
        obtain ⟨l1, t1⟩ := h.gets hxs
        have hS : SR w0 Pr0 n μ (σ.fzs fz) a w := SR.fzs h
        obtain ⟨l2, b2⟩ := h.byvals hS hbv l1 t1 fzs_all
        have kfz : Kept (PrOf w0 Pr0 μ σ.H) (PrOf w0 Pr0 μ (σ.fzs fz).H) w w := by
          refine ⟨Nat.le_refl _, fun b o _ hp => ⟨hp.1, fun s hs => ?_⟩, fun _ _ _ _ => rfl, fun _ _ _ _ _ h => h⟩
          obtain ⟨arr, q1, q2⟩ := hp.2 s hs
          obtain ⟨arr', p1, p2, _⟩ := fzs_H (l := fz) q1
          refine ⟨arr', p1, ?_⟩
          rw [p2.z]
          rcases p2.prot with e | e <;> rw [e]
          · exact q2
          · exact Nat.lt_of_lt_of_le q2 (Nat.mul_le_mul_right _ (h.obj s arr q1).2.1)
        have hrun : (execOp a.eval o).run P w = .ok (.enter g (lf ++ c.args.toList.map a.eval ++ lc).toArray) w := by
          simp only [execOp, ho, resolve, hc, hvf, Deferred.ofValue]
          simp only [Sem.run_bind, Sem.run_pure, Result.andThen_ok, invoke]
          have e : lf.toArray ++ Array.map a.eval c.args ++ lc.toArray = (lf ++ c.args.toList.map a.eval ++ lc).toArray := by
            apply Array.ext'; simp
          rw [e]
          exact callFunc_run hA.ok
        unfold Oper.wp
        rw [hrun, Oper.upon_enter]
        -- the arguments' readings
        have hlen : (first ++ ds ++ caps).length = (lf ++ c.args.toList.map a.eval ++ lc).length := by
          simp only [List.length_append]; rw [hf1, l2, hc1]
        have hread : ∀ (j : Nat) (d : AV) (v : Value), (first ++ ds ++ caps)[j]? = some d → (lf ++ c.args.toList.map a.eval ++ lc)[j]? = some v → VR (PrOf w0 Pr0 μ (σ.fzs fz).H) w d v := by
          intro j d v hj hv
          rcases getElem?_app3 hj with ⟨q1, q2⟩ | ⟨q1, q2, q3⟩ | ⟨q1, q2⟩
          · rcases getElem?_app3 hv with ⟨p1, p2⟩ | ⟨p1, _⟩ | ⟨p1, _⟩
            · exact (r1 j d v q2 p2).kept kfz
            · omega
            · omega
          · rcases getElem?_app3 hv with ⟨p1, p2⟩ | ⟨p1, _, p3⟩ | ⟨p1, _⟩
            · omega
            · rw [hf1] at q3; exact b2 _ d v q3 p3
            · omega
          · rcases getElem?_app3 hv with ⟨p1, p2⟩ | ⟨p1, p2, p3⟩ | ⟨p1, p2⟩
            · omega
            · omega
            · rw [hf1, l2] at q2; exact (r2 _ d v q2 p2).kept kfz
        by_cases hflat : (∃ z ty l, r = .own z ty l) ∨ r.flatB = false
        · -- the arguments are frozen
          have hcalls := hA.calls w (fun b o => PrOf w0 Pr0 μ (σ.fzs fz).H b o ∧ b < w.heap.size) _ (h.glob.below h.below) (fun b o hp => hp.2) hlen
            (fun j d v hj hv => (hread j d v hj hv).kept ⟨Nat.le_refl _, fun b o hb hp => ⟨hp, hb⟩, fun _ _ _ _ => rfl, fun _ _ _ _ _ h => h⟩)
          refine hcalls.mono ?_
          rintro e w' ⟨v, rfl, hb, hr⟩
          show Made w0 Pr0 n σ dst K (a.put o.dst v) w'
          rw [hdst]
          have hS' := hS.grow hb
          have kr : ∀ {d : AV} {u : Value}, VR (fun b o => (PrOf w0 Pr0 μ (σ.fzs fz).H b o ∧ b < w.heap.size) ∨ w.heap.size ≤ b) w' d u → VR (PrOf w0 Pr0 μ (σ.fzs fz).H) w' d u := fun hv => hv.kept ⟨Nat.le_refl _, fun b o _ hp => by
            rcases hp with hp | hp
            · exact hp.1
            · exact ⟨fun hlt => absurd hlt (by have := h.below.size; omega), fun s hs => absurd (h.range s b hs).2 (by omega)⟩, fun _ _ _ _ => rfl, fun _ _ _ _ _ h => h⟩
          cases r with
          | own z ty l =>
            obtain ⟨q0, q1, q2⟩ := hr
            simp only [takeRes] at hK
            rcases q2 with ⟨rfl, rfl⟩ | ⟨b, cap, cs, rfl, p1, p2, p3, p4, p5, p6⟩
            · obtain ⟨hS2, hμ⟩ := hS'.adoptNil (Nat.lt_of_lt_of_le hn h.small) (fzs_none h0) (by rw [fzs_T]; exact hT) (z := z) (ty := ty) q0
              refine ⟨_, _, _, fz, hK, SR.put hS2 hn ?_⟩
              intro arr ha
              exact .inl ⟨hμ, rfl, rfl, rfl⟩
            · have hS2 := SR.adopt hS hb p1 (Nat.lt_of_lt_of_le hn h.small) (fzs_none h0) (by rw [fzs_T]; exact hT) (arr := ⟨z, ty, l, 0⟩) (cs := cs) rfl q0 q1 p2 (by rw [← p3]; exact Nat.mul_le_mul_right _ p4) (by
                intro i x j c hi hj
                obtain ⟨u, m1, m2⟩ := p6 i x j c hi hj
                refine ⟨u, m1, m2.kept ⟨Nat.le_refl _, fun b' o' _ hp => ⟨?_, hp.2⟩, fun _ _ _ _ => rfl, fun _ _ _ _ _ h => h⟩⟩
                rcases hp.1 with hp | hp
                · exact hp.1
                · exact ⟨fun hlt => absurd hlt (by have := h.below.size; omega), fun s hs => absurd (h.range s b' hs).2 (by omega)⟩)
              refine ⟨_, _, _, fz, hK, SR.put hS2 hn ?_⟩
              intro arr ha
              have ha2 : upd (σ.fzs fz).H dst (some ⟨z, ty, l, 0⟩) dst = some arr := ha
              rw [upd_same] at ha2
              cases ha2
              exact .inr ⟨b, cap, cs, upd_same _ _ _, by simp, p2, by rw [Nat.zero_add]; exact p3, by simp, p4, p5⟩
          | _ =>
            rcases hflat with ⟨_, _, _, hf'⟩ | hf'
            · cases hf'
            · simp only [takeRes] at hK
              first
                | (rw [if_neg (by rw [hf']; simp)] at hK
                   exact ⟨_, _, none, fz, hK, hS'.made_none hn (TR.of_VR (kr hr))⟩)
                | (cases hf')
        · -- the result holds no address
          have hr2 : r.flatB = true := by
            cases hb : r.flatB with
            | true => rfl
            | false => exact absurd (.inr hb) hflat
          have hno : ∀ z ty l, r ≠ .own z ty l := fun z ty l e => hflat (.inl ⟨z, ty, l, e⟩)
          have hcalls := hA.calls w (fun b o => b < w.heap.size) _ (h.glob.below h.below) (fun b o hp => hp) hlen
            (fun j d v hj hv => (hread j d v hj hv).kept ⟨Nat.le_refl _, fun b o hb hp => hb, fun _ _ _ _ => rfl, fun _ _ _ _ _ h => h⟩)
          refine hcalls.mono ?_
          rintro e w' ⟨v, rfl, hb, hr⟩
          show Made w0 Pr0 n σ dst K (a.put o.dst v) w'
          rw [hdst]
          have hS' := h.grow hb
          have hV : VR (PrOf w0 Pr0 μ σ.H) w' r v := by
            have hr' : VR (fun b o => b < w.heap.size ∨ w.heap.size ≤ b) w' r v := by
              cases r with
              | own z ty l => exact absurd rfl (hno z ty l)
              | _ => exact hr
            exact hr'.flat (AV.flat_of r hr2)
          have hK' : K r none [] := by
            cases r with
            | own z ty l => exact absurd rfl (hno z ty l)
            | _ => simp only [takeRes] at hK; rw [if_pos hr2] at hK; exact hK
          exact ⟨_, _, none, [], hK', hS'.made_none hn (TR.of_VR hV)⟩
    · exact hE.elim
  · exact hE.elim
end
end Go.Proofs.YtkdbphhekpdmhaaDoor
