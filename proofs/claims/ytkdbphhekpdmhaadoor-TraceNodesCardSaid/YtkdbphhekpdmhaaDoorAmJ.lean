/-
  The plain machine, tenth part: stores, appends.
-/
import Derived.Test.YtkdbphhekpdmhaaDoorAmI
import Derived.WalkSpells
namespace Go.Proofs.YtkdbphhekpdmhaaDoor
open Go.RowKit
set_option linter.unusedVariables false
set_option linter.unusedSimpArgs false

/-- z cells of a value, from f on, are others -/
def AV.patch (old : AV) (f z : Nat) (d : AV) : AV := if f = 0 ∧ z = old.cells.length then d else .agg (old.cells.take f ++ d.cells ++ old.cells.drop (f + z))

/-- forget what leads into an object -/
def sweep (T : Nat → AV) (r : Nat) : Nat → AV := fun t => if (T t).name = some r then .und else T t

/-- the bytes that a slice may grow to -/
def fitsV (len bytes : Nat) : Prop := len * bytes ≤ 140737488355328 ∧ len ≤ 140737488355328

/-- operations that write into own objects; K has the state and the value -/
def evalT (σ : St) (dst : Option Nat) (K : St → Prop) : IOp → Prop
  | .store z p x => match σ.get p with
    | .ptr r i f => match σ.byval [] (σ.get x) with
      | some (d, fz) => match (σ.fzs fz).H r with
        | some arr => match arr.cells[i]? with
          | some old => d.cells.length = z ∧ f + z ≤ old.cells.length ∧ arr.prot ≤ i ∧ d.cells.all AV.one = true ∧
            K ⟨σ.T, upd (σ.fzs fz).H r (some { arr with cells := arr.cells.set i (old.patch f z d) })⟩
          | none => False
        | none => False
      | none => False
    | _ => False
  | .append z ty bytes x y => match σ.get x, σ.byval [] (σ.get y), dst with
    | .rs r 0 len, some (.sl l, fz), some dst => match (σ.fzs fz).H r with
      | some arr => r < 1000 ∧ arr.z = z ∧ arr.ty = ty ∧ arr.prot ≤ len ∧ fitsV (len + l.length) bytes ∧ (∀ d, d ∈ l → d.cells.length = z ∧ d.cells.all AV.one = true) ∧
        K ⟨upd (sweep σ.T r) dst (.rs r 0 (len + l.length)), upd (σ.fzs fz).H r (some { arr with cells := arr.cells.take len ++ l })⟩
      | none => False
    | _, _, _ => False
  | .nileq neq x => match σ.get x, dst with
    | .sl l, some dst => (l.isEmpty = true → K (σ.set dst (.bool (!neq)))) ∧ K (σ.set dst (.bool neq))
    | .rs r off len, some dst => (σ.H r).isSome = true ∧ (len = 0 → K (σ.set dst (.bool (!neq)))) ∧ K (σ.set dst (.bool neq))
    | _, _ => False
  | _ => False

section
variable {P : Program} {w0 : Start} {Pr0 : Nat → Nat → Prop} {n : Nat} {μ : Nat → Option Nat} {σ : St} {a : Act} {w : World} {Pr : Nat → Nat → Prop} {H : Nat → Option Arr}

/-- what a write of an own object's block keeps -/
theorem SR.keptAt (h : SR w0 Pr0 n μ σ a w) {w' : World} {r g : Nat} {arr' : Arr} (hsz : w.heap.size ≤ w'.heap.size) (hoth : ∀ k, k < w.heap.size → k ≠ g → w'.heap[k]? = w.heap[k]?) (hg : μ r = some g ∨ w.heap.size ≤ g)
    (hkeep : ∀ arr, σ.H r = some arr → μ r = some g → arr.z = arr'.z ∧ arr.prot ≤ arr'.prot ∧ ∀ o, o < arr.prot * arr.z → w'.cell? ⟨g, o, none⟩ = w.cell? ⟨g, o, none⟩) :
    Kept (PrOf w0 Pr0 μ σ.H) (PrOf w0 Pr0 (upd μ r (some g)) (upd σ.H r (some arr'))) w w' := by
  refine ⟨hsz, fun b o hlt hp => ⟨hp.1, fun s hs => ?_⟩, fun b o hlt hp => ?_, fun b ms c hlt hp hm => ?_⟩
  · by_cases e : s = r
    · subst e
      rw [upd_same] at hs; cases hs
      rw [upd_same]
      refine ⟨arr', rfl, ?_⟩
      rcases hg with hg | hg
      · obtain ⟨arr, q1, q2⟩ := hp.2 s hg
        obtain ⟨k1, k2, k3⟩ := hkeep arr q1 hg
        rw [← k1]
        exact Nat.lt_of_lt_of_le q2 (Nat.mul_le_mul_right _ k2)
      · omega
    · rw [upd_ne _ _ e] at hs ⊢
      exact hp.2 s hs
  · by_cases e : b = g
    · subst e
      rcases hg with hg | hg
      · obtain ⟨arr, q1, q2⟩ := hp.2 r hg
        exact (hkeep arr q1 hg).2.2 o q2
      · omega
    · exact World.cell?_of_block (w := w) (hoth b hlt e)
  · by_cases e : b = g
    · subst e
      rcases hg with hg | hg
      · obtain ⟨arr, q1, q2⟩ := hp.2 r hg
        obtain ⟨o1, o2, o3, o4⟩ := h.obj r arr q1
        rw [hg] at o4
        rcases o4 with ⟨p0, _⟩ | ⟨cs, p1, _⟩
        · rw [p0] at o2
          have : arr.prot = 0 := Nat.le_zero.1 o2
          rw [this, Nat.zero_mul] at q2
          omega
        · rw [p1] at hm; cases hm
      · omega
    · rw [hoth b hlt e]; exact hm

theorem SR.remake (h : SR w0 Pr0 n μ σ a w) {w' : World} {r g : Nat} {arr' : Arr} {cs' : Array Value} (hB : Below w0.w.heap.size w0.w w') (hsz : w.heap.size ≤ w'.heap.size) (hoth : ∀ k, k < w.heap.size → k ≠ g → w'.heap[k]? = w.heap[k]?) (hg : μ r = some g ∨ w.heap.size ≤ g)
    (hblk : w'.heap[g]? = some (.cells cs' arr'.ty (0, 0)))
    (hkeep : ∀ arr, σ.H r = some arr → μ r = some g → arr.z = arr'.z ∧ arr.prot ≤ arr'.prot ∧ ∀ o, o < arr.prot * arr.z → w'.cell? ⟨g, o, none⟩ = w.cell? ⟨g, o, none⟩)
    (hz : 0 < arr'.z) (hp : arr'.prot ≤ arr'.cells.length) (hones : ∀ x, x ∈ arr'.cells → x.cells.length = arr'.z ∧ ∀ c, c ∈ x.cells → c.one = true) (hcs : arr'.cells.length * arr'.z ≤ cs'.size)
    (hel : ∀ (i : Nat) (x : AV) (j : Nat) (c : AV), arr'.cells[i]? = some x → x.cells[j]? = some c → ∃ u, cs'[i * arr'.z + j]? = some u ∧ VR (PrOf w0 Pr0 μ σ.H) w c u) (hr : (σ.H r).isSome)
    {T' : Nat → AV} (hT : ∀ t, T' t = .und ∨ (T' t = σ.T t ∧ ((σ.T t).name ≠ some r ∨ ∀ v, TR (PrOf w0 Pr0 μ σ.H) μ σ.H w (σ.T t) v → TR (PrOf w0 Pr0 (upd μ r (some g)) (upd σ.H r (some arr'))) (upd μ r (some g)) (upd σ.H r (some arr')) w' (σ.T t) v)))
    (hFr : ∀ d v, w0.F d v → d.name ≠ some r ∨ ∀ u, TR (PrOf w0 Pr0 μ σ.H) μ σ.H w d u → TR (PrOf w0 Pr0 (upd μ r (some g)) (upd σ.H r (some arr'))) (upd μ r (some g)) (upd σ.H r (some arr')) w' d u) :
    SR w0 Pr0 n (upd μ r (some g)) ⟨T', upd σ.H r (some arr')⟩ a w' := by
  have k := h.keptAt (arr' := arr') hsz hoth hg hkeep
  have hgB : w0.w.heap.size ≤ g := by
    rcases hg with hg | hg
    · exact (h.range r g hg).1
    · exact Nat.le_trans h.below.size hg
  have hne : ∀ s b, s ≠ r → μ s = some b → b ≠ g := fun s b hs hb e => by
    subst e
    rcases hg with hg | hg
    · exact hs (h.inj s r b hb hg)
    · have := (h.range s b hb).2; omega
  have tr : ∀ v u, v.name ≠ some r → TR (PrOf w0 Pr0 μ σ.H) μ σ.H w v u → TR (PrOf w0 Pr0 (upd μ r (some g)) (upd σ.H r (some arr'))) (upd μ r (some g)) (upd σ.H r (some arr')) w' v u := by
    intro v u hn ht
    cases v with
    | und => trivial
    | own => exact ht
    | clom f s =>
      have hs : s ≠ r := fun e => hn (by rw [e]; rfl)
      intro ar har
      have har := (upd_ne σ.H _ hs).symm.trans har
      rw [upd_ne _ _ hs]
      exact ht ar har
    | mp s es =>
      have hs : s ≠ r := fun e => hn (by rw [e]; rfl)
      intro ar har
      have har := (upd_ne σ.H _ hs).symm.trans har
      rw [upd_ne _ _ hs]
      obtain ⟨b, ms, c, q1, q2, q3, q4⟩ := ht ar har
      exact ⟨b, ms, c, q1, q2, by rw [hoth b (h.range s b q1).2 (hne s b hs q1)]; exact q3, q4.kept k⟩
    | ptr s i f =>
      have hs : s ≠ r := fun e => hn (by rw [e]; rfl)
      intro ar har
      have har := (upd_ne σ.H _ hs).symm.trans har
      rw [upd_ne _ _ hs]
      exact ht ar har
    | rs s off len =>
      have hs : s ≠ r := fun e => hn (by rw [e]; rfl)
      intro ar har
      have har := (upd_ne σ.H _ hs).symm.trans har
      rw [upd_ne _ _ hs]
      rcases ht ar har with q | ⟨b, cap, cs, q1, q2, q3, q4⟩
      · exact .inl q
      · exact .inr ⟨b, cap, cs, q1, q2, by rw [hoth b (h.range s b q1).2 (hne s b hs q1)]; exact q3, q4⟩
    | _ => exact VR.kept k ht
  refine ⟨hB, fun s s' b hs hs' => ?_, fun s b hs => ?_, fun s b hs => ?_, h.size, fun t => ?_, fun s ar har => ?_, h.defers, h.glob, h.small, fun v u hf => ⟨(h.frame v u hf).1, ?_⟩⟩
  · by_cases e : s = r
    · subst e; rw [upd_same] at hs; cases hs
      by_cases e' : s' = s
      · exact e'.symm
      · rw [upd_ne _ _ e'] at hs'; exact absurd rfl (hne s' _ e' hs')
    · rw [upd_ne _ _ e] at hs
      by_cases e' : s' = r
      · subst e'; rw [upd_same] at hs'; cases hs'; exact absurd rfl (hne s _ e hs)
      · rw [upd_ne _ _ e'] at hs'; exact h.inj s s' b hs hs'
  · by_cases e : s = r
    · subst e; rw [upd_same] at hs; cases hs; exact ⟨hgB, block_lt hblk⟩
    · rw [upd_ne _ _ e] at hs
      have := h.range s b hs
      exact ⟨this.1, by omega⟩
  · show (upd σ.H r (some arr') s).isSome
    by_cases e : s = r
    · subst e; rw [upd_same]; rfl
    · rw [upd_ne _ _ e] at hs ⊢; exact h.live s b hs
  · show TR _ _ _ _ (T' t) _
    rcases hT t with e | ⟨e, hn⟩
    · rw [e]; trivial
    · rw [e]
      have ht := h.tmp t
      rcases hn with hn | hn
      · exact tr _ _ hn ht
      · exact hn _ ht
  · have har' : upd σ.H r (some arr') s = some ar := har
    by_cases e : s = r
    · subst e
      rw [upd_same] at har'
      cases har'
      refine ⟨hz, hp, hones, ?_⟩
      rw [upd_same]
      exact .inr ⟨cs', hblk, hcs, fun i x j c hi hj => let ⟨u, m1, m2⟩ := hel i x j c hi hj; ⟨u, m1, m2.kept k⟩⟩
    · rw [upd_ne _ _ e] at har'
      obtain ⟨q1, q2, q3, q4⟩ := h.obj s ar har'
      refine ⟨q1, q2, q3, ?_⟩
      rw [upd_ne _ _ e]
      cases hs : μ s with
      | none => rw [hs] at q4; exact q4
      | some b =>
        rw [hs] at q4
        rcases q4 with ⟨p0, ms, c, p1⟩ | ⟨cs, p1, p2, p3⟩
        · exact .inl ⟨p0, ms, c, by rw [hoth b (h.range s b hs).2 (hne s b e hs)]; exact p1⟩
        exact .inr ⟨cs, by rw [hoth b (h.range s b hs).2 (hne s b e hs)]; exact p1, p2, fun i x j c hi hj => let ⟨u, m1, m2⟩ := p3 i x j c hi hj; ⟨u, m1, m2.kept k⟩⟩
  · rcases hFr v u hf with e | e
    · exact tr v u e (h.frame v u hf).2
    · exact e u (h.frame v u hf).2

theorem below_setRow' {B g : Nat} {w0 w : World} (hb : Below B w0 w) (hBg : B ≤ g) (cs : Array Value) : Below B w0 (w.setRow g cs) :=
  hb.trans ⟨rfl, rfl, rfl, by simp, fun k hk => setRow_other w g k cs (by omega)⟩

theorem upd_self {α : Type} (f : Nat → α) (r : Nat) (x : α) (h : f r = x) : upd f r x = f := by
  funext s
  by_cases e : s = r
  · subst e; rw [upd_same, h]
  · rw [upd_ne _ _ e]

theorem patch_cells {old d : AV} {f z : Nat} (hd : d.cells.length = z) (hf : f + z ≤ old.cells.length) : (old.patch f z d).cells = old.cells.take f ++ d.cells ++ old.cells.drop (f + z) := by
  unfold AV.patch
  split
  · rename_i h
    obtain ⟨rfl, rfl⟩ := h
    simp
  · rfl

theorem nileq_sound {o : Oper} {op : BinOp} {neq : Bool} {t e yt : TypeId} {x y : Operand} {ix : IOpd} {dst : Nat} {n' c' : Nat} (ho : o.op = .binOp op t x (.const (.slice none n' c')) yt) (hop : op = if neq then .neq else .eql) (ht : P.underlying t = some (.slice e)) (hx : compOpd x = some ix) (hdst : o.dst = some dst) (hlt : dst < n)
    (h : SR w0 Pr0 n μ σ a w) {K : St → Prop} (hE : evalT σ (some dst) K (.nileq neq ix)) {Q : Exit → Act → World → Prop} :
    o.wp P a w (fun a' w' => ∃ μ' σ', K σ' ∧ SR w0 Pr0 n μ' σ' a' w') Q := by
  have tx := h.get hx
  have hrun : ∀ A N C, a.eval x = .slice A N C → (execOp a.eval o).run P w = .ok (.value (.bool (if neq then !A.isNone else A.isNone))) w := by
    intro A N C hv
    subst hop
    have hc : a.eval (.const (.slice none n' c')) = .slice none n' c' := rfl
    cases neq
    · simp [execOp, ho, hv, hc, eqGuard, Lib.run_eql_slice_nil w t e A N C n' c' ht]
    · simp [execOp, ho, hv, hc, eqGuard, run_neq_slice_nil_any w t e A N C n' c' ht]
  have fin : ∀ b, (execOp a.eval o).run P w = .ok (.value (.bool b)) w → K (σ.set dst (.bool b)) → o.wp P a w (fun a' w' => ∃ μ' σ', K σ' ∧ SR w0 Pr0 n μ' σ' a' w') Q := by
    intro b hr hk
    unfold Oper.wp
    rw [hr, Oper.upon_value, hdst]
    exact ⟨μ, _, hk, h.put hlt (TR.of_VR (.bool b))⟩
  simp only [evalT] at hE
  split at hE
  · rename_i l d e1 e2
    cases e2
    rw [e1] at tx
    have tx' : VR (PrOf w0 Pr0 μ σ.H) w (.sl l) (a.eval x) := tx
    obtain ⟨A, C, hv, hA⟩ : ∃ A C, a.eval x = .slice A l.length C ∧ (0 < l.length → A.isNone = false) := by
      generalize a.eval x = v at tx'
      cases tx' with
      | sl _ A cap z u hcap hmax hA hr => exact ⟨A, cap, rfl, fun h0 => by obtain ⟨b, off, rfl, _⟩ := hA h0; rfl⟩
    have hr := hrun _ _ _ hv
    cases hn : A.isNone with
    | true =>
      rw [hn] at hr
      have hl : l.isEmpty = true := by
        cases l with
        | nil => rfl
        | cons y l => rw [hA (by simp)] at hn; cases hn
      exact fin _ hr (by cases neq <;> exact hE.1 hl)
    | false =>
      rw [hn] at hr
      exact fin _ hr (by cases neq <;> exact hE.2)
  · rename_i r off len d e1 e2
    cases e2
    rw [e1] at tx
    obtain ⟨hs, hE1, hE2⟩ := hE
    obtain ⟨arr, ha⟩ := Option.isSome_iff_exists.1 hs
    rcases tx arr ha with ⟨m1, m2, m3, m4⟩ | ⟨g, cap, cs, m1, m2, m3, m4, m5, m6, m7⟩
    · exact fin _ (hrun _ _ _ m2) (by cases neq <;> exact hE1 m4)
    · exact fin _ (hrun _ _ _ m2) (by cases neq <;> exact hE2)
  · exact hE.elim

theorem store_sound {o : Oper} {t : TypeId} {z : Nat} {agg : Bool} {p x : Operand} {ip ix : IOpd} (ho : o.op = .store t p x) (ht : tyOf P t = some (z, agg)) (hp : compOpd p = some ip) (hx : compOpd x = some ix) (hdst : o.dst = none)
    (h : SR w0 Pr0 n μ σ a w) {K : St → Prop} (hE : evalT σ none K (.store z ip ix)) {Q : Exit → Act → World → Prop} :
    o.wp P a w (fun a' w' => ∃ μ' σ', K σ' ∧ SR w0 Pr0 n μ' σ' a' w') Q := by
  have tp := h.get hp
  simp only [evalT] at hE
  split at hE
  · rename_i r i f e1
    rw [e1] at tp
    split at hE
    · rename_i d fz hbv
      have hS : SR w0 Pr0 n μ (σ.fzs fz) a w := SR.fzs h
      have hv := h.byval hbv (h.get hx) hS fzs_all
      obtain ⟨c1, c2⟩ := hv.cells
      split at hE
      · rename_i arr ha
        split at hE
        · rename_i old hold
          obtain ⟨e2, e3, e4, e5, hK⟩ := hE
          obtain ⟨arr0, ha0⟩ : ∃ arr0, σ.H r = some arr0 := by
            cases hh : σ.H r with
            | some arr0 => exact ⟨arr0, rfl⟩
            | none => rw [fzs_none hh] at ha; cases ha
          obtain ⟨g, hg, hpv⟩ := tp arr0 ha0
          have hz0 : arr.z = arr0.z := by
            obtain ⟨a', q1, q2, _⟩ := fzs_H (l := fz) ha0
            rw [ha] at q1; cases q1; exact q2.z
          rw [← hz0] at hpv
          obtain ⟨o1, o2, o3, o4⟩ := hS.obj r arr ha
          rw [hg] at o4
          rcases o4 with ⟨q, _⟩ | ⟨cs, f1, f2, f3⟩
          · rw [q] at hold; simp at hold
          have hil : i < arr.cells.length := (List.getElem?_eq_some_iff.1 hold).1
          have hol := (o3 old (List.mem_of_getElem? hold)).1
          have hvc : (a.eval x).cells.size = z := by rw [← c1]; exact e2
          have hin : i * arr.z + f + z ≤ cs.size := by
            have : (i + 1) * arr.z ≤ arr.cells.length * arr.z := Nat.mul_le_mul_right _ hil
            rw [Nat.succ_mul] at this; omega
          have hone : ∀ u, u ∈ (a.eval x).cells.toList → u.oneCell' = true := by
            intro u hu
            obtain ⟨j, hj⟩ := List.mem_iff_getElem?.1 hu
            rw [Array.getElem?_toList] at hj
            have hjl := (Array.getElem?_eq_some_iff.1 hj).1
            have hd : d.cells[j]? = some (d.cells[j]'(by omega)) := List.getElem?_eq_getElem _
            exact (c2 j _ u hd hj).oneCell (List.all_eq_true.1 e5 _ (List.mem_of_getElem? hd))
          have hst := run_storeCells_at P g (i * arr.z + f) arr.ty (a.eval x).cells.toList 0 cs w f1 (by simp [hvc]; omega) hone
          have hrun : (execOp a.eval o).run P w = .ok .skip (w.setRow g (cs.toList.take (i * arr.z + f) ++ (a.eval x).cells.toList ++ cs.toList.drop (i * arr.z + f + z)).toArray) := by
            have hz : ∃ j, P.info? t = some j ∧ j.size = z := by
              unfold tyOf at ht
              split at ht
              · rename_i j ds hj _
                injection ht with ht
                injection ht with he1 _
                exact ⟨j, hj, he1⟩
              · cases ht
            obtain ⟨j, hj, hjz⟩ := hz
            simp only [Nat.add_zero, Array.length_toList, hvc] at hst
            simp only [execOp, ho, hpv, Instr.storeAt, Instr.sureAddr]
            simp [storeVar, sizeOf, typeInfo, hj, hjz, hvc, hst]
          unfold Oper.wp
          rw [hrun, Oper.upon_skip, hdst]
          obtain ⟨cs', hcs'⟩ : ∃ cs', (cs.toList.take (i * arr.z + f) ++ (a.eval x).cells.toList ++ cs.toList.drop (i * arr.z + f + z)).toArray = cs' := ⟨_, rfl⟩
          rw [hcs']
          have hl1 : (cs.toList.take (i * arr.z + f)).length = i * arr.z + f := by rw [List.length_take, Array.length_toList]; omega
          have hl2 : (a.eval x).cells.toList.length = z := by rw [Array.length_toList]; exact hvc
          have hcsz : cs'.size = cs.size := by rw [← hcs']; simp [hvc]; omega
          have hget1 : ∀ q, q < i * arr.z + f → cs'[q]? = cs[q]? := by
            intro q hq
            rw [← hcs', List.getElem?_toArray, List.append_assoc, List.getElem?_append_left (by omega), List.getElem?_take, if_pos hq, Array.getElem?_toList]
          have hget2 : ∀ q, q < z → cs'[i * arr.z + f + q]? = (a.eval x).cells[q]? := by
            intro q hq
            rw [← hcs', List.getElem?_toArray, List.append_assoc, List.getElem?_append_right (by omega), hl1, List.getElem?_append_left (by omega), show i * arr.z + f + q - (i * arr.z + f) = q by omega, Array.getElem?_toList]
          have hget3 : ∀ q, i * arr.z + f + z ≤ q → cs'[q]? = cs[q]? := by
            intro q hq
            rw [← hcs', List.getElem?_toArray, List.getElem?_append_right (by rw [List.length_append]; omega), List.length_append, hl1, hl2, List.getElem?_drop, show i * arr.z + f + z + (q - (i * arr.z + f + z)) = q by omega, Array.getElem?_toList]
          have hup : upd μ r (some g) = μ := upd_self μ r _ hg
          have hcl : ({ arr with cells := arr.cells.set i (old.patch f z d) } : Arr).cells.length = arr.cells.length := List.length_set
          have hpc := patch_cells (old := old) (d := d) (f := f) (z := z) e2 e3
          have hout : ∀ q, ¬ (i * arr.z + f ≤ q ∧ q < i * arr.z + f + z) → cs'[q]? = cs[q]? := by
            intro q hq
            rcases Nat.lt_or_ge q (i * arr.z + f) with h1 | h1
            · exact hget1 q h1
            · exact hget3 q (by omega)
          have hsame : ∀ v : AV, v.name = some r → ∀ u, TR (PrOf w0 Pr0 μ (σ.fzs fz).H) μ (σ.fzs fz).H w v u → TR (PrOf w0 Pr0 (upd μ r (some g)) (upd (σ.fzs fz).H r (some { arr with cells := arr.cells.set i (old.patch f z d) }))) (upd μ r (some g)) (upd (σ.fzs fz).H r (some { arr with cells := arr.cells.set i (old.patch f z d) })) (w.setRow g cs') v u := by
            rw [hup]
            intro v e u hu
            cases v with
            | ptr s i' f' =>
              cases e
              intro ar har
              rw [upd_same] at har; cases har
              exact hu arr ha
            | clom f' s =>
              cases e
              intro ar har
              rw [upd_same] at har; cases har
              exact hu arr ha
            | mp s es =>
              cases e
              obtain ⟨b, ms, c0, q1, q2, q3, q4⟩ := hu arr ha
              rw [hg] at q1; cases q1
              rw [f1] at q3; cases q3
            | rs s off len =>
              cases e
              intro ar har
              rw [upd_same] at har; cases har
              rcases hu arr ha with q | ⟨b, cap, cs0, q1, q2, q3, q4, q5, q6⟩
              · exact .inl q
              · rw [hg] at q1; cases q1
                rw [f1] at q3; cases q3
                exact .inr ⟨g, cap, cs', hg, q2, setRow_heap w g cs cs' arr.ty (0, 0) f1, by rw [hcsz]; exact q4, by rw [hcl]; exact q5, q6⟩
            | _ => cases e
          have hR := SR.remake hS (w' := w.setRow g cs') (r := r) (g := g) (arr' := { arr with cells := arr.cells.set i (old.patch f z d) }) (cs' := cs')
            (below_setRow' hS.below (h.range r g hg).1 cs') (by simp) (fun k hk hne => setRow_other w g k cs' hne) (.inl hg) (setRow_heap w g cs cs' arr.ty (0, 0) f1) (by
              intro ar har _
              rw [ha] at har; cases har
              refine ⟨rfl, Nat.le_refl _, fun q hq => ?_⟩
              rw [cell_setRow_same w g q cs cs' arr.ty (0, 0) f1, cell_row f1]
              refine hget1 q ?_
              have : arr.prot * arr.z ≤ i * arr.z := Nat.mul_le_mul_right _ e4
              omega) o1 (by rw [hcl]; exact o2) (by
              intro y hy
              rcases List.mem_or_eq_of_mem_set hy with hy | hy
              · exact o3 y hy
              · subst hy
                rw [hpc]
                refine ⟨by rw [List.length_append, List.length_append, List.length_take, List.length_drop, e2]; show _ = arr.z; omega, fun c hc => ?_⟩
                rcases List.mem_append.1 hc with hc | hc
                · rcases List.mem_append.1 hc with hc | hc
                  · exact (o3 old (List.mem_of_getElem? hold)).2 c (List.mem_of_mem_take hc)
                  · exact List.all_eq_true.1 e5 c hc
                · exact (o3 old (List.mem_of_getElem? hold)).2 c (List.mem_of_mem_drop hc)) (by rw [hcl, hcsz]; exact f2) (by
              intro k y j c hk hj
              have hk' : (arr.cells.set i (old.patch f z d))[k]? = some y := hk
              show ∃ u, cs'[k * arr.z + j]? = some u ∧ _
              by_cases e : k = i
              · subst e
                rw [List.getElem?_set_self hil] at hk'
                cases hk'
                rw [hpc] at hj
                rcases Nat.lt_or_ge j f with h1 | h1
                · rw [List.append_assoc, List.getElem?_append_left (by rw [List.length_take]; omega), List.getElem?_take, if_pos h1] at hj
                  obtain ⟨u, m1, m2⟩ := f3 k old j c hold hj
                  exact ⟨u, by rw [hout _ (by omega)]; exact m1, m2⟩
                · rcases Nat.lt_or_ge j (f + z) with h2 | h2
                  · rw [List.append_assoc, List.getElem?_append_right (by rw [List.length_take]; omega), List.length_take, Nat.min_eq_left (by omega), List.getElem?_append_left (by omega)] at hj
                    have hu : (a.eval x).cells[j - f]? = some ((a.eval x).cells[j - f]'(by omega)) := Array.getElem?_eq_getElem _
                    refine ⟨_, ?_, c2 _ c _ hj hu⟩
                    rw [show k * arr.z + j = k * arr.z + f + (j - f) by omega, hget2 _ (by omega)]
                    exact hu
                  · rw [List.getElem?_append_right (by rw [List.length_append, List.length_take]; omega), List.length_append, List.length_take, Nat.min_eq_left (by omega), e2, List.getElem?_drop, show f + z + (j - (f + z)) = j by omega] at hj
                    obtain ⟨u, m1, m2⟩ := f3 k old j c hold hj
                    exact ⟨u, by rw [hout _ (by omega)]; exact m1, m2⟩
              · rw [List.getElem?_set_ne (fun q => e q.symm)] at hk'
                obtain ⟨u, m1, m2⟩ := f3 k y j c hk' hj
                refine ⟨u, ?_, m2⟩
                have hjl : j < arr.z := by rw [← (o3 y (List.mem_of_getElem? hk')).1]; exact (List.getElem?_eq_some_iff.1 hj).1
                rw [hout _ ?_]
                · exact m1
                · rcases Nat.lt_or_ge k i with h1 | h1
                  · have : (k + 1) * arr.z ≤ i * arr.z := Nat.mul_le_mul_right _ h1
                    rw [Nat.succ_mul] at this; omega
                  · have : (i + 1) * arr.z ≤ k * arr.z := Nat.mul_le_mul_right _ (by omega)
                    rw [Nat.succ_mul] at this; omega) (by rw [ha]; rfl) (T' := σ.T) (by
              intro t
              refine .inr ⟨by rw [fzs_T], ?_⟩
              by_cases e : ((σ.fzs fz).T t).name = some r
              · exact .inr (hsame _ e)
              · exact .inl e) (fun v u hf => by
              by_cases e : v.name = some r
              · exact .inr (hsame _ e)
              · exact .inl e)
          rw [hup] at hR
          exact ⟨μ, _, hK, hR⟩
        · exact hE.elim
      · exact hE.elim
    · exact hE.elim
  · exact hE.elim

theorem run_append_zero {t ty e : TypeId} {i : TypeInfo} (ht : P.underlying t = some (.slice e)) (hi : P.info? e = some i) {base A : Option Addr} {len cap c : Nat} (hl : len ≤ cap) :
    (Builtin.append_ #[t, t] ty #[.slice base len cap, .slice A 0 c]).run P w = .ok (.slice base len cap) w := by
  cases A with
  | none =>
    cases base with
    | none => simp [Builtin.append_, run_underlying ht, sizeOf, typeInfo, hi, Builtin.lenOf, hl, Builtin.firstCells]
    | some b => simp [Builtin.append_, run_underlying ht, sizeOf, typeInfo, hi, Builtin.lenOf, hl, Builtin.firstCells, storeCells]
  | some a' =>
    cases base with
    | none => simp [Builtin.append_, run_underlying ht, sizeOf, typeInfo, hi, Builtin.lenOf, hl, Builtin.firstCells, loadCells, loadCellsFrom]
    | some b => simp [Builtin.append_, run_underlying ht, sizeOf, typeInfo, hi, Builtin.lenOf, hl, Builtin.firstCells, storeCells, loadCells, loadCellsFrom]

/-- the cells of a slice that is read -/
theorem VR.news {l : List AV} {v : Value} (h : VR Pr w (.sl l) v) (z : Nat) (hz : ∀ d, d ∈ l → d.cells.length = z ∧ d.cells.all AV.one = true) (h0 : 0 < l.length) :
    ∃ b off cap, ∃ news : List Value, v = .slice (some ⟨b, off, none⟩) l.length cap ∧ news.length = l.length * z ∧ (∀ (j : Nat) (u : Value), news[j]? = some u → w.cell? ((⟨b, off, none⟩ : Addr).add j) = some u) ∧ (∀ u, u ∈ news → u.oneCell' = true) ∧
      ∀ (i : Nat) (d : AV) (j : Nat) (c : AV), l[i]? = some d → d.cells[j]? = some c → ∃ u, news[i * z + j]? = some u ∧ VR Pr w c u := by
  cases h with
  | sl _ A cap z' u hcap hmax hA hr =>
    obtain ⟨b, off, rfl, hL⟩ := hA h0
    have hzz : z' = z := by rw [← hL.len l[0] (List.getElem_mem h0)]; exact (hz _ (List.getElem_mem h0)).1
    subst hzz
    have hq : ∀ q, q < l.length * z' → q / z' < l.length ∧ q % z' < z' ∧ q / z' * z' + q % z' = q := by
      intro q hq
      have hz0 : 0 < z' := by
        rcases Nat.eq_zero_or_pos z' with e | e
        · rw [e, Nat.mul_zero] at hq; omega
        · exact e
      exact ⟨Nat.div_lt_of_lt_mul (by rw [Nat.mul_comm]; exact hq), Nat.mod_lt _ hz0, by rw [Nat.mul_comm]; exact Nat.div_add_mod q z'⟩
    have hnew : ∀ q x, ((List.range (l.length * z')).map fun q => u (q / z') (q % z'))[q]? = some x → q < l.length * z' ∧ x = u (q / z') (q % z') := by
      intro q x hx
      have hlt : q < l.length * z' := by have := (List.getElem?_eq_some_iff.1 hx).1; simpa using this
      simp [hlt] at hx
      exact ⟨hlt, hx.symm⟩
    refine ⟨b, off, cap, (List.range (l.length * z')).map (fun q => u (q / z') (q % z')), rfl, by simp, fun q x hx => ?_, fun x hx => ?_, fun i d j c hi hj => ?_⟩
    · obtain ⟨hlt, rfl⟩ := hnew q x hx
      obtain ⟨q1, q2, q3⟩ := hq q hlt
      have := (hL.at_ _ _ q1 q2).2
      rw [add_none]
      rw [q3] at this
      exact this
    · obtain ⟨q, hqx⟩ := List.mem_iff_getElem?.1 hx
      obtain ⟨hlt, rfl⟩ := hnew q x hqx
      obtain ⟨q1, q2, q3⟩ := hq q hlt
      have hd : l[q / z']? = some (l[q / z']) := List.getElem?_eq_getElem q1
      have hdl := hz _ (List.mem_of_getElem? hd)
      have hc : (l[q / z']).cells[q % z']? = some ((l[q / z']).cells[q % z']'(by rw [hdl.1]; exact q2)) := List.getElem?_eq_getElem _
      exact (hr _ _ _ _ hd hc).oneCell (List.all_eq_true.1 hdl.2 _ (List.mem_of_getElem? hc))
    · have hil := (List.getElem?_eq_some_iff.1 hi).1
      have hjl : j < z' := by rw [← (hz d (List.mem_of_getElem? hi)).1]; exact (List.getElem?_eq_some_iff.1 hj).1
      have hlt := idx_lt hil hjl
      have e1 : (i * z' + j) / z' = i := by rw [Nat.mul_comm, Nat.mul_add_div (by omega), Nat.div_eq_of_lt hjl, Nat.add_zero]
      have e2 : (i * z' + j) % z' = j := by rw [Nat.mul_comm, Nat.mul_add_mod, Nat.mod_eq_of_lt hjl]
      refine ⟨u i j, ?_, hr i d j c hi hj⟩
      simp [hlt, e1, e2]

theorem append_sound {o : Oper} {c : Call} {t e : TypeId} {i : TypeInfo} {zv : Value} {x y : Operand} {ix iy : IOpd} {dst : Nat} (ho : o.op = .call c) (hc : c.callee = .builtin .append) (hargs : c.args.toList = [x, y]) (hts : c.argTypes = #[t, t]) (ht : P.underlying t = some (.slice e)) (hi : P.info? e = some i) (hzv : i.zero = some zv) (hzs : zv.cells.size = i.size)
    (hx : compOpd x = some ix) (hy : compOpd y = some iy) (hdst : o.dst = some dst) (hn : dst < n)
    (h : SR w0 Pr0 n μ σ a w) {K : St → Prop} (hE : evalT σ (some dst) K (.append i.size e i.bytes ix iy)) {Q : Exit → Act → World → Prop} :
    o.wp P a w (fun a' w' => ∃ μ' σ', K σ' ∧ SR w0 Pr0 n μ' σ' a' w') Q := by
  have tx := h.get hx
  have ty := h.get hy
  have hrun := run_builtin (P := P) (a := a) (w := w) ho hc
  rw [call2 hargs, hts] at hrun
  simp only [evalT] at hE
  split at hE
  · rename_i r len l fz dst' e1 hbv hdd
    cases hdd
    rw [e1] at tx
    have hS : SR w0 Pr0 n μ (σ.fzs fz) a w := SR.fzs h
    have hv := h.byval hbv ty hS fzs_all
    split at hE
    · rename_i arr ha
      obtain ⟨e0, e2, e3, e4, e5, e6, hK⟩ := hE
      obtain ⟨arr0, ha0⟩ : ∃ arr0, σ.H r = some arr0 := by
        cases hh : σ.H r with
        | some arr0 => exact ⟨arr0, rfl⟩
        | none => rw [fzs_none hh] at ha; cases ha
      have hfz : Frozen arr0 arr := by
        obtain ⟨a', q1, q2, _⟩ := fzs_H (l := fz) ha0
        rw [ha] at q1; cases q1; exact q2
      obtain ⟨o1, o2, o3, o4⟩ := hS.obj r arr ha
      have hfinish : ∀ (g cap : Nat) (cs' : Array Value) (w' : World), (execOp a.eval o).run P w = .ok (.value (.slice (some ⟨g, 0, none⟩) (len + l.length) cap)) w' → Below w0.w.heap.size w0.w w' → w.heap.size ≤ w'.heap.size →
          (∀ k, k < w.heap.size → k ≠ g → w'.heap[k]? = w.heap[k]?) → (μ r = some g ∨ w.heap.size ≤ g) → w'.heap[g]? = some (.cells cs' arr.ty (0, 0)) → cap * arr.z = cs'.size → len + l.length ≤ cap → cap ≤ maxLen →
          (μ r = some g → ∀ o, o < arr.prot * arr.z → w'.cell? ⟨g, o, none⟩ = w.cell? ⟨g, o, none⟩) → len ≤ arr.cells.length →
          (∀ (k : Nat) (y : AV) (j : Nat) (c : AV), (arr.cells.take len ++ l)[k]? = some y → y.cells[j]? = some c → ∃ u, cs'[k * arr.z + j]? = some u ∧ VR (PrOf w0 Pr0 μ (σ.fzs fz).H) w c u) →
          o.wp P a w (fun a' w' => ∃ μ' σ', K σ' ∧ SR w0 Pr0 n μ' σ' a' w') Q := by
        intro g cap cs' w' hrun' hB hsz hoth hg hblk hcap hle hmax hkeep hll hel
        unfold Oper.wp
        rw [hrun', Oper.upon_value, hdst]
        have hlen2 : (arr.cells.take len ++ l).length = len + l.length := by rw [List.length_append, List.length_take, Nat.min_eq_left hll]
        have hR := SR.remake hS (w' := w') (r := r) (g := g) (arr' := { arr with cells := arr.cells.take len ++ l }) (cs' := cs') hB hsz hoth hg hblk (by
            intro ar har hg'
            rw [ha] at har; cases har
            exact ⟨rfl, Nat.le_refl _, hkeep hg'⟩) o1 (by show arr.prot ≤ _; rw [hlen2]; omega) (by
            intro y hy
            rcases List.mem_append.1 hy with hy | hy
            · exact o3 y (List.mem_of_mem_take hy)
            · exact ⟨by rw [(e6 y hy).1]; exact e2.symm, fun c hc => List.all_eq_true.1 (e6 y hy).2 c hc⟩) (by show _ * arr.z ≤ _; rw [hlen2, ← hcap]; exact Nat.mul_le_mul_right _ hle) hel (by rw [ha]; rfl) (T' := sweep σ.T r) (by
            intro t
            unfold sweep
            by_cases e : (σ.T t).name = some r
            · left; rw [if_pos e]
            · right; rw [if_neg e, fzs_T]; exact ⟨rfl, .inl e⟩) (fun v u hf => .inl fun e => by have := (h.frame v u hf).1 r e; omega)
        refine ⟨_, _, hK, SR.put hR hn ?_⟩
        intro ar har
        have har' : upd (σ.fzs fz).H r (some { arr with cells := arr.cells.take len ++ l }) r = some ar := har
        rw [upd_same] at har'
        cases har'
        exact .inr ⟨g, cap, cs', upd_same _ _ _, by simp, hblk, by rw [Nat.zero_add]; exact hcap, by show 0 + (len + l.length) ≤ _; rw [hlen2]; omega, hle, hmax⟩
      have hm9 : maxLen = 9223372036854775807 := rfl
      obtain ⟨b1, b2⟩ := e5
      by_cases hl0 : l.length = 0
      · have hlnil : l = [] := List.length_eq_zero_iff.1 hl0
        subst hlnil
        obtain ⟨A, cy, hyv⟩ : ∃ A cy, a.eval y = .slice A 0 cy := by
          generalize a.eval y = v at hv
          cases hv with
          | sl _ A cap z u hcap hmax hA hr => exact ⟨A, cap, rfl⟩
        rcases tx arr0 ha0 with ⟨m1, m2, m3, m4⟩ | ⟨g, cap, cs, m1, m2, m3, m4, m5, m6, m7⟩
        · -- nil and nothing
          subst m4
          have hr0 : (execOp a.eval o).run P w = .ok (.value (.slice none 0 0)) w := by
            rw [hrun]
            simp only [List.map_toArray, List.map_cons, List.map_nil, m2, hyv, builtin, Sem.run_bind, run_append_zero ht hi (Nat.le_refl 0)]
            rfl
          unfold Oper.wp
          rw [hr0, Oper.upon_value, hdst]
          rw [m1] at o4
          have hc0 : arr.cells = [] := o4
          have hH : upd (σ.fzs fz).H r (some { arr with cells := arr.cells.take 0 ++ [] }) = (σ.fzs fz).H := upd_self _ r _ (by rw [ha]; congr 1; rw [hc0]; cases arr; simp at hc0; subst hc0; rfl)
          have hS3 : SR w0 Pr0 n μ ⟨sweep σ.T r, (σ.fzs fz).H⟩ a w := SR.forget hS (sweep σ.T r) (fun t => by
            unfold sweep
            rw [fzs_T]
            by_cases e : (σ.T t).name = some r
            · right; rw [if_pos e]
            · left; rw [if_neg e])
          have hS4 := SR.put hS3 hn (d := .rs r 0 (0 + ([] : List AV).length)) (v := .slice none 0 0) (fun ar har => .inl ⟨m1, rfl, rfl, rfl⟩)
          refine ⟨μ, _, hK, ?_⟩
          rw [hH]
          exact hS4
        · have hz0 := hfz.z
          rw [m1] at o4
          rcases o4 with ⟨_, ms, c0, q⟩ | ⟨cs0, f1, f2, f3⟩
          · rw [m3] at q; cases q
          have hty := hfz.ty
          rw [← hty] at m3
          rw [m3] at f1; cases f1
          have hr0 : (execOp a.eval o).run P w = .ok (.value (.slice (some ⟨g, 0, none⟩) (len + ([] : List AV).length) cap)) w := by
            rw [hrun]
            simp only [List.map_toArray, List.map_cons, List.map_nil, m2, hyv, builtin, Sem.run_bind, run_append_zero ht hi m6, Nat.zero_mul]
            rfl
          refine hfinish g cap cs w hr0 h.below (Nat.le_refl _) (fun _ _ _ => rfl) (.inl m1) m3 (by rw [hz0, ← m4, Nat.zero_add]) (by simpa using m6) m7 (fun _ _ _ => rfl) (by rw [hfz.cells]; omega) ?_
          intro k y' j c hk hj
          rw [List.append_nil, List.getElem?_take] at hk
          split at hk
          · exact f3 k y' j c hk hj
          · cases hk
      · have hlpos : 0 < l.length := by omega
        obtain ⟨b, off, cy, news, hyv, n1, n2, n3, n4⟩ := hv.news i.size e6 hlpos
        have hsz : 0 < i.size := by rw [← e2]; exact o1
        rcases tx arr0 ha0 with ⟨m1, m2, m3, m4⟩ | ⟨g, cap, cs, m1, m2, m3, m4, m5, m6, m7⟩
        · -- nil
          subst m4
          have hra := run_append_nil (P := P) w t o.type e i zv ht hi hzv ⟨b, off, none⟩ l.length cy news n1 n2 hlpos (by omega) (by rw [Nat.zero_add] at b1; omega)
          have hr0 : (execOp a.eval o).run P w = .ok (.value (.slice (some ⟨w.heap.size, 0, none⟩) (0 + l.length) (grownCap w l.length 0 e))) (w.drew.alloc (.cells (news.toArray ++ Builtin.zeroCells zv.cells (grownCap w l.length 0 e - l.length)) e)) := by
            rw [hrun]
            simp only [List.map_toArray, List.map_cons, List.map_nil, m2, hyv, builtin, Sem.run_bind, hra, Nat.zero_add]
            rfl
          rw [m1] at o4
          have hc0 : arr.cells = [] := o4
          have hge := grownCap_ge w l.length 0 e
          refine hfinish w.heap.size _ (news.toArray ++ Builtin.zeroCells zv.cells (grownCap w l.length 0 e - l.length)) _ hr0 (h.below.drew.alloc (by have := h.below.size; exact this) _) (by simp) (fun k hk _ => Below.heap_alloc w.drew _ k hk) (.inr (Nat.le_refl _)) (by rw [e3]; exact heap_alloc_new w.drew _) ?_ (by omega) (grownCap_le_maxLen w _ _ e (by omega)) (fun hg => by rw [m1] at hg; cases hg) (Nat.zero_le _) ?_
          · simp only [Array.size_append, List.size_toArray, n1, size_zeroCells, hzs, e2]
            rw [← Nat.add_mul]; congr 1; omega
          · intro k y' j c hk hj
            rw [List.take_zero, List.nil_append] at hk
            obtain ⟨u, q1, q2⟩ := n4 k y' j c hk hj
            refine ⟨u, ?_, q2⟩
            rw [e2, Array.getElem?_append_left (by have := (List.getElem?_eq_some_iff.1 q1).1; simpa using this)]
            simpa using q1
        · have hz0 := hfz.z
          have hty := hfz.ty
          rw [m1] at o4
          rcases o4 with ⟨_, ms, c0, q⟩ | ⟨cs0, f1, f2, f3⟩
          · rw [m3] at q; cases q
          rw [← hty] at m3
          rw [m3] at f1; cases f1
          rw [← hz0] at m4
          have hll : len ≤ arr.cells.length := by rw [hfz.cells]; omega
          have hcz : cap * i.size = cs.size := by rw [← e2, ← m4, Nat.zero_add]
          by_cases hroom : len + l.length ≤ cap
          · -- there is room
            have hbase : a.eval x = .slice (some ⟨g, 0, none⟩) len cap := by rw [m2]; simp
            have hfit : len * i.size + news.length ≤ cs.size := by
              rw [n1, ← Nat.add_mul, ← hcz]; exact Nat.mul_le_mul_right _ hroom
            have hra := run_append_room (P := P) (w := w) t o.type e i ht hi g len cap cs (by rw [← e3]; exact m3) ⟨b, off, none⟩ l.length cy news n1 n2 n3 hroom hfit
            obtain ⟨cs', hcs'⟩ : ∃ cs', (cs.toList.take (len * i.size) ++ news ++ cs.toList.drop (len * i.size + news.length)).toArray = cs' := ⟨_, rfl⟩
            rw [hcs'] at hra
            have hr0 : (execOp a.eval o).run P w = .ok (.value (.slice (some ⟨g, 0, none⟩) (len + l.length) cap)) (w.setRow g cs') := by
              rw [hrun]
              simp only [List.map_toArray, List.map_cons, List.map_nil, hbase, hyv, builtin, Sem.run_bind, hra]
              rfl
            have hl1 : (cs.toList.take (len * i.size)).length = len * i.size := by rw [List.length_take, Array.length_toList]; omega
            have hcsz : cs'.size = cs.size := by rw [← hcs']; simp; omega
            have hget1 : ∀ q, q < len * i.size → cs'[q]? = cs[q]? := by
              intro q hq
              rw [← hcs', List.getElem?_toArray, List.append_assoc, List.getElem?_append_left (by omega), List.getElem?_take, if_pos hq, Array.getElem?_toList]
            have hget2 : ∀ q, q < news.length → cs'[len * i.size + q]? = news[q]? := by
              intro q hq
              rw [← hcs', List.getElem?_toArray, List.append_assoc, List.getElem?_append_right (by omega), hl1, List.getElem?_append_left (by omega), show len * i.size + q - len * i.size = q by omega]
            refine hfinish g cap cs' _ hr0 (below_setRow' h.below (h.range r g m1).1 cs') (by simp) (fun k hk hne => setRow_other w g k cs' hne) (.inl m1) (setRow_heap w g cs cs' arr.ty (0, 0) m3) (by rw [hcsz, ← hcz, e2]) hroom m7 ?_ hll ?_
            · intro _ q hq
              rw [cell_setRow_same w g q cs cs' arr.ty (0, 0) m3, cell_row m3]
              refine hget1 q ?_
              have : arr.prot * arr.z ≤ len * i.size := by rw [e2]; exact Nat.mul_le_mul_right _ e4
              omega
            · intro k y' j c hk hj
              rcases Nat.lt_or_ge k len with h1 | h1
              · rw [List.getElem?_append_left (by rw [List.length_take]; omega), List.getElem?_take, if_pos h1] at hk
                obtain ⟨u, q1, q2⟩ := f3 k y' j c hk hj
                have hjl : j < arr.z := by rw [← (o3 y' (List.mem_of_getElem? hk)).1]; exact (List.getElem?_eq_some_iff.1 hj).1
                exact ⟨u, by rw [hget1 _ (by rw [← e2]; exact idx_lt h1 hjl)]; exact q1, q2⟩
              · rw [List.getElem?_append_right (by rw [List.length_take]; omega), List.length_take, Nat.min_eq_left hll] at hk
                obtain ⟨u, q1, q2⟩ := n4 (k - len) y' j c hk hj
                refine ⟨u, ?_, q2⟩
                have e : k * arr.z + j = len * i.size + ((k - len) * i.size + j) := by
                  rw [e2, show k = len + (k - len) by omega, Nat.add_mul]; simp; omega
                rw [e, hget2 _ (List.getElem?_eq_some_iff.1 q1).1]
                exact q1
          · -- it grows
            have hbase : a.eval x = .slice (some ⟨g, 0, none⟩) len cap := by rw [m2]; simp
            have hlenz : len * i.size ≤ cs.size := by rw [← hcz]; exact Nat.mul_le_mul_right _ m6
            have hra := run_append_grow (P := P) w t o.type e i zv ht hi hzv ⟨g, 0, none⟩ len cap (cs.toList.take (len * i.size)) (by rw [List.length_take, Array.length_toList]; omega) (by
              intro j v hj
              rw [List.getElem?_take] at hj
              split at hj
              · rw [add_none, Nat.zero_add, cell_row m3, ← Array.getElem?_toList]; exact hj
              · cases hj) ⟨b, off, none⟩ l.length cy news n1 n2 (by omega) (by omega) (growslice_fits (by omega) b1)
            obtain ⟨cp, hcp⟩ : ∃ cp, grownCap w (len + l.length) cap e = cp := ⟨_, rfl⟩
            have hge := grownCap_ge w (len + l.length) cap e
            have hmx := grownCap_le_maxLen w (len + l.length) cap e (by omega)
            rw [hcp] at hra hge hmx
            obtain ⟨cs', hcs'⟩ : ∃ cs', (cs.toList.take (len * i.size)).toArray ++ news.toArray ++ Builtin.zeroCells zv.cells (cp - (len + l.length)) = cs' := ⟨_, rfl⟩
            rw [hcs'] at hra
            have hr0 : (execOp a.eval o).run P w = .ok (.value (.slice (some ⟨w.heap.size, 0, none⟩) (len + l.length) cp)) (w.drew.alloc (.cells cs' e)) := by
              rw [hrun]
              simp only [List.map_toArray, List.map_cons, List.map_nil, hbase, hyv, builtin, Sem.run_bind, hra]
              rfl
            have hl1 : (cs.toList.take (len * i.size)).length = len * i.size := by rw [List.length_take, Array.length_toList]; omega
            have hcsz : cs'.size = cp * i.size := by
              rw [← hcs']
              simp only [Array.size_append, List.size_toArray, hl1, n1, size_zeroCells, hzs]
              rw [← Nat.add_mul, ← Nat.add_mul]; congr 1; omega
            have hget1 : ∀ q, q < len * i.size → cs'[q]? = cs[q]? := by
              intro q hq
              rw [← hcs', Array.getElem?_append_left (by simp [hl1]; omega), Array.getElem?_append_left (by simp [hl1]; omega), List.getElem?_toArray, List.getElem?_take, if_pos hq, Array.getElem?_toList]
            have hget2 : ∀ q, q < news.length → cs'[len * i.size + q]? = news[q]? := by
              intro q hq
              rw [← hcs', Array.getElem?_append_left (by simp only [Array.size_append, List.size_toArray, hl1]; omega), Array.getElem?_append_right (by simp only [List.size_toArray, hl1]; omega)]
              simp only [List.size_toArray, hl1, List.getElem?_toArray]
              congr 1; omega
            refine hfinish w.heap.size cp cs' _ hr0 (h.below.drew.alloc (by have := h.below.size; exact this) _) (by simp) (fun k hk _ => Below.heap_alloc w.drew _ k hk) (.inr (Nat.le_refl _)) (by rw [e3]; exact heap_alloc_new w.drew _) (by rw [hcsz, e2]) hge hmx (fun hg => by have := (h.range r _ hg).2; omega) hll ?_
            intro k y' j c hk hj
            rcases Nat.lt_or_ge k len with h1 | h1
            · rw [List.getElem?_append_left (by rw [List.length_take]; omega), List.getElem?_take, if_pos h1] at hk
              obtain ⟨u, q1, q2⟩ := f3 k y' j c hk hj
              have hjl : j < arr.z := by rw [← (o3 y' (List.mem_of_getElem? hk)).1]; exact (List.getElem?_eq_some_iff.1 hj).1
              exact ⟨u, by rw [hget1 _ (by rw [← e2]; exact idx_lt h1 hjl)]; exact q1, q2⟩
            · rw [List.getElem?_append_right (by rw [List.length_take]; omega), List.length_take, Nat.min_eq_left hll] at hk
              obtain ⟨u, q1, q2⟩ := n4 (k - len) y' j c hk hj
              refine ⟨u, ?_, q2⟩
              have e : k * arr.z + j = len * i.size + ((k - len) * i.size + j) := by
                rw [e2, show k = len + (k - len) by omega, Nat.add_mul]; simp; omega
              rw [e, hget2 _ (List.getElem?_eq_some_iff.1 q1).1]
              exact q1
    · exact hE.elim
  · exact hE.elim
end
end Go.Proofs.YtkdbphhekpdmhaaDoor
