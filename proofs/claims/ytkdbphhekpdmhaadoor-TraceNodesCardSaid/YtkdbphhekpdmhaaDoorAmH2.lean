/-
  The plain machine: texts as bytes and back, new slices, shifts are the model's.
-/
import Derived.Test.YtkdbphhekpdmhaaDoorAmH
namespace Go.Proofs.YtkdbphhekpdmhaaDoor
open Go.RowKit
set_option linter.unusedVariables false
set_option linter.unusedSimpArgs false
section
variable {P : Program} {w0 : Start} {Pr0 : Nat → Nat → Prop} {n : Nat} {μ : Nat → Option Nat} {σ : St} {a : Act} {w : World} {Pr : Nat → Nat → Prop} {H : Nat → Option Arr}

theorem VR.int_of {Q : Nat → Nat → Prop} {k : IntKind} {m : Int} {v : Value} (h : VR Q w (.int k m) v) : v = .int k m := by cases h; rfl
theorem VR.str_of {Q : Nat → Nat → Prop} {s : ByteArray} {v : Value} (h : VR Q w (.str s) v) : v = .string s := by cases h; rfl
theorem res_pr (h : SR w0 Pr0 n μ σ a w) {fz : List Nat} {w' : World} {d : AV} {u : Value} (hv : VR (fun b o => (PrOf w0 Pr0 μ (σ.fzs fz).H b o ∧ b < w.heap.size) ∨ w.heap.size ≤ b) w' d u) : VR (PrOf w0 Pr0 μ (σ.fzs fz).H) w' d u :=
  hv.kept ⟨Nat.le_refl _, fun b o _ hp => by
    rcases hp with hp | hp
    · exact hp.1
    · exact ⟨fun hlt => absurd hlt (by have := h.below.size; omega), fun s hs => absurd (h.range s b hs).2 (by omega)⟩, fun _ _ _ _ => rfl, fun _ _ _ _ _ h => h⟩

theorem res_own (h : SR w0 Pr0 n μ σ a w) {dst : Nat} (hn : dst < n) (h0 : σ.H dst = none) (hT : ∀ t, (σ.T t).name ≠ some dst) {fz : List Nat} {K : AV → Option Arr → List Nat → Prop} {z : Nat} {ty : TypeId} {l : List AV} {v : Value} {w' : World}
    (hK : K (.rs dst 0 l.length) (some ⟨z, ty, l, 0⟩) fz) (hb : Below w.heap.size w w') (hr : OwnRes (fun b o => (PrOf w0 Pr0 μ (σ.fzs fz).H b o ∧ b < w.heap.size) ∨ w.heap.size ≤ b) w.heap.size w' z ty l v) : Made w0 Pr0 n σ dst K (a.put (some dst) v) w' := by
  have hS : SR w0 Pr0 n μ (σ.fzs fz) a w := SR.fzs h
  have hS' := hS.grow hb
  obtain ⟨q0, q1, q2⟩ := hr
  rcases q2 with ⟨rfl, rfl⟩ | ⟨b, cap, cs, rfl, p1, p2, p3, p4, p5, p6⟩
  · obtain ⟨hS2, hμ⟩ := hS'.adoptNil (Nat.lt_of_lt_of_le hn h.small) (fzs_none h0) (by rw [fzs_T]; exact hT) (z := z) (ty := ty) q0
    refine ⟨_, _, _, fz, hK, SR.put hS2 hn ?_⟩
    intro arr ha
    exact .inl ⟨hμ, rfl, rfl, rfl⟩
  · have hS2 := SR.adopt hS hb p1 (Nat.lt_of_lt_of_le hn h.small) (fzs_none h0) (by rw [fzs_T]; exact hT) (arr := ⟨z, ty, l, 0⟩) (cs := cs) rfl q0 q1 p2 (by rw [← p3]; exact Nat.mul_le_mul_right _ p4) (by
      intro i x j c hi hj
      obtain ⟨u, m1, m2⟩ := p6 i x j c hi hj
      refine ⟨u, m1, m2.kept ⟨Nat.le_refl _, fun b' o' _ hp => ⟨?_, hp.2⟩, fun _ _ _ _ => rfl, fun _ _ _ _ _ h => h⟩⟩
      rcases hp.1 with hp | hp
      · exact hp.1
      · exact ⟨fun hlt => absurd hlt (by have := h.below.size; omega), fun s hs => absurd (h.range s b' hs).2 (by omega)⟩)
    refine ⟨_, _, _, fz, hK, SR.put hS2 hn ?_⟩
    intro arr ha
    have ha2 : upd (σ.fzs fz).H dst (some ⟨z, ty, l, 0⟩) dst = some arr := ha
    rw [upd_same] at ha2
    cases ha2
    exact .inr ⟨b, cap, cs, upd_same _ _ _, by simp, p2, by rw [Nat.zero_add]; exact p3, by simp, p4, p5⟩

theorem res_val (h : SR w0 Pr0 n μ σ a w) {dst : Nat} (hn : dst < n) {fz : List Nat} {K : AV → Option Arr → List Nat → Prop} {r : AV} {v : Value} {w' : World}
    (hK : K r none fz) (hb : Below w.heap.size w w') (hr : VR (PrOf w0 Pr0 μ (σ.fzs fz).H) w' r v) : Made w0 Pr0 n σ dst K (a.put (some dst) v) w' := by
  have hS : SR w0 Pr0 n μ (σ.fzs fz) a w := SR.fzs h
  exact ⟨_, _, none, fz, hK, (hS.grow hb).made_none hn (TR.of_VR hr)⟩

theorem res_flat (h : SR w0 Pr0 n μ σ a w) {dst : Nat} (hn : dst < n) {K : AV → Option Arr → List Nat → Prop} {r : AV} {v : Value} {w' : World} {Q : Nat → Nat → Prop}
    (hK : K r none []) (hb : Below w.heap.size w w') (hf : Flat r) (hr : VR Q w' r v) : Made w0 Pr0 n σ dst K (a.put (some dst) v) w' :=
  ⟨_, _, none, [], hK, (h.grow hb).made_none hn (TR.of_VR (hr.flat hf))⟩

theorem one_val {ds : List AV} {x : Operand} {ix : IOpd} {hid fz : List Nat} (h : SR w0 Pr0 n μ σ a w) (hx : compOpd x = some ix) (hbv : σ.byvals hid ([ix].map σ.get) = some (ds, fz)) : ∃ d, ds = [d] ∧ VR (PrOf w0 Pr0 μ (σ.fzs fz).H) w d (a.eval x) := by
  obtain ⟨l1, t1⟩ := h.gets (l := [x]) (il := [ix]) (by simp [compOpds, hx])
  have hS : SR w0 Pr0 n μ (σ.fzs fz) a w := SR.fzs h
  obtain ⟨l2, b2⟩ := h.byvals hS hbv l1 t1 fzs_all
  match ds, l2 with
  | [d], _ => exact ⟨d, rfl, b2 0 d (a.eval x) rfl rfl⟩

theorem tobytes_sound {o : Oper} {src dst' e : TypeId} {x : Operand} {ix : IOpd} {dst : Nat} (ho : o.op = .convert src dst' x) (hs : P.underlying src = some .string) (hd : P.underlying dst' = some (.slice e)) (he : P.underlying e = some (.int .u8)) (hx : compOpd x = some ix) (hdst : o.dst = some dst) (hn : dst < n)
    (h : SR w0 Pr0 n μ σ a w) {C : FuncId → List AV → AV → Prop} {hid : List Nat} {K : AV → Option Arr → List Nat → Prop} (hE : evalM C dst hid σ K (.call 0 [ix])) {Q : Exit → Act → World → Prop} :
    o.wp P a w (Made w0 Pr0 n σ dst K) Q := by
  simp only [evalM] at hE
  split at hE
  · rename_i ds fz hbv
    obtain ⟨hok, hK⟩ := hE
    obtain ⟨d, rfl, hv⟩ := one_val h hx hbv
    cases d <;> simp only [primOk] at hok
    rename_i s
    have hvs : a.eval x = .string s := hv.str_of
    have hrun : (execOp a.eval o).run P w = .ok (.value (.slice (some ⟨w.heap.size, 0, none⟩) s.size (grownCap w s.size 0 e)))
      (w.drew.alloc (.cells (bytesRow s (grownCap w s.size 0 e)) e ((bytesRow s (grownCap w s.size 0 e)).size, (bytesRow s (grownCap w s.size 0 e)).size + 1))) := by
      have := run_bytes_of_string (P := P) w src dst' e s hs hd he
      simp [execOp, ho, hvs, this]
    unfold Oper.wp
    rw [hrun, Oper.upon_value, hdst]
    have hl : (s.data.toList.map fun b => AV.int .u8 (b.toNat : Int)).length = s.size := by rw [List.length_map, Array.length_toList]; rfl
    simp only [primVal, takeRes, AV.flatB, if_false, Bool.false_eq_true] at hK
    have hb : Below w.heap.size w (w.drew.alloc (.cells (bytesRow s (grownCap w s.size 0 e)) e ((bytesRow s (grownCap w s.size 0 e)).size, (bytesRow s (grownCap w s.size 0 e)).size + 1))) := (Below.refl _ _).drew.alloc (Nat.le_refl _) _
    refine res_val h hn hK hb (res_pr h ?_)
    · rw [← hl]
      refine .sl _ _ _ 1 (fun i j => .int .u8 ((s.data.toList.getD i 0).toNat : Int)) (by rw [hl]; exact grownCap_ge _ _ _ _) (by rw [hl]; exact grownCap_le_maxLen _ _ _ _ hok) (fun h0 => ⟨w.heap.size, 0, rfl, ?_, ?_, ?_⟩) (fun i d j c hi hj => ?_)
      · show w.heap.size < (w.heap.push _).size
        simp
      · intro d hd
        obtain ⟨b, _, rfl⟩ := List.mem_map.1 hd
        rfl
      · intro i j hi hj
        refine ⟨.inr (Nat.le_refl _), ?_⟩
        have := World.cell?_alloc_mark w.drew (bytesRow s (grownCap w s.size 0 e)) e ((bytesRow s (grownCap w s.size 0 e)).size, (bytesRow s (grownCap w s.size 0 e)).size + 1) (0 + (i * 1 + j))
        rw [show w.drew.heap.size = w.heap.size from rfl] at this
        rw [hl] at *
        rw [this]
        have hj0 : j = 0 := by omega
        subst hj0
        have hi' : i < s.data.size := hi
        unfold bytesRow
        rw [show 0 + (i * 1 + 0) = i by omega, Array.getElem?_append_left (by simpa using hi'), Array.getElem?_map, Array.getElem?_eq_getElem hi']
        simp [List.getD_eq_getElem?_getD, Array.getElem?_eq_getElem hi']
      · rw [List.getElem?_map, Option.map_eq_some_iff] at hi
        obtain ⟨b, hb', rfl⟩ := hi
        cases j with
        | succ j => simp [AV.cells] at hj
        | zero =>
          cases hj
          rw [List.getD_eq_getElem?_getD, hb']
          exact .int _ _
  · exact hE.elim

theorem toB_val {d : AV} {v : Value} {Q : Nat → Nat → Prop} (hb : d.byteB = true) (hv : VR Q w d v) : v = .int .u8 (d.toB.toNat : Int) ∧ d.cells = [d] := by
  unfold AV.byteB at hb
  split at hb
  · rename_i m
    simp only [Bool.and_eq_true, decide_eq_true_eq] at hb
    cases hv
    refine ⟨?_, rfl⟩
    simp only [AV.toB]
    have : ((UInt8.ofNat m.toNat).toNat : Int) = m := by
      rw [show (UInt8.ofNat m.toNat).toNat = m.toNat % 256 from UInt8.toNat_ofNat' ..]
      omega
    rw [this]
  · cases hb
theorem tostr_sound {o : Oper} {src dst' e : TypeId} {x : Operand} {ix : IOpd} {dst : Nat} (ho : o.op = .convert src dst' x) (hs : P.underlying src = some (.slice e)) (hd : P.underlying dst' = some .string) (he : P.underlying e = some (.int .u8)) (hx : compOpd x = some ix) (hdst : o.dst = some dst) (hn : dst < n)
    (h : SR w0 Pr0 n μ σ a w) {C : FuncId → List AV → AV → Prop} {hid : List Nat} {K : AV → Option Arr → List Nat → Prop} (hE : evalM C dst hid σ K (.call 1 [ix])) {Q : Exit → Act → World → Prop} :
    o.wp P a w (Made w0 Pr0 n σ dst K) Q := by
  simp only [evalM] at hE
  split at hE
  · rename_i ds fz hbv
    obtain ⟨hok, hK⟩ := hE
    obtain ⟨d, rfl, hv⟩ := one_val h hx hbv
    cases d <;> simp only [primOk] at hok
    rename_i l
    have hok' : ∀ d, d ∈ l → d.byteB = true := fun d hd => List.all_eq_true.1 hok d hd
    simp only [primVal, takeRes, AV.flatB, if_true] at hK
    have key : (convert src dst' (a.eval x)).run P w = .ok (.string ⟨(l.map AV.toB).toArray⟩) w := by
      generalize a.eval x = v at hv
      generalize hq : AV.sl l = q at hv
      cases hv with
      | sl l' A cap z u hcap hmax hA hr =>
        injection hq with hq
        subst hq
        cases l with
        | nil =>
          cases A with
          | none => exact run_convert_bytes_nil (P := P) w src e hs he 0 cap dst' hd
          | some ad => exact run_convert_bytes_back (P := P) w src dst' e ad cap [] hs he hd (fun j hj => by simp at hj)
        | cons d0 l0 =>
          obtain ⟨b, off, rfl, hL⟩ := hA (by simp)
          generalize hll : d0 :: l0 = l at *
          have h0 : d0 ∈ l := by rw [← hll]; exact List.mem_cons_self ..
          have hz : z = 1 := by
            have h1 := hL.len d0 h0
            have h2 := hok' d0 h0
            unfold AV.byteB at h2
            split at h2
            · exact h1.symm
            · cases h2
          subst hz
          have := run_convert_bytes_back (P := P) w src dst' e ⟨b, off, none⟩ cap (l.map AV.toB) hs he hd (fun j hj => by
            rw [List.length_map] at hj
            have h1 := (hL.at_ j 0 hj (by omega)).2
            have hj' : l[j]? = some l[j] := List.getElem?_eq_getElem hj
            have hb := hok' l[j] (List.getElem_mem hj)
            have hc : l[j].cells = [l[j]] := by
              unfold AV.byteB at hb
              split at hb
              · rename_i heq; rw [heq]; rfl
              · cases hb
            have h2 := hr j l[j] 0 l[j] hj' (by rw [hc]; rfl)
            have hplain : (⟨b, off, none⟩ : Addr).add j = ⟨b, off + j, none⟩ := by unfold Addr.add; split <;> simp_all
            rw [hplain, List.getElem_map]
            rw [show off + (j * 1 + 0) = off + j by omega] at h1
            rw [h1, (toB_val hb h2).1])
          rw [List.length_map] at this
          exact this
      | _ => cases hq
    have hrun : (execOp a.eval o).run P w = .ok (.value (.string ⟨(l.map AV.toB).toArray⟩)) w := by
      simp [execOp, ho, key]
    unfold Oper.wp
    rw [hrun, Oper.upon_value, hdst]
    exact res_flat h hn hK (Below.refl _ _) (.str _) (.str _ : VR (fun _ _ => True) w _ _)
  · exact hE.elim

theorem shift_sound {o : Oper} {op : BinOp} {t yt : TypeId} {x y : Operand} {ix iy : IOpd} {dst p : Nat} (hp : (op = .shl ∧ p = 3) ∨ (op = .shr ∧ p = 4)) (ho : o.op = .binOp op t x y yt) (hx : compOpd x = some ix) (hy : compOpd y = some iy) (hdst : o.dst = some dst) (hn : dst < n)
    (h : SR w0 Pr0 n μ σ a w) {C : FuncId → List AV → AV → Prop} {hid : List Nat} {K : AV → Option Arr → List Nat → Prop} (hE : evalM C dst hid σ K (.call p [ix, iy])) {Q : Exit → Act → World → Prop} :
    o.wp P a w (Made w0 Pr0 n σ dst K) Q := by
  simp only [evalM] at hE
  split at hE
  · rename_i ds fz hbv
    obtain ⟨hok, hK⟩ := hE
    obtain ⟨l1, t1⟩ := h.gets (l := [x, y]) (il := [ix, iy]) (by simp [compOpds, hx, hy])
    have hS : SR w0 Pr0 n μ (σ.fzs fz) a w := SR.fzs h
    obtain ⟨l2, b2⟩ := h.byvals hS hbv l1 t1 fzs_all
    match ds, l2 with
    | [d1, d2], _ =>
      have v1 := b2 0 d1 (a.eval x) rfl rfl
      have v2 := b2 1 d2 (a.eval y) rfl rfl
      rcases hp with ⟨rfl, rfl⟩ | ⟨rfl, rfl⟩
      all_goals
        have hd : ∃ k m k' s, d1 = .int k m ∧ d2 = .int k' s ∧ 0 ≤ s := by
          cases d1 <;> cases d2 <;> simp only [primOk] at hok <;> exact ⟨_, _, _, _, rfl, rfl, hok⟩
        obtain ⟨k, m, k', s, rfl, rfl, h0⟩ := hd
        have e1 := v1.int_of
        have e2 := v2.int_of
        simp only [primVal, takeRes, AV.flatB, if_true] at hK
        have hs : ¬ s < 0 := by omega
        unfold Oper.wp
        first
          | (have hrun : (execOp a.eval o).run P w = .ok (.value (.int k (k.wrap (m * 2 ^ min s.toNat k.bits)))) w := by simp [execOp, ho, e1, e2, eqGuard, binOp, Op.shift, hs]
             rw [hrun, Oper.upon_value, hdst]
             exact res_flat h hn hK (Below.refl _ _) (.int _ _) (.int _ _ : VR (fun _ _ => True) w _ _))
          | (have hrun : (execOp a.eval o).run P w = .ok (.value (.int k (m.fdiv (2 ^ min s.toNat k.bits)))) w := by simp [execOp, ho, e1, e2, eqGuard, binOp, Op.shift, hs]
             rw [hrun, Oper.upon_value, hdst]
             exact res_flat h hn hK (Below.refl _ _) (.int _ _) (.int _ _ : VR (fun _ _ => True) w _ _))
  · exact hE.elim

theorem made_at {z : Array Value} {m i j : Nat} (hj : j < z.size) (hi : i * z.size + j < m) : (madeCells z m)[i * z.size + j]? = some z[j] := by
  unfold madeCells
  rw [Array.getElem?_map, Array.getElem?_range, if_pos hi]
  simp only [Option.map_some]
  rw [show (i * z.size + j) % z.size = j by rw [Nat.add_comm, Nat.add_mul_mod_self_right]; exact Nat.mod_eq_of_lt hj]
  rw [getElem!_pos z j hj]
theorem compZero_byval {zv : Value} {d : AV} {hid : List Nat} (h : compZero zv = some d) : σ.byval hid d = some (d, []) := by
  unfold compZero at h
  split at h
  · rw [Option.map_eq_some_iff] at h
    obtain ⟨ds, _, rfl⟩ := h
    rfl
  · unfold compConst at h
    split at h <;> cases h <;> rfl
theorem mksl_sound {o : Oper} {t e : TypeId} {i : TypeInfo} {zv : Value} {d0 : AV} {x y : Operand} {ix : IOpd} {dst : Nat} (ho : o.op = .makeSlice t x y) (ht : P.underlying t = some (.slice e)) (hi : P.info? e = some i) (hz : i.zero = some zv) (hd0 : compZero zv = some d0) (hx : compOpd x = some ix) (hxy : sameOpd x y = true) (hdst : o.dst = some dst) (hn : dst < n)
    (h : SR w0 Pr0 n μ σ a w) (h0 : σ.H dst = none) (hT : ∀ t, (σ.T t).name ≠ some dst) {C : FuncId → List AV → AV → Prop} {hid : List Nat} {K : AV → Option Arr → List Nat → Prop} (hE : evalM C dst hid σ K (.call 2 [.c (.int .i64 i.bytes), .c (.int .i64 i.size), .c (.int .i64 (e : Nat)), .c d0, ix])) {Q : Exit → Act → World → Prop} :
    o.wp P a w (Made w0 Pr0 n σ dst K) Q := by
  simp only [evalM] at hE
  split at hE
  · rename_i ds fz hbv
    obtain ⟨hok, hK⟩ := hE
    have hb0 := compZero_byval (σ := σ) (hid := hid) hd0
    have hsp : ∃ ds', ds = .int .i64 i.bytes :: .int .i64 i.size :: .int .i64 (e : Nat) :: d0 :: ds' ∧ σ.byvals hid ([ix].map σ.get) = some (ds', fz) := by
      change σ.byvals hid [.int .i64 i.bytes, .int .i64 i.size, .int .i64 (e : Nat), d0, σ.get ix] = some (ds, fz) at hbv
      change ∃ ds', ds = .int .i64 i.bytes :: .int .i64 i.size :: .int .i64 (e : Nat) :: d0 :: ds' ∧ σ.byvals hid [σ.get ix] = some (ds', fz)
      have hI : ∀ m : Int, σ.byval hid (.int .i64 m) = some (.int .i64 m, []) := fun _ => rfl
      simp only [St.byvals, hb0, hI] at hbv ⊢
      cases hq : σ.byval hid (σ.get ix) with
      | none => rw [hq] at hbv; cases hbv
      | some p =>
        rw [hq] at hbv
        cases hbv
        exact ⟨_, rfl, rfl⟩
    obtain ⟨ds', rfl, hbv'⟩ := hsp
    obtain ⟨d, rfl, hv⟩ := one_val h hx hbv'
    have hd : ∃ m, d = .int .i64 m ∧ 0 ≤ m ∧ m ≤ 9223372036854775807 ∧ (i.bytes : Int) * m ≤ 281474976710656 ∧ d0.cells.length = i.size ∧ 0 < i.size ∧ d0.cells.all AV.one = true := by
      cases d <;> simp only [primOk] at hok
      rename_i k m
      cases k <;> simp only [primOk] at hok
      exact ⟨m, rfl, hok.1, hok.2.1, hok.2.2.1, hok.2.2.2.2⟩
    obtain ⟨m, rfl, g1, g2, g3, g4, g5, g6⟩ := hd
    have e1 := hv.int_of
    have e2 : a.eval y = .int .i64 m := by rw [sameOpd_eval hxy, e1]
    obtain ⟨q1, q2⟩ := compZero_cells (Pr := fun b o => ((PrOf w0 Pr0 μ (σ.fzs fz).H b o ∧ b < w.heap.size) ∨ w.heap.size ≤ b) ∧ b ≠ w.heap.size) (w := w.alloc (.cells (madeCells zv.cells (m.toNat * i.size)) e)) hd0
    have hrun : (execOp a.eval o).run P w = .ok (.value (.slice (some ⟨w.heap.size, 0, none⟩) m.toNat m.toNat)) (w.alloc (.cells (madeCells zv.cells (m.toNat * i.size)) e)) := by
      have := run_make (P := P) w t e i zv ht hi hz .i64 .i64 m m g1 (Int.le_refl _) g3 g2
      simp [execOp, ho, e1, e2, this]
    unfold Oper.wp
    rw [hrun, Oper.upon_value, hdst]
    simp only [primVal, takeRes] at hK
    have hb : Below w.heap.size w (w.alloc (.cells (madeCells zv.cells (m.toNat * i.size)) e)) := (Below.refl _ _).alloc (Nat.le_refl _) _
    have hzs : zv.cells.size = i.size := by rw [← q1]; exact g4
    refine res_own (z := i.size) (ty := e) (l := List.replicate m.toNat d0) h hn h0 hT hK hb ⟨g5, fun d hd => ?_, .inr ⟨w.heap.size, m.toNat, _, by rw [List.length_replicate], Nat.le_refl _, heap_alloc_new w _, by rw [size_madeCells], by rw [List.length_replicate]; exact Nat.le_refl _, ?_, fun j d k c hj hk => ?_⟩⟩
    · rw [List.eq_of_mem_replicate hd]
      exact ⟨g4, fun c hc => List.all_eq_true.1 g6 c hc⟩
    · show m.toNat ≤ 9223372036854775807
      omega
    · rw [List.getElem?_replicate] at hj
      split at hj
      · rename_i hjl
        cases hj
        have hkl := (List.getElem?_eq_some_iff.1 hk).1
        have hkz : k < zv.cells.size := by omega
        have hlt : j * zv.cells.size + k < m.toNat * i.size := by
          rw [hzs] at *
          have : (j + 1) * i.size ≤ m.toNat * i.size := Nat.mul_le_mul_right _ hjl
          rw [Nat.succ_mul] at this
          omega
        have h9 := made_at (m := m.toNat * i.size) hkz hlt
        rw [hzs] at h9
        exact ⟨_, h9, q2 k c _ hk (Array.getElem?_eq_getElem hkz)⟩
      · cases hj
  · exact hE.elim
end
end Go.Proofs.YtkdbphhekpdmhaaDoor
