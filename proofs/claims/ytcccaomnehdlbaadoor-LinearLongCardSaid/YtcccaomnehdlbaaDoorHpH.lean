/-
  A machine with a heap, eighth part: every operation is sound.
-/
import Derived.Test.YtcccaomnehdlbaaDoorHpG
import Derived.Lib.MinMax
import Derived.Lib.UnsafeStr
import Derived.Laws.IdiomStrings
import Derived.Laws.BytesString
namespace Go.Proofs.YtcccaomnehdlbaaDoor
open Go.RowKit
set_option linter.unusedVariables false
set_option linter.unusedSimpArgs false
namespace Hm
section
variable {P : Program} {E : Mx} {w : World} {T : Nat → V} {a : Act} {o : Oper} {nx : Nat} {G : Nat → Option Ob}

/-- a call that is put off -/
def DfrR (E : Mx) (w : World) (x : FuncId × List V) (d : Deferred) : Prop := if x.1 = mkId then ∃ r g, x.2 = [.yl r] ∧ Vr E w (.yl r) (.func (.yield g) #[] #[]) ∧ d = { target := .collected g, args := #[] }
  else ∃ cap args, d = { target := .fn (.func x.1) cap, args := args } ∧ Vrs E w x.2 (args.toList ++ cap.toList)
theorem DfrR.step {E E' : Mx} {w w' : World} (k : Step E w E' w') {x : FuncId × List V} {d : Deferred} (h : DfrR E w x d) : DfrR E' w' x d := by
  unfold DfrR at h ⊢
  split at h
  · rename_i hx
    rw [if_pos hx]
    obtain ⟨r, g, e, hv, hd⟩ := h
    exact ⟨r, g, e, hv.step k, hd⟩
  · rename_i hx
    rw [if_neg hx]
    obtain ⟨cap, args, e, hv⟩ := h
    exact ⟨cap, args, e, hv.step k⟩
def EffOk (P : Program) (E : Mx) (w : World) (s : Sem Next) (nx : Nat) : Eff → Prop
  | .val v ups nx' => Out P E w s v ups nx nx'
  | .call f args => CallOut P E w s f args
  | .dfr f args => funcOk P f = true ∧ ∃ d, s.run P w = .ok (.defer d) w ∧ DfrR E w (f, args) d
  | .yld r args => ∃ g us, Vr E w (.yl r) (.func (.yield g) #[] #[]) ∧ Vrs E w args us ∧ s.run P w = (Instr.yield g us.toArray).run P w
theorem funcOk_mk {f : FuncId} (h : funcOk P f = true) : f ≠ mkId := by
  have := funcOk_lt h
  intro e
  rw [e] at this
  exact absurd this (by decide)
theorem funcOk_yld {f : FuncId} (h : funcOk P f = true) : f ≠ yldId := by
  have := funcOk_lt h
  intro e
  rw [e] at this
  exact absurd this (by decide)
theorem defer_out {c : Call} {f : Operand} {g : FuncId} {args : List V} (ho : o.op = .defer c) (hc : c.callee = .value f) (h : ∀ x : Operand, Vr E w (opV T x) (a.eval x)) (he : callE P (opV T f) (c.args.toList.map (opV T)) = some (g, args)) : EffOk P E w (execOp a.eval o) nx (.dfr g args) := by
  have hA := vals_map (l := c.args.toList) h
  have hf := h f
  unfold callE at he
  split at he
  · rename_i g' fi ca e1
    split at he
    · rename_i hok
      cases he
      rw [e1] at hf
      have hv := hf.lit_inv
      refine ⟨hok, { target := .fn (.func g) ca, args := fi ++ c.args.map a.eval }, ?_, ?_⟩
      · simp only [execOp, ho, resolve, hc, Sem.run_bind]
        simp [hv, Deferred.ofValue]
      · unfold DfrR
        rw [if_neg (funcOk_mk hok)]
        refine ⟨ca, _, rfl, ?_⟩
        have := ((Vrs.lits (E := E) (w := w) fi.toList).append hA).append (Vrs.lits ca.toList)
        simpa using this
    · cases he
  · rename_i g' fi ca e1
    split at he
    · rename_i hok
      cases he
      rw [e1] at hf
      generalize hfv : a.eval f = u at hf
      cases hf with
      | fn _ _ _ va vb ha hb h1 h2 =>
        refine ⟨hok, { target := .fn (.func g) vb.toArray, args := va.toArray ++ c.args.map a.eval }, ?_, ?_⟩
        · simp only [execOp, ho, resolve, hc, Sem.run_bind]
          simp [hfv, Deferred.ofValue]
        · unfold DfrR
          rw [if_neg (funcOk_mk hok)]
          refine ⟨vb.toArray, _, rfl, ?_⟩
          have := ((⟨ha, h1⟩ : Vrs E w fi va).append hA).append ⟨hb, h2⟩
          simpa using this
    · cases he
  · cases he
theorem yld_out {c : Call} {f : Operand} {r : Nat} (ho : o.op = .call c) (hc : c.callee = .value f) (h : ∀ x : Operand, Vr E w (opV T x) (a.eval x)) (hr : opV T f = .yl r) : EffOk P E w (execOp a.eval o) nx (.yld r (c.args.toList.map (opV T))) := by
  have hA := vals_map (l := c.args.toList) h
  have hargs : (c.args.map a.eval) = (c.args.toList.map a.eval).toArray := by apply Array.ext'; simp
  have hf := h f
  rw [hr] at hf
  generalize hu : a.eval f = u at hf
  cases hf with
  | yl _ g hU hl =>
    refine ⟨g, _, .yl r g hU hl, hA, ?_⟩
    simp only [execOp, ho, resolve, hc, Sem.run_bind]
    simp [hu, Deferred.ofValue, invoke, hargs]
theorem makeFunc_out {f : FuncId} {xs ys : Array Operand} (hR : Rel E w) (ho : o.op = .makeFunc (.func f) xs ys) (h : ∀ x : Operand, Vr E w (opV T x) (a.eval x)) : Out P E w (execOp a.eval o) (.fn f (xs.toList.map (opV T)) (ys.toList.map (opV T))) [] nx nx := by
  have h1 := vals_map (l := xs.toList) h
  have h2 := vals_map (l := ys.toList) h
  refine Out.pure hR (u := .func (.func f) (xs.map a.eval) (ys.map a.eval)) (by simp [execOp, ho, Instr.makeFunc]) ?_
  have e1 : xs.map a.eval = (xs.toList.map a.eval).toArray := by apply Array.ext'; simp
  have e2 : ys.map a.eval = (ys.toList.map a.eval).toArray := by apply Array.ext'; simp
  rw [e1, e2]
  exact .fn f _ _ _ _ h1.len h2.len h1.at_ h2.at_
theorem makeIface_out {t : TypeId} {x : Operand} {d : TypeDesc} (hR : Rel E w) (ho : o.op = .makeInterface t x) (hx : Vr E w (opV T x) (a.eval x)) (ht : P.underlying t = some d) (hd : ∀ ms, d ≠ .interface ms) :
    Out P E w (execOp a.eval o) (match (opV T x).val? with
      | some v => .lit (.iface t v)
      | none => .ifc t (opV T x)) [] nx nx := by
  refine Out.pure hR (u := .iface t (a.eval x)) ?_ ?_
  · simp only [execOp, ho, Instr.makeInterface, Sem.run_bind, run_underlying ht]
    cases d <;> first | rfl | exact absurd rfl (hd _)
  · cases hv : (opV T x).val? with
    | none => exact .ifc _ _ _ hx
    | some v => rw [hx.val hv]; exact .lit _
theorem extract_out {x : Operand} {i : Nat} {vs : List V} {v : V} (hR : Rel E w) (ho : o.op = .extract x i) (hx : Vr E w (.tup vs) (a.eval x)) (hv : vs[i]? = some v) : Out P E w (execOp a.eval o) v [] nx nx := by
  obtain ⟨us, hu, hs⟩ := hx.tup_inv
  obtain ⟨u, h1, h2⟩ := hs.get hv
  refine Out.pure hR (u := u) ?_ h2
  simp [execOp, ho, hu, Instr.extract, h1]
theorem assert_out {x : Operand} {xt t d : TypeId} {ok : Bool} {v r : V} (hR : Rel E w) (ho : o.op = .typeAssert x xt t ok) (hx : Vr E w (.ifc d v) (a.eval x)) (h : (∃ want i, P.underlying t = some (.interface want) ∧ P.info? d = some i ∧ Instr.missingMethod want i.methods = none ∧ r = .ifc d v) ∨ (∃ ds, P.underlying t = some ds ∧ (∀ m, ds ≠ .interface m) ∧ d = t ∧ r = v)) :
    Out P E w (execOp a.eval o) (if ok then .tup [r, .lit (.bool true)] else r) [] nx nx := by
  generalize hxv : a.eval x = u at hx
  cases hx with
  | ifc _ _ u' hv =>
    have key : ∀ y : Value, Vr E w r y → (execOp a.eval o).run P w = .ok (.value (if ok then .tuple #[y, .bool true] else y)) w → Out P E w (execOp a.eval o) (if ok then .tup [r, .lit (.bool true)] else r) [] nx nx := by
      intro y hy hrun
      refine Out.pure hR hrun ?_
      cases ok
      · exact hy
      · exact (Vrs.cons hy (.cons (.lit (.bool true)) .nil)).tup
    rcases h with ⟨want, i, h1, h2, h3, rfl⟩ | ⟨ds, h1, h2, rfl, rfl⟩
    · refine key (.iface d u') (.ifc _ _ _ hv) ?_
      simp [execOp, ho, hxv, Instr.typeAssert, run_underlying h1, typeInfo, h2, h3]
    · refine key u' hv ?_
      simp only [execOp, ho, hxv, Instr.typeAssert, Sem.run_bind, run_underlying h1]
      cases ds <;> first | (exact absurd rfl (h2 _)) | simp
theorem kindV_out {v : V} {k : IntKind} {u : Value} (hv : Vr E w v u) (h : kindV v = some k) : ∃ n, u = .int k n := by
  unfold kindV at h
  split at h
  · cases h
    cases hv with
    | un _ u hk =>
      cases u <;> simp [UK.has] at hk
      subst hk
      exact ⟨_, rfl⟩
  · cases h
    cases hv with
    | un _ u hk =>
      cases u <;> simp [UK.has] at hk
      obtain ⟨rfl, _⟩ := hk
      exact ⟨_, rfl⟩
  · cases h
    exact ⟨_, hv.lit_inv⟩
  · cases h
theorem rngV_out {v : V} {r : Int × Int} {k : IntKind} {n : Int} (hv : Vr E w v (.int k n)) (h : rngV v = some r) : k = .i64 ∧ r.1 ≤ n ∧ n ≤ r.2 := by
  unfold rngV at h
  split at h
  · cases h
    cases hv with
    | un _ u hk => simpa [UK.has] using hk
  · cases h
    have := hv.lit_inv
    cases this
    exact ⟨rfl, Int.le_refl _, Int.le_refl _⟩
  · cases h
theorem lssR_out {a b : Int × Int} {m n : Int} (ha : a.1 ≤ m ∧ m ≤ a.2) (hb : b.1 ≤ n ∧ n ≤ b.2) : Vr E w (lssR a b) (.bool (decide (m < n))) := by
  unfold lssR
  split
  · have : m < n := by omega
    rw [decide_eq_true this]; exact .lit _
  · split
    · have : ¬ m < n := by omega
      rw [decide_eq_false this]; exact .lit _
    · exact .un _ _ rfl
theorem leqR_out {a b : Int × Int} {m n : Int} (ha : a.1 ≤ m ∧ m ≤ a.2) (hb : b.1 ≤ n ∧ n ≤ b.2) : Vr E w (leqR a b) (.bool (decide (m ≤ n))) := by
  unfold leqR
  split
  · have : m ≤ n := by omega
    rw [decide_eq_true this]; exact .lit _
  · split
    · have : ¬ m ≤ n := by omega
      rw [decide_eq_false this]; exact .lit _
    · exact .un _ _ rfl
theorem cmpR_out {op : BinOp} {x y : V} {k : IntKind} {m n : Int} (hx : Vr E w x (.int k m)) (hy : Vr E w y (.int k n)) {b : Bool} (hb : match op with
    | .lss => b = decide (m < n)
    | .leq => b = decide (m ≤ n)
    | .gtr => b = decide (m > n)
    | .geq => b = decide (m ≥ n)
    | _ => True) : Vr E w (cmpR op x y) (.bool b) := by
  unfold cmpR
  split
  · rename_i a b' h1 h2
    have g1 := (rngV_out hx h1).2
    have g2 := (rngV_out hy h2).2
    cases op <;> dsimp only at hb ⊢ <;> first
      | exact .un _ _ rfl
      | (rw [hb]; exact lssR_out g1 g2)
      | (rw [hb]; exact leqR_out g1 g2)
      | (rw [hb]; exact lssR_out g2 g1)
      | (rw [hb]; exact leqR_out g2 g1)
  · exact .un _ _ rfl
theorem minR_out {x y : V} {k k' : IntKind} {m n : Int} (hx : Vr E w x (.int k m)) (hy : Vr E w y (.int k' n)) : Vr E w (minR k x y) (.int k (min m n)) := by
  unfold minR
  split
  · rename_i a b h1 h2
    have g1 := rngV_out hx h1
    have g2 := rngV_out hy h2
    refine .un _ _ ?_
    simp only [UK.has, decide_eq_true_eq]
    exact ⟨g1.1, by omega, by omega⟩
  · exact .un _ _ (by simp [UK.has])
theorem maxR_out {x y : V} {k k' : IntKind} {m n : Int} (hx : Vr E w x (.int k m)) (hy : Vr E w y (.int k' n)) : Vr E w (maxR k x y) (.int k (max m n)) := by
  unfold maxR
  split
  · rename_i a b h1 h2
    have g1 := rngV_out hx h1
    have g2 := rngV_out hy h2
    refine .un _ _ ?_
    simp only [UK.has, decide_eq_true_eq]
    exact ⟨g1.1, by omega, by omega⟩
  · exact .un _ _ (by simp [UK.has])
theorem unV_sound (h : ∀ x : Operand, Vr E w (opV T x) (a.eval x)) {v : V} (e : unV P T o = some v) : ∃ u, (execOp a.eval o).run P w = .ok (.value u) w ∧ Vr E w v u := by
  unfold unV at e
  split at e
  · rename_i op t x y yt ho
    split at e
    · rename_i k k' h1 h2
      split at e
      · rename_i hc
        cases e
        obtain ⟨rfl, hop⟩ := hc
        obtain ⟨m, vx⟩ := kindV_out (h x) h1
        obtain ⟨m', vy⟩ := kindV_out (h y) h2
        have hrun : (execOp a.eval o).run P w = ((binOp op t (.int k m) (.int k m')).run P w).andThen fun v w' => .ok (.value v) w' := by
          simp only [execOp, ho, vx, vy]
          cases op <;> simp [eqGuard]
        cases op <;> first
          | exact absurd hop (by decide)
          | exact ⟨.bool _, by rw [hrun]; simp only [binOp, ne_eq, not_true_eq_false, if_false, Op.intArith, Op.intBits, Op.intCmp]; rfl, cmpR_out (vx ▸ h x) (vy ▸ h y) (by first | rfl | trivial)⟩
      · cases e
    · cases e
  · rename_i c ho
    split at e
    · rename_i x t hc ha ht
      split at e
      · rename_i hx hu
        cases e
        have hvx := h x
        rw [hx] at hvx
        generalize hq : a.eval x = u at hvx
        cases hvx with
        | un _ u hk =>
          cases u <;> simp [UK.has] at hk
          rename_i s
          refine ⟨.int .i64 s.size, ?_, .un _ _ rfl⟩
          have ha2 : c.args = #[x] := by apply Array.ext'; exact ha
          have ht2 : c.argTypes = #[t] := by apply Array.ext'; exact ht
          rw [run_builtinH ho hc, ha2, ht2]
          simp [builtin, Builtin.len_, run_underlying hu, hq, goInt]
      · cases e
    · rename_i x y hc ha
      split at e
      · rename_i k k' h1 h2
        cases e
        obtain ⟨m, vx⟩ := kindV_out (h x) h1
        obtain ⟨m', vy⟩ := kindV_out (h y) h2
        have ha2 : c.args = #[x, y] := by apply Array.ext'; exact ha
        refine ⟨.int k (min m m'), ?_, minR_out (vx ▸ h x) (vy ▸ h y)⟩
        rw [run_builtinH ho hc, ha2]
        simp only [List.map_toArray, List.map_cons, List.map_nil, builtin, Sem.run_bind, vx, vy, Lib.run_min_ints]
        rfl
      · cases e
    · rename_i x y hc ha
      split at e
      · rename_i k k' h1 h2
        cases e
        obtain ⟨m, vx⟩ := kindV_out (h x) h1
        obtain ⟨m', vy⟩ := kindV_out (h y) h2
        have ha2 : c.args = #[x, y] := by apply Array.ext'; exact ha
        refine ⟨.int k (max m m'), ?_, maxR_out (vx ▸ h x) (vy ▸ h y)⟩
        rw [run_builtinH ho hc, ha2]
        simp only [List.map_toArray, List.map_cons, List.map_nil, builtin, Sem.run_bind, vx, vy, Lib.run_max_ints]
        rfl
      · cases e
    · cases e
  · cases e
theorem flatE_ok (h : ∀ x : Operand, Vr E w (opV T x) (a.eval x)) (hR : Rel E w) {f : Eff} (e : flatE P T nx o = some f) : EffOk P E w (execOp a.eval o) nx f := by
  unfold flatE at e
  split at e
  · rename_i v hv
    cases e
    obtain ⟨u, rfl, hrun⟩ := flatV_sound h hv
    exact Out.pure hR hrun (.lit u)
  · rw [Option.map_eq_some_iff] at e
    obtain ⟨v, hv, rfl⟩ := e
    obtain ⟨u, hrun, hu⟩ := unV_sound (w := w) h hv
    exact Out.pure hR hrun hu
theorem store_out {t : TypeId} {tb : TypeId × Nat} {x y : Operand} {r off z : Nat} {cs : List V} (hR : Rel E w) (ho : o.op = .store t x y) (hx : Vr E w (.ptr r off) (a.eval x)) (hy : Vr E w (opV T y) (a.eval y)) (hz : sizeT P t = some z) (hr : E.H r = some (.cells tb cs)) (h1 : (opV T y).cells.length = z) (h2 : off + z ≤ cs.length) (h3 : oks (opV T y).cells = true) :
    Out P E w (execOp a.eval o) (.lit undef) [(r, some (.cells tb (setC off (opV T y).cells cs)))] nx nx := by
  have hp := hx.ptr_live hr
  have hv := hy.cells (oks_known h3)
  have hvl : (a.eval y).cells.size = z := by have := hv.len; simp at this; omega
  obtain ⟨vs, fr, k1, kf, k2, k3, k4, k5⟩ := hR.store hr (off := off) (by omega) hv h3
  obtain ⟨i, hi, rfl⟩ := sizeT_some hz
  have hst := run_storeCells_atU P (E.μ r).1 ((E.μ r).2 + off) _ fr vs.size kf (a.eval y).cells.toList 0 vs w rfl k1 (by simp [hvl]; omega) k3
  simp only [Nat.add_zero] at hst
  refine ⟨undef, _, _, .inr ⟨?_, rfl⟩, .lit _, k4, k5, rfl, fun q => ⟨.inl, fun q' => q'.elim id fun q' => by omega⟩⟩
  simp only [execOp, ho, hp, Instr.storeAt, Instr.sureAddr]
  simp [storeVar, sizeOf, typeInfo, hi, hvl, hst]
theorem clear_out {c : Call} {t e : TypeId} {x : Operand} {r off z len : Nat} {f : Eff} (hR : Rel E w) (hG : ∀ r ob, G r = some ob → E.H r = some ob) (ho : o.op = .call c) (hc : c.callee = .builtin .clear) (hx : c.args = #[x]) (ht : c.argTypes = #[t]) (hu : P.underlying t = some (.slice e)) (hv : Vr E w (.sl r off z len) (a.eval x)) (he : clearE P G nx r off z len e = some f) : EffOk P E w (execOp a.eval o) nx f := by
  obtain ⟨A, cap, hp, hU, h0, hlc, hm, hlv⟩ := hv.sl_inv
  have hrun : (execOp a.eval o).run P w = (do Builtin.clear_ #[t] o.type #[.slice A len cap] >>= fun v => Pure.pure (Next.value v) : Sem Next).run P w := by
    rw [run_builtinH ho hc, hx, ht]
    simp [builtin, hp]
  unfold clearE at he
  split at he
  · rename_i hl
    cases he
    subst hl
    refine Out.pure hR (u := undef) ?_ (.lit _)
    rw [hrun]
    simp [Builtin.clear_, run_underlying hu]
    cases A <;> rfl
  · rename_i hl
    split at he
    · rename_i zs tb cs hz hr
      dsimp only at he
      split at he
      · rename_i hcc
        cases he
        obtain ⟨i, zv, hi, hzv, rfl⟩ := zeroV_some hz
        have hr' := hG r _ hr
        obtain ⟨_, hA, _⟩ := hlv (by rw [hr']; rfl)
        have hA := hA (by omega)
        subst hA
        obtain ⟨vs, fr, k1, kf, k2, k3, k4, k5⟩ := hR.store hr' (off := off) hcc.1 (Vrs.lits (E := E) (w := w) _) hcc.2
        have hst := run_storeCells_atU P (E.μ r).1 ((E.μ r).2 + off) _ fr vs.size kf (Builtin.zeroCells zv.cells len).toList 0 vs w rfl k1 (by have := hcc.1; simp at this ⊢; omega) k3
        simp only [Nat.add_zero] at hst
        refine ⟨undef, _, _, .inl ?_, .lit _, k4, k5, rfl, fun q => ⟨.inl, fun q' => q'.elim id fun q' => by omega⟩⟩
        rw [hrun]
        obtain ⟨l', rfl⟩ : ∃ l', len = l' + 1 := ⟨len - 1, by omega⟩
        simp [Builtin.clear_, run_underlying hu, zeroValue, typeInfo, hi, hzv, hst]
        rfl
      · cases he
    · cases he
theorem copy_out {c : Call} {t t' e : TypeId} {x y : Operand} {r off z len : Nat} {f : Eff} (hR : Rel E w) (hG : ∀ r ob, G r = some ob → E.H r = some ob) (ho : o.op = .call c) (hc : c.callee = .builtin .copy) (hxy : c.args = #[x, y]) (ht : c.argTypes = #[t, t']) (hu : P.underlying t = some (.slice e)) (hz : sizeT P e = some z) (hs : notStr (opV T y) = true) (hv : Vr E w (.sl r off z len) (a.eval x)) (hy : Vr E w (opV T y) (a.eval y)) (he : copyE G nx r off z len (opV T y) = some f) : EffOk P E w (execOp a.eval o) nx f := by
  obtain ⟨A, cap, hp, hU, h0, hlc, hm, hlv⟩ := hv.sl_inv
  obtain ⟨i, hi, rfl⟩ := sizeT_some hz
  unfold copyE at he
  split at he
  · cases he
  split at he
  · rename_i news tb cs hn hr
    dsimp only at he
    split at he
    · rename_i hle
      cases he
      have hr' := hG r _ hr
      obtain ⟨us, B, cy, hyv, hnl, hus, husl, hus1, hnone, husA⟩ := news_out h0 hR hG hy (fun s q => by rw [q] at hs; cases hs) hn
      generalize news.length / i.size = N at *
      have hmin : (min N len) * i.size ≤ news.length := by rw [hnl]; exact Nat.mul_le_mul_right _ (Nat.min_le_left _ _)
      have hmin2 : (min N len) * i.size ≤ len * i.size := Nat.mul_le_mul_right _ (Nat.min_le_right _ _)
      have htk : (news.take ((min N len) * i.size)).length = (min N len) * i.size := by rw [List.length_take]; omega
      obtain ⟨⟨ad, hAd, hbk⟩, hA, _⟩ := hlv (by rw [hr']; rfl)
      have hon : oks (news.take ((min N len) * i.size)) = true := List.all_eq_true.2 fun c hc => List.all_eq_true.1 hnone c (List.mem_of_mem_take hc)
      obtain ⟨vs, fr, k1, kf, k2, k3, k4, k5⟩ := hR.store hr' (off := off) (new := news.take ((min N len) * i.size)) (us := us.take ((min N len) * i.size)) (by rw [htk]; omega) (hus.take _) hon
      have hul : (us.take ((min N len) * i.size)).length = (min N len) * i.size := by rw [List.length_take, husl, ← hnl]; omega
      have hst := run_storeCells_atU P (E.μ r).1 ((E.μ r).2 + off) _ fr vs.size kf (us.take ((min N len) * i.size)) 0 vs w rfl k1 (by rw [hul]; omega) k3
      simp only [Nat.add_zero] at hst
      have hfirst : (Builtin.firstCells i.size (min N len) (.slice B N cy)).run P w = .ok (us.take ((min N len) * i.size)).toArray w := by
        by_cases hN : 0 < N
        · obtain ⟨b, rfl, hcell⟩ := husA hN
          refine run_firstCells_some (P := P) w i.size (min N len) b N cy _ hul fun j v hj => ?_
          rw [List.getElem?_take] at hj
          split at hj
          · exact hcell j v hj
          · cases hj
        · have hN0 : N = 0 := by omega
          subst hN0
          simp only [Nat.zero_min, Nat.zero_mul, List.take_zero]
          cases B <;> simp [Builtin.firstCells, loadCells, loadCellsFrom]
      have hrun : ∀ w', (storeCells ad (us.take ((min N len) * i.size))).run P w = .ok () w' → (execOp a.eval o).run P w = .ok (.value (.int .i64 (min N len : Nat))) w' := by
        intro w' hw
        subst hAd
        rw [run_builtinH ho hc, hxy, ht]
        simp [builtin, hp, hyv, Builtin.copy_, run_underlying hu, Builtin.lenOf, sizeOf, typeInfo, hi, goInt]
        have e : N.min len = min N len := rfl
        rw [e, hfirst]
        simp [hw]
      by_cases hz0 : (min N len) * i.size = 0
      · have hu0 : us.take ((min N len) * i.size) = [] := by rw [hz0]; rfl
        have hn0 : news.take ((min N len) * i.size) = [] := by rw [hz0]; rfl
        rw [hu0] at hrun k4 k5
        rw [hn0] at k4 k5
        have hw0 := hrun w rfl
        have hset : setC off [] cs = cs := by
          unfold setC
          simp
        have hHe : upd E.H r (some (.cells tb (setC off [] cs))) = E.H := by
          rw [hset]
          funext q
          by_cases e : q = r
          · subst e; rw [upd_same, hr']
          · rw [upd_ne _ _ e]
        rw [hn0]
        refine ⟨_, w, E, .inl hw0, .lit _, hR, Step.refl _ _, hHe.symm, fun q => ⟨.inl, fun q' => q'.elim id fun q' => by omega⟩⟩
      · have hcap : 0 < cap := by
          have hlp : 0 < min N len := by
            rcases Nat.eq_zero_or_pos (min N len) with q | q
            · rw [q, Nat.zero_mul] at hz0; exact absurd rfl hz0
            · exact q
          have := Nat.min_le_right N len
          omega
        have := hA hcap
        rw [hAd] at this
        cases this
        exact ⟨_, _, _, .inl (hrun _ hst), .lit _, k4, k5, rfl, fun q => ⟨.inl, fun q' => q'.elim id fun q' => by omega⟩⟩
    · cases he
  · cases he
theorem delete_out {c : Call} {t kt et : TypeId} {x k : Operand} {r : Nat} {es : List (Value × V)} {kd : TypeDesc} {kv : Value} {f : Option (Nat × V)} (hR : Rel E w) (ho : o.op = .call c) (hc : c.callee = .builtin .delete) (hxy : c.args = #[x, k]) (hts : c.argTypes = #[t]) (hx : Vr E w (.mp r) (a.eval x)) (hk : Vr E w (.lit kv) (a.eval k)) (ht : P.underlying t = some (.map kt et)) (hr : E.H r = some (.map es))
    (hkd : keyKind P kt = some kd) (hok : keyOk kd kv = true) (hf : findE kd kv es 0 = some f) :
    Out P E w (execOp a.eval o) (.lit undef) [(r, some (.map (match f with
      | some (i, _) => es.eraseIdx i
      | none => es)))] nx nx := by
  have hu := hx.mp_live hr
  have hkv := hk.lit_inv
  obtain ⟨ms, clk, hb, hs, hl, hm⟩ := hR.map hr
  have hkt := keyKind_some hkd
  have hik := keyOk_is hok
  have hfo := find_out (E := E) (w := w) (kd := kd) (k := kv) es ms.toList 0 (by simpa using hl) fun j e m he hm' => hm j e m he (by simpa using hm')
  have hrun0 : ∀ w', (Builtin.delete_ #[t] o.type #[.map (some (E.μ r).1), kv]).run P w = .ok (.tuple #[]) w' → (execOp a.eval o).run P w = .ok (.value undef) w' := by
    intro w' h
    rw [run_builtinH ho hc, hxy, hts]
    simp [builtin, hu, hkv, h]
    rfl
  have fin : ∀ (es' : List (Value × V)) (ms' : Array MapEntry), (Builtin.delete_ #[t] o.type #[.map (some (E.μ r).1), kv]).run P w = .ok (.tuple #[]) { w with heap := w.heap.setIfInBounds (E.μ r).1 (.map ms' clk) } → ObR E w (E.μ r).2 (.map es') (.map ms' clk) → Out P E w (execOp a.eval o) (.lit undef) [(r, some (.map es'))] nx nx := by
    intro es' ms' hrun hob
    obtain ⟨h1, h2⟩ := hR.write hr hb (w' := { w with heap := w.heap.setIfInBounds (E.μ r).1 (.map ms' clk) }) ⟨rfl, rfl, rfl, by simp, fun q hq => (Go.MapKept.heap_set hb).2 q hq⟩ (Go.MapKept.heap_set hb).1 (fun _ _ _ e => by cases e) hob
    exact ⟨undef, _, _, .inl (hrun0 _ hrun), .lit _, h1, h2, rfl, fun q => ⟨.inl, fun q' => q'.elim id fun q' => by omega⟩⟩
  cases f with
  | none =>
    obtain ⟨f1, f2⟩ := hfo.1 hf
    refine fin _ ms ?_ ⟨hs, hl, hm⟩
    simp [Builtin.delete_, run_underlying ht, Go.MapKept.run_getObj_map hb, Go.MapKept.run_checkKey hkt hik, Go.MapKept.run_findKey hkt f1, Go.MapKept.run_setObj_map _ hb]
  | some p =>
    obtain ⟨j, v⟩ := p
    obtain ⟨m0, _, g2, g3, _, f1⟩ := hfo.2 j v hf
    rw [Nat.sub_zero, Array.getElem?_toList] at g2
    have hjm := (Array.getElem?_eq_some_iff.1 g2).1
    have hel : (ms.eraseIdxIfInBounds j).toList = ms.toList.eraseIdx j := by
      simp [Array.eraseIdxIfInBounds, hjm]
    refine fin _ (ms.eraseIdxIfInBounds j) ?_ ⟨Go.MapKept.stamped_erase hs j, ?_, fun i e m he hm' => ?_⟩
    · simp [Builtin.delete_, run_underlying ht, Go.MapKept.run_getObj_map hb, Go.MapKept.run_checkKey hkt hik, Go.MapKept.run_findKey hkt f1, Go.MapKept.run_setObj_map _ hb]
    · have hsz : (ms.eraseIdxIfInBounds j).size = ms.size - 1 := by
        rw [← Array.length_toList, hel, List.length_eraseIdx]
        simp [hjm]
      rw [hsz, List.length_eraseIdx, hl, if_pos hjm]
    · rw [← Array.getElem?_toList, hel, List.getElem?_eraseIdx] at hm'
      rw [List.getElem?_eraseIdx] at he
      split at he
      · rename_i hlt
        rw [if_pos hlt] at hm'
        exact hm i e m he (by simpa using hm')
      · rename_i hlt
        rw [if_neg hlt] at hm'
        exact hm _ e m he (by simpa using hm')
theorem one_arg {c : Call} {v : V} (h : c.args.toList.map (opV T) = [v]) : ∃ x, c.args = #[x] ∧ opV T x = v := by
  cases hc : c.args.toList with
  | nil => rw [hc] at h; simp at h
  | cons x l =>
    rw [hc] at h
    cases l with
    | nil => exact ⟨x, by apply Array.ext'; exact hc, by simpa using h⟩
    | cons y l => simp at h
theorem one_typ {c : Call} {t : TypeId} (h : c.argTypes.toList = [t]) : c.argTypes = #[t] := by apply Array.ext'; exact h
theorem two_args {c : Call} {v u : V} (h : c.args.toList.map (opV T) = [v, u]) : ∃ x y, c.args.toList = [x, y] ∧ opV T x = v ∧ opV T y = u := by
  cases hc : c.args.toList with
  | nil => rw [hc] at h; simp at h
  | cons x l =>
    rw [hc] at h
    cases l with
    | nil => simp at h
    | cons y l =>
      cases l with
      | nil => exact ⟨x, y, rfl, by simpa using h⟩
      | cons => simp at h
theorem appE_val {e : TypeId} {z bytes : Nat} {x y : V} {f : Eff} (h : appE G nx e z bytes x y = some f) : match f with
    | .val .. => True
    | _ => False := by
  unfold appE at h
  dsimp only at h
  repeat' split at h
  all_goals first | (cases h; done) | (cases h; trivial)
theorem isG {G : Nat → Option Ob} (hG : ∀ r ob, G r = some ob → E.H r = some ob) {r : Nat} (h : (G r).isSome = true) : (E.H r).isSome = true := by
  obtain ⟨ob, hob⟩ := Option.isSome_iff_exists.1 h
  rw [hG r ob hob]; rfl
theorem bytesC_out : ∀ {cs : List V} {l : List UInt8}, bytesC cs = some l → l.length = cs.length ∧ ∀ (j : Nat) (b : UInt8), l[j]? = some b → cs[j]? = some (.lit (.int .u8 b.toNat))
  | [], l, h => by cases h; exact ⟨rfl, fun j b h => by simp at h⟩
  | c :: cs, l, h => by
    unfold bytesC at h
    split at h
    · rename_i heq; exact absurd heq (by simp)
    · rename_i n r heq
      cases heq
      split at h
      · rename_i r' hr hn
        cases h
        rw [decide_eq_true_eq] at hn
        obtain ⟨g1, g2⟩ := bytesC_out hr
        refine ⟨by simp [g1], fun j x hj => ?_⟩
        cases j with
        | zero =>
          cases hj
          have e : ((UInt8.ofNat n.toNat).toNat : Int) = n := by
            rw [show (UInt8.ofNat n.toNat).toNat = n.toNat % 256 from UInt8.toNat_ofNat' ..]
            omega
          rw [e]; rfl
        | succ j => simpa using g2 j x (by simpa using hj)
      · cases h
    · cases h
theorem convE_out {src dst : TypeId} {x : Operand} {f : Eff} (hR : Rel E w) (hnx : ¬ E.U nx) (hG : ∀ r ob, G r = some ob → E.H r = some ob) (ho : o.op = .convert src dst x) (h : ∀ x : Operand, Vr E w (opV T x) (a.eval x)) (e : convE P T G nx src dst x o = some f) : EffOk P E w (execOp a.eval o) nx f := by
  unfold convE at e
  have hxv := h x
  split at e
  · rename_i s el hx hs hd
    split at e
    · rename_i he
      split at e
      · rename_i hsz
        cases e
        rw [hx] at hxv
        have hv := hxv.lit_inv
        have hrun : (execOp a.eval o).run P w = .ok (.value (.slice (some ⟨w.heap.size, 0, none⟩) s.size (grownCap w s.size 0 el)))
            (w.drew.alloc (.cells (bytesRow s (grownCap w s.size 0 el)) el ((bytesRow s (grownCap w s.size 0 el)).size, (bytesRow s (grownCap w s.size 0 el)).size + 1))) := by
          have := run_bytes_of_string (P := P) w src dst el s hs hd he
          simp [execOp, ho, hv, this]
        obtain ⟨hR2, hS2⟩ := hR.drew
        have hcap := grownCap_le (w := w) (old := 0) (e := el) (need := s.size) (by omega)
        have hbs : (bytesRow s (grownCap w s.size 0 el)).size = grownCap w s.size 0 el := by
          unfold bytesRow
          simp only [Array.size_append, Array.size_map, Array.size_replicate]
          have : s.data.size = s.size := rfl
          omega
        refine Out.made2 (ups0 := []) hR2 hS2 rfl rfl hnx hrun ⟨.inr rfl, ⟨?_, fun _ => rfl, rfl, fun q => absurd q (show ¬ (2 : Nat) < 2 by decide), fun q => absurd q (show ¬ (2 : Nat) = 0 by decide)⟩, fun j c hc => ?_⟩ (sl_new (by decide) hcap.1 hcap.2 (by rw [hbs, Nat.mul_one]))
        · rw [hbs]; simp; exact hcap.1
        · rw [List.getElem?_map, Option.map_eq_some_iff] at hc
          obtain ⟨b, hb, rfl⟩ := hc
          refine ⟨rfl, .int .u8 b.toNat, ?_, .lit _⟩
          have hj := (List.getElem?_eq_some_iff.1 hb).1
          rw [Array.getElem?_toList] at hb
          unfold bytesRow
          rw [Nat.zero_add, Array.getElem?_append_left (by simpa using hj), Array.getElem?_map, hb]
          rfl
      · cases e
    · cases e
  · rename_i r off z len el hx hs hd
    split at e
    · rename_i tb cs he hg
      split at e
      · rename_i hc
        obtain ⟨rfl, h0, hle⟩ := hc
        rw [Option.map_eq_some_iff] at e
        obtain ⟨l, hl, rfl⟩ := e
        rw [hx] at hxv
        obtain ⟨A, cap, hu, hU, _, hlc, hm, hlv⟩ := hxv.sl_inv
        obtain ⟨_, hA, _⟩ := hlv (by rw [hG _ _ hg]; rfl)
        have hA := hA (by omega)
        subst hA
        obtain ⟨g1, g2⟩ := bytesC_out hl
        have hll : l.length = len := by rw [g1]; simp; omega
        subst hll
        refine Out.pure hR (u := .string ⟨l.toArray⟩) ?_ (.lit _)
        have := run_convert_bytes_back (P := P) w src dst el ⟨(E.μ r).1, (E.μ r).2 + off, none⟩ cap l hs he hd (fun j hj => by
          have hcs := g2 j l[j] (List.getElem?_eq_getElem hj)
          rw [List.getElem?_take, if_pos hj, List.getElem?_drop] at hcs
          obtain ⟨u, q1, q2⟩ := hR.cell (hG _ _ hg) hcs
          rw [q2.lit_inv] at q1
          rw [addr_add, Nat.add_assoc]; exact q1)
        simp [execOp, ho, hu, this]
      · cases e
    · cases e
  · exact flatE_ok h hR e
theorem liesAt_bytesU {e : TypeId} (hc : P.cellsOf e = 1) (count off n : Nat) (hn : off + n ≤ count) : liesAt P P.depth e count off e n = true := by
  have hd : P.depth = (2 * (P.types.size + Made.depth) + 1) + 1 := rfl
  rw [hd]
  simp only [liesAt, Bool.or_eq_true]
  left
  rw [hd]
  simp [rowAt, hc, hn, sameLayout, Nat.mod_one]
theorem Rel.killw {E : Mx} {w w' : World} (h : Rel E w) {r : Nat} {ob : Ob} (hr : E.H r = some ob) (hw : Only (E.μ r).1 w w') : Rel (E.kill r) w' ∧ Step E w (E.kill r) w' := by
  obtain ⟨hk, ks⟩ := h.kill r
  have hs : ∀ s ob, (E.kill r).H s = some ob → E.H s = some ob ∧ (E.μ s).1 ≠ (E.μ r).1 := fun s ob' hs => by
    have hs' : upd E.H r none s = some ob' := hs
    by_cases e : s = r
    · subst e; rw [upd_same] at hs'; cases hs'
    · rw [upd_ne _ _ e] at hs'
      exact ⟨hs', fun q => e (h.inj s r ob' ob hs' hr q)⟩
  have k : Step E w (E.kill r) w' := by
    refine ⟨hw.os, hw.tape, hw.output, Nat.le_of_eq hw.size.symm, fun _ h => h, fun _ _ => rfl, fun s _ hl => ?_, fun g hg hu => hw.block g fun e => hu r ob hr e.symm, fun g _ hu s ob' hs' => hu s ob' (hs s ob' hs').1, fun s _ hl vs ty fr e => ?_⟩
    · obtain ⟨ob', hob⟩ := Option.isSome_iff_exists.1 hl
      rw [(hs s ob' hob).1]; rfl
    · obtain ⟨ob', hob⟩ := Option.isSome_iff_exists.1 hl
      exact ⟨vs, ty, fr, by rw [hw.block _ (hs s ob' hob).2]; exact e, rfl⟩
  refine ⟨⟨fun s ob' q => h.used s ob' (hs s ob' q).1, fun s s' x x' q q' e => h.inj s s' x x' (hs s x q).1 (hs s' x' q').1 e, fun s ob' q => ?_⟩, k⟩
  obtain ⟨o', h1, h2⟩ := h.obj s ob' (hs s ob' q).1
  exact ⟨o', by rw [show (E.kill r).μ s = E.μ s from rfl, hw.block _ (hs s ob' q).2]; exact h1, h2.step k⟩
theorem unsStr_out {c : Call} {x y : Operand} {t t' : TypeId} {r off : Nat} {n : Int} {f : Eff} (hR : Rel E w) (hG : ∀ r ob, G r = some ob → E.H r = some ob) (ho : o.op = .call c) (hc : c.callee = .builtin .unsafeString) (hxy : c.args = #[x, y]) (ht : c.argTypes = #[t, t'])
    (hx : Vr E w (.ptr r off) (a.eval x)) (hy : Vr E w (.lit (.int .i64 n)) (a.eval y)) (he : unsStrE P G nx r off n t = some f) : EffOk P E w (execOp a.eval o) nx f := by
  unfold unsStrE at he
  split at he
  case h_2 => cases he
  rename_i e tb cs hp hg
  split at he
  case isFalse => cases he
  rename_i hcc
  obtain ⟨⟨hte, hce, rfl⟩, h0, h1, h2⟩ := hcc
  rw [Option.map_eq_some_iff] at he
  obtain ⟨l, hl, rfl⟩ := he
  have hr := hG r _ hg
  have hpx := hx.ptr_live hr
  have hyv := hy.lit_inv
  obtain ⟨g1, g2⟩ := bytesC_out hl
  have hll : l.length = n.toNat := by rw [g1]; simp; omega
  obtain ⟨ob, w1, x1⟩ := hR.obj _ _ hr
  cases ob <;> try exact x1.elim
  rename_i vs ty fr
  obtain ⟨_, ⟨x2, _, hty, _⟩, _⟩ := x1
  rw [hte] at hty
  subst hty
  have hcell : ∀ j x, l[j]? = some x → w.cell? ((⟨(E.μ r).1, (E.μ r).2, none⟩ : Addr).add j) = some (.int .u8 x.toNat) := by
    intro j b hj
    have hcs := g2 j b hj
    have hjl := (List.getElem?_eq_some_iff.1 hj).1
    rw [List.getElem?_take, if_pos (by omega)] at hcs
    obtain ⟨u, q1, q2⟩ := hR.cell hr hcs
    rw [q2.lit_inv] at q1
    rw [addr_add]; exact q1
  have hsh : w.shape? (E.μ r).1 = some (ty, vs.size) := by simp [World.shape?, w1]
  have hlb := Lib.run_loadBytes (P := P) w l ⟨(E.μ r).1, (E.μ r).2, none⟩ .empty hcell
  have hlies := liesAt_bytesU (P := P) hce (vs.size / P.cellsOf ty) (E.μ r).2 l.length (by rw [hce]; simp; omega)
  have hn : n = (l.length : Int) := by omega
  have hne : ¬ l.length = 0 := by omega
  have hrun : (Builtin.unsafeString_ #[t, t'] o.type #[.pointer (some ⟨(E.μ r).1, (E.μ r).2, none⟩), .int .i64 l.length]).run P w = .ok (.string ⟨l.toArray⟩) (w.freeze ⟨(E.μ r).1, (E.μ r).2, none⟩ l.length) := by
    have hdef : Builtin.unsafeString_ #[t, t'] o.type #[.pointer (some ⟨(E.μ r).1, (E.μ r).2, none⟩), .int .i64 l.length] =
      (do
        let n ← asInt (.int .i64 l.length)
        if n < 0 then runtimePanic (.error "unsafe.String: len out of range")
        if n > IntKind.i64.max then unsupported (.unsafePointer "String: a length above the largest int")
        if n = 0 then pure (.string .empty)
        else if ← variablesAt ⟨(E.μ r).1, (E.μ r).2, none⟩ (← elemOf t) n.toNat then do
          let s ← loadBytes ⟨(E.μ r).1, (E.μ r).2, none⟩ .empty n.toNat
          freeze ⟨(E.μ r).1, (E.μ r).2, none⟩ n.toNat
          pure (.string s)
        else unsupported (.unsafePointer "String: not so many bytes at ptr")) := rfl
    rw [hdef]
    have hmax : IntKind.i64.max = 9223372036854775807 := rfl
    have hneg : ¬ (l.length : Int) < 0 := by omega
    have h63' : ¬ (9223372036854775807 : Int) < (l.length : Int) := by omega
    simp [asInt, asIntOf, hmax, h63', hneg, hne, variablesAt, hsh, elemOf, run_underlying hp, hlies, hlb]
  obtain ⟨k1, k2⟩ := hR.killw hr (w' := w.freeze ⟨(E.μ r).1, (E.μ r).2, none⟩ l.length) (by
    unfold World.freeze
    rw [if_neg hne]
    exact ⟨rfl, rfl, rfl, by simp, fun k hk => by simp only [Array.getElem?_modify]; rw [if_neg (Ne.symm hk)]⟩)
  refine ⟨.string ⟨l.toArray⟩, _, _, .inl ?_, .lit _, k1, k2, rfl, fun q => ⟨.inl, fun q' => q'.elim id fun q' => by omega⟩⟩
  rw [run_builtinH ho hc, hxy, ht]
  simp only [List.map_toArray, List.map_cons, List.map_nil, builtin, Sem.run_bind, hpx, hyv, hn, Nat.add_zero, hrun]
  rfl
theorem slData_out {c : Call} {x : Operand} {r off z len : Nat} (hR : Rel E w) (ho : o.op = .call c) (hc : c.callee = .builtin .unsafeSliceData) (hx : c.args = #[x]) (hv : Vr E w (.sl r off z len) (a.eval x)) (h0 : 0 < len) (hl : (E.H r).isSome) : Out P E w (execOp a.eval o) (.ptr r off) [] nx nx := by
  obtain ⟨A, cap, hp, hU, _, hlc, hm, hlv⟩ := hv.sl_inv
  have hA := (hlv hl).2.1 (by omega)
  subst hA
  refine Out.pure hR (u := .pointer (some ⟨(E.μ r).1, (E.μ r).2 + off, none⟩)) ?_ (.ptr _ _ _ hU fun _ => rfl)
  rw [run_builtinH ho hc, hx]
  have := Lib.run_unsafeSliceData_row (P := P) w c.argTypes o.type ⟨(E.μ r).1, (E.μ r).2 + off, none⟩ len cap (by omega)
  simp only [List.map_toArray, List.map_cons, List.map_nil, builtin, Sem.run_bind, hp, this]
  rfl
theorem isStrT_some {t : TypeId} (h : isStrT P t = true) : P.underlying t = some .string := by
  unfold isStrT at h
  split at h
  · assumption
  · cases h
theorem mapUE_out {t : TypeId} {x k y : Operand} {f : Eff} (hR : Rel E w) (hG : ∀ r ob, G r = some ob → E.H r = some ob) (ho : o.op = .mapUpdate t x k y ∨ o.op = .insert t x k y) (h : ∀ x : Operand, Vr E w (opV T x) (a.eval x)) (e : mapUE P T G nx t x k y = some f) : EffOk P E w (execOp a.eval o) nx f := by
  unfold mapUE at e
  split at e
  · rename_i r kt et hx ht
    split at e
    · rename_i es kd kv hr hkd hk
      split at e
      · cases e
      · rename_i hok
        have hok : keyOk kd kv = true := by simpa using hok
        have hxv := h x
        rw [hx] at hxv
        have hkv := h k
        rw [hk] at hkv
        split at e
        · rename_i j v hf
          cases e
          exact mapUpdate_out hR ho hxv hkv (h y) ht (hG r _ hr) hkd hok hf
        · rename_i hf
          cases e
          exact mapUpdate_out hR ho hxv hkv (h y) ht (hG r _ hr) hkd hok hf
        · cases e
    · cases e
  · cases e
set_option maxHeartbeats 4000000 in
theorem op1_sound (hR : Rel E w) (hnx : ¬ E.U nx) (h : ∀ x : Operand, Vr E w (opV T x) (a.eval x)) (hG : ∀ r ob, G r = some ob → E.H r = some ob) {f : Eff} (e : op1 P T G nx o = some f) : EffOk P E w (execOp a.eval o) nx f := by
  unfold op1 at e
  dsimp only at e
  split at e
  · rename_i x ho
    cases e
    exact Out.pure hR (by simp [execOp, ho]) (h x)
  · rename_i x ho
    cases e
    exact Out.pure hR (by simp [execOp, ho]) (h x)
  · rename_i c x y ho
    split at e
    · rename_i t ht
      cases e
      have hc := h c
      rw [ht] at hc
      refine Out.pure hR (u := if t then a.eval x else a.eval y) (by simp [execOp, ho, hc.lit_inv, asBool]) ?_
      cases t
      · exact h y
      · exact h x
    · cases e
  · rename_i t ho
    split at e
    · rename_i cs hz
      split at e
      · rename_i h1; cases e; exact alloc_out hR hnx ho hz h1
      · cases e
    · cases e
  · rename_i t x ho
    split at e
    · rename_i h1; cases e; exact box_out hR hnx ho (h x) h1
    · cases e
  · rename_i t parts ho
    rw [Option.map_eq_some_iff] at e
    obtain ⟨v, hv, rfl⟩ := e
    exact build_out hR ho h hv
  · rename_i t len parts ho
    split at e
    · rename_i el ht
      split at e
      · rename_i z zs hz hzs
        split at e
        · rename_i hc
          cases e
          obtain ⟨c1, rfl, c3⟩ := hc
          exact buildNone_out hR hnx ho c3 ht hz c1
        split at e
        · rename_i hc
          split at e
          · rename_i cs hf
            split at e
            · rename_i h1
              cases e
              rw [Bool.and_eq_true, beq_iff_eq] at h1
              exact buildSlice_out hR hnx ho h ht hz hzs hc hf h1.1 h1.2
            · cases e
          · cases e
        · cases e
      · cases e
    · cases e
  · rename_i t x ho
    split at e
    · rename_i r off agg z hx ha hz
      split at e
      · rename_i _ cs hr
        rw [Option.map_eq_some_iff] at e
        obtain ⟨v, hv, rfl⟩ := e
        have hxv := h x
        rw [hx] at hxv
        obtain ⟨u, h1, h2⟩ := load_out hR hxv ha hz (hG r _ hr) hv
        exact Out.pure hR (by simp only [execOp, ho, Sem.run_bind, h1]; rfl) h2
      · cases e
    · cases e
  · rename_i t x y ho
    split at e
    · rename_i r off z hx hz
      split at e
      · rename_i _ cs hr
        split at e
        · rename_i hc
          cases e
          rw [Bool.and_eq_true, Bool.and_eq_true, beq_iff_eq, decide_eq_true_eq] at hc
          have hxv := h x
          rw [hx] at hxv
          exact store_out hR ho hxv (h y) hz (hG r _ hr) hc.1.1 hc.1.2 hc.2
        · cases e
      · cases e
    · cases e
  · rename_i x ho
    have hx := h x
    split at e
    · rename_i r off hxv
      cases e
      rw [hxv] at hx
      generalize hu : a.eval x = u at hx
      refine Out.pure hR (u := u) ?_ hx
      cases hx
      simp [execOp, ho, hu]
    · rename_i t v hxv
      cases e
      rw [hxv] at hx
      generalize hu : a.eval x = u at hx
      refine Out.pure hR (u := u) ?_ hx
      cases hx
      simp [execOp, ho, hu]
    · rename_i g b1 b2 hxv
      cases e
      rw [hxv] at hx
      generalize hu : a.eval x = u at hx
      refine Out.pure hR (u := u) ?_ hx
      cases hx
      simp [execOp, ho, hu]
    · rename_i r off z len hxv
      cases e
      rw [hxv] at hx
      generalize hu : a.eval x = u at hx
      refine Out.pure hR (u := u) ?_ hx
      cases hx
      simp [execOp, ho, hu]
    · rename_i r hxv
      cases e
      rw [hxv] at hx
      generalize hu : a.eval x = u at hx
      refine Out.pure hR (u := u) ?_ hx
      cases hx
      simp [execOp, ho, hu]
    · exact flatE_ok h hR e
  · rename_i op t x y yt ho
    split at e
    · rename_i v hv
      cases e
      obtain ⟨u, rfl, hrun⟩ := flatV_sound h hv
      exact Out.pure hR hrun (.lit u)
    · split at e
      · rename_i b hb
        cases e
        exact eq_out hR (.inl rfl) ho h hG hb
      · rename_i b hb
        cases e
        exact eq_out hR (.inr rfl) ho h hG hb
      · rw [Option.map_eq_some_iff] at e
        obtain ⟨v, hv, rfl⟩ := e
        obtain ⟨u, hrun, hu⟩ := unV_sound (w := w) h hv
        exact Out.pure hR hrun hu
  · rename_i s x f' ho
    split at e
    · rename_i r off fs hx hs
      split at e
      · rename_i fl hf
        split at e
        · rename_i n hz
          cases e
          have hxv := h x
          rw [hx] at hxv
          exact fieldAddr_out hR ho hxv hs hf hz
        · cases e
      · cases e
    · cases e
  · rename_i s x f' ho
    split at e
    · rename_i cs fs hx hs
      split at e
      · rename_i fl hf
        split at e
        · rename_i agg z ha hz
          rw [Option.map_eq_some_iff] at e
          obtain ⟨v, hv, rfl⟩ := e
          have hxv := h x
          rw [hx] at hxv
          exact field_out hR ho hxv hs hf ha hz hv
        · cases e
      · cases e
    · exact flatE_ok h hR e
  · rename_i t x i ho
    split at e
    · rename_i el r off z len n ht hx hn
      split at e
      · rename_i hc
        cases e
        have hxv := h x
        rw [hx] at hxv
        exact indexAddr_out hR ho hxv (h i) ht hn hc.1 hc.2.1 (isG hG hc.2.2)
      · cases e
    · rename_i len el r off n ht hx hn
      split at e
      · rename_i z hz
        split at e
        · rename_i hc
          cases e
          have hxv := h x
          rw [hx] at hxv
          exact indexArr_out hR ho hxv (h i) ht hn hz hc
        · cases e
      · cases e
    · cases e
  · rename_i t x lo hi ho
    split at e
    · rename_i el r off z len ht hx
      split at e
      · rename_i l hh hl hhh
        split at e
        · rename_i hc
          cases e
          have hxv := h x
          rw [hx] at hxv
          exact slice_out hR ho hxv h ht hl hhh hc
        · cases e
      · cases e
    · exact flatE_ok h hR e
  · rename_i t r ho
    split at e
    · cases e
      exact makeMap_out hR hnx ho
    · cases e
  · rename_i t x k ok ho
    split at e
    · rename_i r kt et hx ht
      split at e
      · rename_i es kd kv zv hr hkd hk hz
        split at e
        · cases e
        · rename_i hok
          have hok : keyOk kd kv = true := by simpa using hok
          have hxv := h x
          rw [hx] at hxv
          have hkv := h k
          rw [hk] at hkv
          split at e
          · rename_i j v hf
            cases e
            exact lookup_out hR ho hxv hkv ht (hG r _ hr) hkd hz hok hf
          · rename_i hf
            cases e
            exact lookup_out hR ho hxv hkv ht (hG r _ hr) hkd hz hok hf
          · cases e
      · cases e
    · exact flatE_ok h hR e
  · rename_i t x k y ho
    exact mapUE_out hR hG (.inl ho) h e
  · rename_i t x k y ho
    exact mapUE_out hR hG (.inr ho) h e
  · rename_i src dst x ho
    exact convE_out hR hnx hG ho h e
  · rename_i f' xs ys ho
    cases e
    exact makeFunc_out hR ho h
  · rename_i t x ho
    split at e
    · cases e
    · rename_i d hne ht
      cases e
      exact makeIface_out hR ho (h x) ht (fun ms q => hne ms (by rw [← q]))
    · cases e
  · rename_i t x y ho
    split at e
    · rename_i el n m ht hx hy
      split at e
      · rename_i i zs hi hzs
        split at e
        · rename_i hc
          cases e
          exact makeSlice_out hR hnx ho h ht hx hy hi hzs hc
        · cases e
      · cases e
    · cases e
  · rename_i x i ho
    split at e
    · rename_i vs hx
      rw [Option.map_eq_some_iff] at e
      obtain ⟨v, hv, rfl⟩ := e
      have hxv := h x
      rw [hx] at hxv
      exact extract_out hR ho hxv hv
    · exact flatE_ok h hR e
  · rename_i x xt t ok ho
    split at e
    · rename_i d v want hx ht
      split at e
      · rename_i i hi
        split at e
        · rename_i hm
          cases e
          have hxv := h x
          rw [hx] at hxv
          exact assert_out hR ho hxv (.inl ⟨want, i, ht, hi, hm, rfl⟩)
        · cases e
      · cases e
    · rename_i d v ds hne hx ht
      split at e
      · rename_i hd
        cases e
        have hxv := h x
        rw [hx] at hxv
        exact assert_out hR ho hxv (.inr ⟨ds, ht, fun m q => hne m (by rw [← q]), hd, rfl⟩)
      · cases e
    · exact flatE_ok h hR e
  · rename_i c ho
    split at e
    · rename_i hc
      split at e
      · rename_i r hr
        cases e
        exact yld_out ho hc h hr
      · rw [Option.map_eq_some_iff] at e
        obtain ⟨q, hq, rfl⟩ := e
        exact callV_out ho hc h hq
    · rename_i hc
      rw [Option.map_eq_some_iff] at e
      obtain ⟨q, hq, rfl⟩ := e
      exact invoke_out hR hG ho hc h hq
    · rename_i r off z len t hc ha ht
      split at e
      · rename_i el hu
        cases e
        obtain ⟨x, hx, hxv⟩ := one_arg ha
        have hv := h x
        rw [hxv] at hv
        generalize hq : a.eval x = u at hv
        cases hv
        refine Out.pure hR (u := .int .i64 len) ?_ (.lit _)
        rw [run_builtinH ho hc, hx, one_typ ht]
        simp [builtin, Builtin.len_, run_underlying hu, hq, goInt]
      · cases e
    · rename_i r t hc ha ht
      split at e
      · rename_i kt et es hu hr
        cases e
        obtain ⟨x, hx, hxv⟩ := one_arg ha
        have hv := h x
        rw [hxv] at hv
        have hq := hv.mp_live (hG r _ hr)
        obtain ⟨ms, clk, hb, hs, hl, hm⟩ := hR.map (hG r _ hr)
        refine Out.pure hR (u := .int .i64 es.length) ?_ (.lit _)
        rw [run_builtinH ho hc, hx, one_typ ht]
        simp [builtin, Builtin.len_, run_underlying hu, hq, Go.MapKept.run_getObj_map hb, goInt, hl]
      · cases e
    · rename_i vx vy t t' hc ha ht
      split at e
      · rename_i el hu
        split at e
        · rename_i i hi
          split at e
          · rename_i hc2
            obtain ⟨hz, hstr⟩ := hc2
            have hs2 : (P.underlying t' = some (.slice el) ∧ notStr vy = true) ∨ (P.underlying t' = some .string ∧ notStr vy = false) := hstr.imp (fun q => ⟨by rw [← q.1]; exact hu, q.2⟩) (fun q => ⟨isStrT_some q.1, q.2⟩)
            unfold zeroOk at hz
            obtain ⟨x, y, hxy, hvx, hvy⟩ := two_args ha
            subst hvx
            subst hvy
            have hzz : ∃ zv, i.zero = some zv ∧ zv.cells.size = i.size := by
              split at hz
              · rename_i zv hzv; exact ⟨zv, hzv, by simpa using hz⟩
              · cases hz
            cases f with
            | val v ups nx' => exact app_out hR hnx hG ho hc hxy ht hu hi (h x) (h y) hs2 hzz e
            | call => exact (appE_val e).elim
            | dfr => exact (appE_val e).elim
            | yld => exact (appE_val e).elim
          · obtain ⟨x, y, hxy, hvx, hvy⟩ := two_args ha
            subst hvx
            subst hvy
            obtain ⟨v, ups, nx', rfl, hout⟩ := appZ_out hR hnx ho hc hxy ht hu hi (h x) (h y) e
            exact hout
        · cases e
      · cases e
    · rename_i r off z len hc ha
      split at e
      · rename_i h0
        cases e
        obtain ⟨x, hx, hxv⟩ := one_arg ha
        have hv := h x
        rw [hxv] at hv
        exact slData_out hR ho hc hx hv h0.1 (isG hG h0.2)
      · cases e
    · rename_i r off n t t' hc ha ht
      obtain ⟨x, y, hxy, hvx, hvy⟩ := two_args ha
      have hv := h x
      rw [hvx] at hv
      have hy := h y
      rw [hvy] at hy
      exact unsStr_out hR hG ho hc (by apply Array.ext'; exact hxy) (by apply Array.ext'; exact ht) hv hy e
    · rename_i r off z len t hc ha ht
      split at e
      · rename_i el hu
        obtain ⟨x, hx, hxv⟩ := one_arg ha
        have hv := h x
        rw [hxv] at hv
        exact clear_out hR hG ho hc hx (one_typ ht) hu hv e
      · cases e
    · rename_i r off z len vy t t' hc ha ht
      split at e
      · rename_i el hu
        split at e
        · rename_i hcc
          obtain ⟨x, y, hxy, hvx, hvy⟩ := two_args ha
          subst hvy
          have hv := h x
          rw [hvx] at hv
          exact copy_out hR hG ho hc (by apply Array.ext'; exact hxy) (by apply Array.ext'; exact ht) hu hcc.1 hcc.2 hv (h y) e
        · cases e
      · cases e
    · rename_i r vk t hc ha ht
      split at e
      · rename_i kt et hu
        split at e
        · rename_i es kd kv hr hkd
          obtain ⟨x, y, hxy, hvx, hvy⟩ := two_args ha
          have hv := h x
          rw [hvx] at hv
          have hkv := h y
          rw [hvy] at hkv
          split at e
          · cases e
          · rename_i hok
            have hok : keyOk kd kv = true := by simpa using hok
            split at e
            · rename_i j v hf
              cases e
              exact delete_out hR ho hc (by apply Array.ext'; exact hxy) (one_typ ht) hv hkv hu (hG r _ hr) hkd hok hf
            · rename_i hf
              cases e
              exact delete_out hR ho hc (by apply Array.ext'; exact hxy) (one_typ ht) hv hkv hu (hG r _ hr) hkd hok hf
            · cases e
        · cases e
      · cases e
    · exact flatE_ok h hR e
  · rename_i c ho
    split at e
    · rename_i hc
      rw [Option.map_eq_some_iff] at e
      obtain ⟨q, hq, rfl⟩ := e
      exact defer_out ho hc h hq
    · cases e
  · exact flatE_ok h hR e
end
end Hm
end Go.Proofs.YtcccaomnehdlbaaDoor
