/-
  A machine with a heap, sixth part: maps, appends, calls.
-/
import Derived.Test.YtcccaomnehdlbaaDoorHpE
namespace Go.Proofs.YtcccaomnehdlbaaDoor
open Go.RowKit
set_option linter.unusedVariables false
set_option linter.unusedSimpArgs false
namespace Hm
section
variable {P : Program} {E : Mx} {w : World} {T : Nat → V} {a : Act} {o : Oper} {nx : Nat} {G : Nat → Option Ob}

/-! ### Maps -/
theorem keyOk_is {kd : TypeDesc} {kv : Value} (h : keyOk kd kv = true) : Go.MapKept.IsKey kd kv := by
  cases kd <;> cases kv <;> simp [keyOk] at h <;> simp [Go.MapKept.IsKey, h]
theorem keyKind_some {t : TypeId} {kd : TypeDesc} (h : keyKind P t = some kd) : P.underlying t = some kd := by
  unfold keyKind at h
  split at h <;> cases h <;> assumption
theorem sameNow_eq {kd : TypeDesc} {k k' : Value} (h : Instr.sameNow kd k k' = some true) : k = k' := by
  unfold Instr.sameNow at h
  split at h
  · split at h
    · rename_i e; subst e; simp at h; rw [h]
    · cases h
  · simp at h
    rename_i x y
    rw [(Go.MapKept.bytes_beq x y).1 h]
  · simp at h; rw [h]
  · cases h
theorem sameNow_ne {kd : TypeDesc} {k k' : Value} (h : Instr.sameNow kd k k' = some false) : k ≠ k' := by
  intro e
  subst e
  cases kd <;> cases k <;> first
    | (simp [Instr.sameNow] at h; done)
    | (rename_i s
       have h' : some (s == s) = some false := h
       rw [(Go.MapKept.bytes_beq s s).2 rfl] at h'
       cases h')
theorem find_out {kd : TypeDesc} {k : Value} : ∀ (es : List (Value × V)) (ms : List MapEntry) (i : Nat), es.length = ms.length → (∀ (j : Nat) (e : Value × V) (m : MapEntry), es[j]? = some e → ms[j]? = some m → m.key = e.1 ∧ Vr E w e.2 m.val) →
    (findE kd k es i = some none → Instr.findNow kd k ms i = some none ∧ ∀ m, m ∈ ms → m.key ≠ k) ∧
    (∀ j v, findE kd k es i = some (some (j, v)) → ∃ m, i ≤ j ∧ ms[j - i]? = some m ∧ m.key = k ∧ Vr E w v m.val ∧ Instr.findNow kd k ms i = some (some (j, m.val)))
  | [], [], i, _, _ => ⟨fun _ => ⟨rfl, fun m hm => by cases hm⟩, fun j v h => by simp [findE] at h⟩
  | [], _ :: _, i, h, _ => by simp at h
  | _ :: _, [], i, h, _ => by simp at h
  | e :: es, m :: ms, i, hl, h => by
    obtain ⟨hk, hv⟩ := h 0 e m rfl rfl
    have ih := find_out (kd := kd) (k := k) es ms (i + 1) (by simpa using hl) fun j e' m' he hm => h (j + 1) e' m' (by simpa using he) (by simpa using hm)
    refine ⟨fun hf => ?_, fun j v hf => ?_⟩
    · simp only [findE] at hf
      split at hf
      · cases hf
      · rename_i hs
        obtain ⟨i1, i2⟩ := ih.1 hf
        refine ⟨by simp only [Instr.findNow, hk, hs]; exact i1, fun m' hm' => ?_⟩
        rcases List.mem_cons.1 hm' with q | q
        · rw [q, hk]; exact fun q2 => sameNow_ne hs q2.symm
        · exact i2 m' q
      · cases hf
    · simp only [findE] at hf
      split at hf
      · rename_i hs
        cases hf
        refine ⟨m, Nat.le_refl _, by simp, by rw [hk]; exact (sameNow_eq hs).symm, hv, ?_⟩
        simp only [Instr.findNow, hk, hs]
      · rename_i hs
        obtain ⟨m', g1, g2, g3, g4, g5⟩ := ih.2 j v hf
        refine ⟨m', by omega, ?_, g3, g4, by simp only [Instr.findNow, hk, hs]; exact g5⟩
        rw [show j - i = (j - (i + 1)) + 1 by omega, List.getElem?_cons_succ]; exact g2
      · cases hf
theorem Rel.map (h : Rel E w) {r : Nat} {es : List (Value × V)} (hr : E.H r = some (.map es)) : ∃ ms clk, w.heap[(E.μ r).1]? = some (.map ms clk) ∧ ObR E w (E.μ r).2 (.map es) (.map ms clk) := by
  obtain ⟨ob, h1, h2⟩ := h.obj r _ hr
  cases ob <;> try exact h2.elim
  exact ⟨_, _, h1, h2⟩
theorem makeMap_out {t : TypeId} (hR : Rel E w) (hnx : ¬ E.U nx) (ho : o.op = .makeMap t none) : Out P E w (execOp a.eval o) (.mp nx) [(nx, some (.map []))] nx (nx + 1) := by
  refine Out.made hR hnx (o := .map #[] 0) (u := .map (some w.heap.size)) ?_ ⟨Go.MapKept.stamped_empty 0, rfl, fun i e m h => by simp at h⟩ (.mp _ _ (.inr rfl) fun _ => by simp [Mx.new, upd_same])
  simp only [execOp, ho, Option.map_none]
  rfl
theorem lookup_out {t kt et : TypeId} {x k : Operand} {ok : Bool} {r : Nat} {es : List (Value × V)} {kd : TypeDesc} {kv zv : Value} {f : Option (Nat × V)} (hR : Rel E w) (ho : o.op = .lookup t x k ok) (hx : Vr E w (.mp r) (a.eval x)) (hk : Vr E w (.lit kv) (a.eval k)) (ht : P.underlying t = some (.map kt et)) (hr : E.H r = some (.map es))
    (hkd : keyKind P kt = some kd) (hz : (P.info? et).bind (·.zero) = some zv) (hok : keyOk kd kv = true) (hf : findE kd kv es 0 = some f) :
    Out P E w (execOp a.eval o) (match f with
      | some (_, v) => if ok then .tup [v, .lit (.bool true)] else v
      | none => if ok then .tup [.lit zv, .lit (.bool false)] else .lit zv) [] nx nx := by
  have hu := hx.mp_live hr
  have hkv := hk.lit_inv
  obtain ⟨ms, clk, hb, hs, hl, hm⟩ := hR.map hr
  have hkt := keyKind_some hkd
  have hik := keyOk_is hok
  rw [Option.bind_eq_some_iff] at hz
  obtain ⟨i, hi, hzv⟩ := hz
  have hfo := find_out (E := E) (w := w) (kd := kd) (k := kv) es ms.toList 0 (by simpa using hl) fun j e m he hm' => hm j e m he (by simpa using hm')
  cases f with
  | none =>
    obtain ⟨f1, _⟩ := hfo.1 hf
    refine Out.pure hR (u := if ok then .tuple #[zv, .bool false] else zv) ?_ ?_
    · cases ok <;> simp [execOp, ho, Instr.lookup, run_underlying ht, hu, Go.MapKept.run_getObj_map hb, hkv, Go.MapKept.run_checkKey hkt hik, Go.MapKept.run_findKey hkt f1, zeroValue, typeInfo, hi, hzv]
    · cases ok
      · exact .lit _
      · exact (Vrs.lits [zv, .bool false]).tup
  | some p =>
    obtain ⟨j, v⟩ := p
    obtain ⟨m, _, _, _, hv, f1⟩ := hfo.2 j v hf
    refine Out.pure hR (u := if ok then .tuple #[m.val, .bool true] else m.val) ?_ ?_
    · cases ok <;> simp [execOp, ho, Instr.lookup, run_underlying ht, hu, Go.MapKept.run_getObj_map hb, hkv, Go.MapKept.run_checkKey hkt hik, Go.MapKept.run_findKey hkt f1]
    · cases ok
      · exact hv
      · exact (Vrs.cons hv (.cons (.lit (.bool true)) .nil)).tup
theorem mapUpdate_out {t kt et : TypeId} {x k y : Operand} {r : Nat} {es : List (Value × V)} {kd : TypeDesc} {kv : Value} {f : Option (Nat × V)} (hR : Rel E w) (ho : o.op = .mapUpdate t x k y ∨ o.op = .insert t x k y) (hx : Vr E w (.mp r) (a.eval x)) (hk : Vr E w (.lit kv) (a.eval k)) (hy : Vr E w (opV T y) (a.eval y)) (ht : P.underlying t = some (.map kt et)) (hr : E.H r = some (.map es))
    (hkd : keyKind P kt = some kd) (hok : keyOk kd kv = true) (hf : findE kd kv es 0 = some f) :
    Out P E w (execOp a.eval o) (.lit undef) [(r, some (.map (match f with
      | some (i, _) => es.set i (kv, opV T y)
      | none => es ++ [(kv, opV T y)])))] nx nx := by
  have hu := hx.mp_live hr
  have hkv := hk.lit_inv
  obtain ⟨ms, clk, hb, hs, hl, hm⟩ := hR.map hr
  have hkt := keyKind_some hkd
  have hik := keyOk_is hok
  have hfo := find_out (E := E) (w := w) (kd := kd) (k := kv) es ms.toList 0 (by simpa using hl) fun j e m he hm' => hm j e m he (by simpa using hm')
  have fin : ∀ (es' : List (Value × V)) (ms' : Array MapEntry) (clk' : Nat), (execOp a.eval o).run P w = .ok .skip { w with heap := w.heap.setIfInBounds (E.μ r).1 (.map ms' clk') } → ObR E w (E.μ r).2 (.map es') (.map ms' clk') → Out P E w (execOp a.eval o) (.lit undef) [(r, some (.map es'))] nx nx := by
    intro es' ms' clk' hrun hob
    obtain ⟨h1, h2⟩ := hR.write hr hb (w' := { w with heap := w.heap.setIfInBounds (E.μ r).1 (.map ms' clk') }) ⟨rfl, rfl, rfl, by simp, fun q hq => (Go.MapKept.heap_set hb).2 q hq⟩ (Go.MapKept.heap_set hb).1 (fun _ _ _ e => by cases e) hob
    exact ⟨undef, _, _, .inr ⟨hrun, rfl⟩, .lit _, h1, h2, rfl, fun q => ⟨.inl, fun q' => q'.elim id fun q' => by omega⟩⟩
  cases f with
  | none =>
    obtain ⟨f1, f2⟩ := hfo.1 hf
    refine fin _ (ms.push ⟨kv, a.eval y, clk⟩) (clk + 1) ?_ ?_
    · rcases ho with ho | ho <;> simp [execOp, ho, Instr.mapUpdate, run_underlying ht, hu, Go.MapKept.run_getObj_map hb, hkv, Go.MapKept.run_checkKey hkt hik, Go.MapKept.run_findKey hkt f1, Go.MapKept.run_setObj_map _ hb]
    · refine ⟨Go.MapKept.stamped_push hs f2, by simp [hl], fun i e m he hm' => ?_⟩
      rw [Array.getElem?_push] at hm'
      by_cases hi : i = ms.size
      · rw [if_pos hi] at hm'
        rw [List.getElem?_append_right (by omega), hi, hl, Nat.sub_self] at he
        cases he; cases hm'
        exact ⟨rfl, hy⟩
      · rw [if_neg hi] at hm'
        have := (Array.getElem?_eq_some_iff.1 hm').1
        rw [List.getElem?_append_left (by omega)] at he
        exact hm i e m he hm'
  | some p =>
    obtain ⟨j, v⟩ := p
    obtain ⟨m0, _, g2, g3, _, f1⟩ := hfo.2 j v hf
    rw [Nat.sub_zero, Array.getElem?_toList] at g2
    have hjl : j < es.length := by
      have := (Array.getElem?_eq_some_iff.1 g2).1
      omega
    refine fin _ (ms.modify j fun x => { x with key := kv, val := a.eval y }) clk ?_ ?_
    · rcases ho with ho | ho <;> simp [execOp, ho, Instr.mapUpdate, run_underlying ht, hu, Go.MapKept.run_getObj_map hb, hkv, Go.MapKept.run_checkKey hkt hik, Go.MapKept.run_findKey hkt f1, g2, g3, Go.MapKept.run_keyThatStays hik, Go.MapKept.run_setObj_map _ hb]
    · refine ⟨Go.MapKept.stamped_modify hs j _ (fun _ _ => rfl) (fun x _ hx => by rw [g2] at hx; cases hx; exact g3.symm), by simp [hl], fun i e m he hm' => ?_⟩
      rw [Array.getElem?_modify] at hm'
      by_cases hi : j = i
      · subst hi
        rw [if_pos rfl, g2] at hm'
        rw [List.getElem?_set_self hjl] at he
        cases hm'; cases he
        exact ⟨rfl, hy⟩
      · rw [if_neg hi] at hm'
        rw [List.getElem?_set_ne hi] at he
        exact hm i e m he hm'

/-! ### Calls -/
theorem vals_map {l : List Operand} (h : ∀ x : Operand, Vr E w (opV T x) (a.eval x)) : Vrs E w (l.map (opV T)) (l.map a.eval) := by
  refine ⟨by simp, fun j c u hc hu => ?_⟩
  rw [List.getElem?_map, Option.map_eq_some_iff] at hc hu
  obtain ⟨x, hx, rfl⟩ := hc
  obtain ⟨y, hy, rfl⟩ := hu
  rw [hx] at hy
  cases hy
  exact h x
theorem callFunc_go {f : FuncId} {args : Array Value} (h : funcOk P f = true) : (callFunc f args).run P w = .ok (.enter f args) w := by
  unfold funcOk at h
  split at h
  · rename_i fn hf
    rw [Bool.and_eq_true, Bool.and_eq_true, bne_iff_ne] at h
    obtain ⟨_, h1, h2⟩ := h
    unfold callFunc
    simp [program, Sem.run, hf, h1, Option.isNone_iff_eq_none, Option.isSome_iff_ne_none.1 h2]
  · cases h
theorem funcOk_lt {f : FuncId} (h : funcOk P f = true) : f < 1000000000 := by
  unfold funcOk at h
  split at h
  · rw [Bool.and_eq_true] at h
    exact Nat.le_of_ble_eq_true h.1
  · cases h
/-- a function's value, called -/
theorem callE_run {v : V} {u : Value} {g : FuncId} {asg args : List V} {vs : List Value} (hf : Vr E w v u) (hA : Vrs E w asg vs) (he : callE P v asg = some (g, args)) :
    funcOk P g = true ∧ ∃ d us, (Deferred.ofValue u vs.toArray).run P w = .ok d w ∧ (invoke d.target d.args).run P w = .ok (.enter g us.toArray) w ∧ Vrs E w args us := by
  unfold callE at he
  split at he
  · split at he
    · rename_i g' fi ca hok
      cases he
      have hv := hf.lit_inv
      refine ⟨hok, { target := .fn (.func g) ca, args := fi ++ vs.toArray }, fi.toList ++ vs ++ ca.toList, ?_, ?_, ((Vrs.lits fi.toList).append hA).append (Vrs.lits ca.toList)⟩
      · simp [hv, Deferred.ofValue]
      · simp [invoke, callFunc_go hok]
    · cases he
  · split at he
    · rename_i g' fi ca hok
      cases he
      cases hf with
      | fn _ _ _ va vb ha hb h1 h2 =>
        refine ⟨hok, { target := .fn (.func g) vb.toArray, args := va.toArray ++ vs.toArray }, va ++ vs ++ vb, ?_, ?_, ((⟨ha, h1⟩ : Vrs E w fi va).append hA).append ⟨hb, h2⟩⟩
        · simp [Deferred.ofValue]
        · simp [invoke, callFunc_go hok]
    · cases he
  · cases he
/-- an operation that calls -/
def CallOut (P : Program) (E : Mx) (w : World) (s : Sem Next) (f : FuncId) (args : List V) : Prop := funcOk P f = true ∧ ∃ us : List Value, s.run P w = .ok (.enter f us.toArray) w ∧ Vrs E w args us
theorem callV_out {c : Call} {f : Operand} {g : FuncId} {args : List V} (ho : o.op = .call c) (hc : c.callee = .value f) (h : ∀ x : Operand, Vr E w (opV T x) (a.eval x)) (he : callE P (opV T f) (c.args.toList.map (opV T)) = some (g, args)) : CallOut P E w (execOp a.eval o) g args := by
  have hA := vals_map (l := c.args.toList) h
  have hargs : (c.args.map a.eval) = (c.args.toList.map a.eval).toArray := by apply Array.ext'; simp
  have hf := h f
  unfold callE at he
  split at he
  · rename_i g' fi ca e1
    split at he
    · rename_i hok
      cases he
      rw [e1] at hf
      have hv := hf.lit_inv
      refine ⟨hok, fi.toList ++ c.args.toList.map a.eval ++ ca.toList, ?_, ((Vrs.lits fi.toList).append hA).append (Vrs.lits ca.toList)⟩
      simp only [execOp, ho, resolve, hc, Sem.run_bind]
      simp [hv, Deferred.ofValue, invoke, callFunc_go hok, hargs]
    · cases he
  · rename_i g' fi ca e1
    split at he
    · rename_i hok
      cases he
      rw [e1] at hf
      generalize hv : a.eval f = u at hf
      cases hf with
      | fn _ _ _ va vb ha hb h1 h2 =>
        refine ⟨hok, va ++ c.args.toList.map a.eval ++ vb, ?_, ((⟨ha, h1⟩ : Vrs E w fi va).append hA).append ⟨hb, h2⟩⟩
        simp only [execOp, ho, resolve, hc, Sem.run_bind]
        simp [hv, Deferred.ofValue, invoke, callFunc_go hok, hargs]
    · cases he
  · cases he
def RecvR (P : Program) (w : World) (u x : Value) : Option TypeId → Prop
  | none => x = u
  | some e => ∃ ad, u = .pointer (some ad) ∧ (loadVar e ad).run P w = .ok x w
theorem methOf_run {t : TypeId} {name : String} {f : FuncId} {d : Option TypeId} (h : methOf P t name = some (f, d)) {u x : Value} (hx : RecvR P w u x d) (n : Nat) : (method (n + 1) t u name).run P w = .ok (f, x) w := by
  unfold methOf at h
  split at h
  · rename_i i hi
    split at h
    · rename_i m hm
      split at h
      · rename_i hp
        have hpl : m.path.toList = [] := by simpa using hp
        split at h
        · rename_i f' e' hf hu
          cases h
          have hx : x = u := hx
          subst hx
          simp [method, typeInfo, hi, hm, hpl, follow, hf, receiverAt, run_underlying hu, Place.get]
        · rename_i f' e' hf hu
          cases h
          obtain ⟨ad, rfl, hl⟩ := hx
          have hn : ∀ (ts : Array TypeId) (t' : TypeId) (s1 s2 : String), Builtin.ssaWrapNilChk_ ts t' #[.pointer (some ad), strVal s1, strVal s2] = Pure.pure (.pointer (some ad)) := fun _ _ _ _ => rfl
          have hr : ∀ s, (receiverAt t (.val (.pointer (some ad))) false s).run P w = .ok x w := fun s => by
            simp only [receiverAt, Sem.run_bind, run_underlying hu]
            cases s <;> simp [Place.get, asAddr, hn, hl]
          simp [method, typeInfo, hi, hm, hpl, follow, hf, hr]
        · rename_i f' d hng hf hu
          cases h
          have hx : x = u := hx
          subst hx
          have hr : ∀ s, (receiverAt t (.val x) false s).run P w = .ok x w := fun s => by
            simp only [receiverAt, Sem.run_bind, run_underlying hu]
            cases d <;> first | rfl | exact absurd rfl (hng _)
          simp [method, typeInfo, hi, hm, hpl, follow, hf, hr]
        · cases h
      · cases h
    · cases h
  · cases h
theorem invoke_out {c : Call} {f : Operand} {name : String} {g : FuncId} {args : List V} (hR : Rel E w) (hG : ∀ r ob, G r = some ob → E.H r = some ob) (ho : o.op = .call c) (hc : c.callee = .invoke f name) (h : ∀ x : Operand, Vr E w (opV T x) (a.eval x)) (he : invE P G (opV T f) name (c.args.toList.map (opV T)) = some (g, args)) : CallOut P E w (execOp a.eval o) g args := by
  have hA := vals_map (l := c.args.toList) h
  have hargs : (c.args.map a.eval) = (c.args.toList.map a.eval).toArray := by apply Array.ext'; simp
  have hf := h f
  have key : ∀ (t : TypeId) (v : V) (u : Value), a.eval f = .iface t u → Vr E w v u → invT P G t v name (c.args.toList.map (opV T)) = some (g, args) → CallOut P E w (execOp a.eval o) g args := by
    intro t v u hu hv hi
    unfold invT at hi
    split at hi
    · rename_i g' d hm
      split at hi
      · rename_i hok
        rw [Option.map_eq_some_iff] at hi
        obtain ⟨y, hy, hi⟩ := hi
        cases hi
        have hx : ∃ x, RecvR P w u x d ∧ Vr E w y x := by
          cases d with
          | none =>
            cases hy
            exact ⟨u, rfl, hv⟩
          | some e =>
            unfold recvE at hy
            split at hy
            · rename_i hd; cases hd
            · rename_i e' hd
              cases hd
              split at hy
              · rename_i r off agg z ha hz
                split at hy
                · rename_i _ cs hr
                  have hp := hv.ptr_live (hG r _ hr)
                  obtain ⟨x, h1, h2⟩ := load_out hR hv ha hz (hG r _ hr) hy
                  rw [hp] at h1
                  exact ⟨x, ⟨_, hp, by simpa [Instr.loadAt, Instr.sureAddr] using h1⟩, h2⟩
                · cases hy
              · cases hy
        obtain ⟨x, hx, hyx⟩ := hx
        refine ⟨hok, x :: c.args.toList.map a.eval, ?_, .cons hyx hA⟩
        have hmr := fun n => methOf_run (w := w) hm hx n
        simp only [execOp, ho, resolve, hc, Sem.run_bind]
        simp [hu, invoke, callMethod, program, Sem.run, Made.depth, hmr, callFunc_go hok, hargs]
        exact List.take_of_length_le (by simp)
      · cases hi
    · cases hi
  unfold invE at he
  split at he
  · rename_i t v e1
    rw [e1] at hf
    generalize hfu : a.eval f = uu at hf
    cases hf with
    | ifc _ _ u hv => exact key t v u hfu hv he
  · rename_i t v e1
    rw [e1] at hf
    exact key t _ v hf.lit_inv (.lit v) he
  · cases he
end
end Hm
end Go.Proofs.YtcccaomnehdlbaaDoor
