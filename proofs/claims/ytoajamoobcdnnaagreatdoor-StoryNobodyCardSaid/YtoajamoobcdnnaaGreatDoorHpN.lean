/-
  A machine with a heap, fourteenth part: functions.
-/
import Derived.Test.YtoajamoobcdnnaaGreatDoorHpM
import Derived.Test.YtoajamoobcdnnaaGreatDoorHpX
namespace Go.Proofs.YtoajamoobcdnnaaGreatDoor
open Go.RowKit
set_option linter.unusedVariables false
set_option linter.unusedSimpArgs false
namespace Hm
section
variable {P : Program} {C : CallF} {E : Mx} {w : World}

theorem trOf_get : ∀ (l : List V) (i : Nat) (t : Tr V) (m : Nat), i + l.length ≤ 1000 → (trOf l i t).get m = if i ≤ m ∧ m < i + l.length then l[m - i]? else t.get m
  | [], i, t, m, h => by
    rw [trOf, if_neg (by simp)]
  | v :: l, i, t, m, h => by
    simp only [List.length_cons] at h ⊢
    rw [trOf, trOf_get l (i + 1) _ m (by omega), Tr.get_set 10 t i m (by omega)]
    by_cases h1 : m = i
    · subst h1
      rw [if_neg (by omega), if_pos rfl, if_pos (by omega)]
      simp
    · rw [if_neg h1]
      by_cases h2 : i + 1 ≤ m ∧ m < i + 1 + l.length
      · rw [if_pos h2, if_pos (by omega), show m - i = (m - (i + 1)) + 1 by omega]
        simp
      · rw [if_neg h2, if_neg (by omega)]
def resOne (tmps : Array Value) : ResultVar → Sem Value
  | .tmp t => pure (tmps.getD t undef)
  | .cell p t => do loadVar t (← asAddr (tmps.getD p undef))
def oneOrAll : List Value → Value
  | [u] => u
  | us => .tuple us.toArray
theorem run_results {fn : Func} {rv : List ResultVar} {us : List Value} {tmps : Array Value} (hr : fn.results.toList = rv) (hlen : rv.length ≤ 3) (hl : rv.length = us.length) (h : ∀ (j : Nat) (r : ResultVar) (u : Value), rv[j]? = some r → us[j]? = some u → (resOne tmps r).run P w = .ok u w) :
    (results fn tmps).run P w = .ok (oneOrAll us) w := by
  have hres : fn.results = rv.toArray := by apply Array.ext'; simpa using hr
  have e : results fn tmps = (do
      let vs ← fn.results.mapM (resOne tmps)
      pure (if h : vs.size = 1 then vs[0] else .tuple vs)) := rfl
  rw [e, hres]
  clear e hres hr
  match rv, us, hlen, hl, h with
  | [], [], _, _, h => simp [oneOrAll]
  | [r1], [u1], _, _, h =>
    have h1 := h 0 r1 u1 rfl rfl
    simp [h1, oneOrAll]
  | [r1, r2], [u1, u2], _, _, h =>
    have h1 := h 0 r1 u1 rfl rfl
    have h2 := h 1 r2 u2 rfl rfl
    simp [h1, h2, oneOrAll]
  | [r1, r2, r3], [u1, u2, u3], _, _, h =>
    have h1 := h 0 r1 u1 rfl rfl
    have h2 := h 1 r2 u2 rfl rfl
    have h3 := h 2 r3 u3 rfl rfl
    simp [h1, h2, h3, oneOrAll]
theorem resX_sound (hR : Rel E w) {T : Tr V} {H : Tr Ob} {tmps : Array Value} (hT : ∀ t, Vr E w (T.f t) (tmps.getD t undef)) (hH : ∀ q ob, H.get q = some ob → E.H q = some ob) {r : ResultVar} {v : V} (e : resX P T H r = some v) :
    ∃ u, (resOne tmps r).run P w = .ok u w ∧ Vr E w v u := by
  cases r with
  | tmp t => simp only [resX] at e; cases e; exact ⟨_, rfl, hT t⟩
  | cell p t =>
    simp only [resX] at e
    split at e
    · rename_i r o agg z h1 h2 h3
      split at e
      · rename_i cs hg
        have hp := hT p
        rw [h1] at hp
        have hl := hp.ptr_live (hH _ _ hg)
        obtain ⟨x, hx, hv⟩ := load_out hR hp h2 h3 (hH _ _ hg) e
        refine ⟨x, ?_, hv⟩
        rw [hl] at hx
        simpa [resOne, hl, asAddr, Instr.loadAt, Instr.sureAddr] using hx
      · cases e
    · cases e
theorem ressX_sound (hR : Rel E w) {T : Tr V} {H : Tr Ob} {tmps : Array Value} (hT : ∀ t, Vr E w (T.f t) (tmps.getD t undef)) (hH : ∀ q ob, H.get q = some ob → E.H q = some ob) : ∀ {l : List ResultVar} {vs : List V}, ressX P T H l = some vs →
    ∃ us, l.length = us.length ∧ Vrs E w vs us ∧ ∀ (j : Nat) (r : ResultVar) (u : Value), l[j]? = some r → us[j]? = some u → (resOne tmps r).run P w = .ok u w
  | [], vs, e => by cases e; exact ⟨[], rfl, .nil, fun j r u hj => by simp at hj⟩
  | r :: l, vs, e => by
    simp only [ressX] at e
    split at e
    · rename_i v vs' h1 h2
      cases e
      obtain ⟨u, k1, k2⟩ := resX_sound hR hT hH h1
      obtain ⟨us, g1, g2, g3⟩ := ressX_sound hR hT hH h2
      refine ⟨u :: us, by simp [g1], .cons k2 g2, fun j r' u' hj hu => ?_⟩
      cases j with
      | zero => cases hj; cases hu; exact k1
      | succ j => exact g3 j r' u' (by simpa using hj) (by simpa using hu)
    · cases e
theorem tupX_sound {vs : List V} {us : List Value} (h : Vrs E w vs us) : Vr E w (tupX vs) (oneOrAll us) := by
  have hl := h.len
  match vs, us, hl, h with
  | [], [], _, h => exact h.tup
  | [v], [u], _, h => exact h.head
  | v :: v' :: vs, u :: u' :: us, _, h => exact h.tup

/-- a frame at its start -/
theorem frame_start {n : Nat} {args : List V} {h : Hx} {us : List Value} (hR : Rel E w) (hH : ∀ q ob, h.H.get q = some ob → E.H q = some ob) (hfr : ∀ q, E.U q → q < h.nx) (hus : Vrs E w args us) (hk1 : args.length ≤ n) (hk2 : n ≤ 1000) :
    XRel E ⟨trOf args 0 .lf, [], h⟩ n { tmps := us.toArray ++ Array.replicate (n - us.toArray.size) undef, defers := [] } w := by
  refine ⟨⟨hR, ?_, fun t => ?_, rfl, fun j x d hj => by simp at hj⟩, hH, hfr⟩
  · have := hus.len
    simp; omega
  · have hl := hus.len
    show Vr E w ((trOf args 0 .lf).f t) _
    unfold Tr.f
    rw [trOf_get args 0 .lf t (by omega), Array.getD_eq_getD_getElem?]
    by_cases ht : t < args.length
    · rw [if_pos (by omega), Nat.sub_zero, Array.getElem?_append_left (by simp; omega)]
      have h1 : args[t]? = some (args[t]'ht) := List.getElem?_eq_getElem _
      have h2 : us[t]? = some (us[t]'(by omega)) := List.getElem?_eq_getElem _
      rw [h1]
      simp only [List.getElem?_toArray, h2, Option.getD_some]
      exact hus.at_ t _ _ h1 h2
    · rw [if_neg (by omega), Array.getElem?_append_right (by simp; omega), Array.getElem?_replicate]
      have : ((Tr.lf : Tr V).get t).getD (.lit undef) = .lit undef := rfl
      rw [this]
      split
      · exact .lit _
      · exact .lit _
/-- a function's body -/
theorem bodyX_sound (hm : P.follows .mixedOrders = true) (hC : CSound P C) {n : Nat} {f : FuncId} {args : List V} {h : Hx} {fn : Func} {s : Sx} (e : bodyX P C n f args h = some (fn, s)) :
    HStep h s.h ∧ P.funcs[f]? = some fn ∧ fn.results.toList.length ≤ 3 ∧ ∃ c k, fn.body = some c ∧ (k = .normal ∨ k = .ret) ∧ ∀ (E : Mx) (w : World) (us : List Value), Rel E w → (∀ q ob, h.H.get q = some ob → E.H q = some ob) → (∀ q, E.U q → q < h.nx) → Vrs E w args us →
      c.wp P (Post E w h fn.ntmps k s) { tmps := us.toArray ++ Array.replicate (fn.ntmps - us.toArray.size) undef, defers := [] } w := by
  unfold bodyX at e
  split at e
  case h_2 => cases e
  rename_i fn' hf
  split at e
  case h_2 => cases e
  rename_i c hb
  split at e
  case h_2 => cases e
  rename_i hchk
  rw [Bool.and_eq_true, Bool.and_eq_true] at hchk
  obtain ⟨hk1, hk2, hk3⟩ := hchk
  have hk1 := Nat.le_of_ble_eq_true hk1
  have hk2 := Nat.le_of_ble_eq_true hk2
  have hk3 := Nat.le_of_ble_eq_true hk3
  have go : ∀ {k s'}, exeX P C fn'.ntmps n c ⟨trOf args 0 .lf, [], h⟩ = some (k, s') → (k = .normal ∨ k = .ret) → fn' = fn → s' = s → HStep h s.h ∧ P.funcs[f]? = some fn ∧ fn.results.toList.length ≤ 3 ∧ ∃ c k, fn.body = some c ∧ (k = .normal ∨ k = .ret) ∧ ∀ (E : Mx) (w : World) (us : List Value), Rel E w → (∀ q ob, h.H.get q = some ob → E.H q = some ob) → (∀ q, E.U q → q < h.nx) → Vrs E w args us →
      c.wp P (Post E w h fn.ntmps k s) { tmps := us.toArray ++ Array.replicate (fn.ntmps - us.toArray.size) undef, defers := [] } w := by
    rintro k s' he hk rfl rfl
    refine ⟨exeX_h hC n he, hf, by simpa using hk3, c, k, hb, hk, fun E w us hR hH hfr hus => ?_⟩
    exact exeX_sound hm hC hk2 n (s := ⟨trOf args 0 .lf, [], h⟩) (frame_start hR hH hfr hus hk1 hk2) he
  split at e
  · rename_i s' he
    injection e with e
    injection e with e1 e2
    exact go he (.inl rfl) e1 e2
  · rename_i s' he
    injection e with e
    injection e with e1 e2
    exact go he (.inr rfl) e1 e2
  · cases e

theorem dcallX_sound (hm : P.follows .mixedOrders = true) (hC : CSound P C) (n : Nat) : DSound P (dcallX P C n) := by
  intro f args h h' e
  unfold dcallX at e
  split at e
  case h_2 => cases e
  split at e
  case h_2 => cases e
  rename_i fn s hb
  split at e
  case h_2 => cases e
  rename_i vs hD hr
  cases e
  obtain ⟨hst, hf, h3, c, k, hbd, hk, hw⟩ := bodyX_sound hm hC hb
  refine ⟨hst, fun E w us u hR hH hfr hus => ?_⟩
  refine (callsD_of_wp (R := fun e w' => ∃ r, Ret E w h r s.h e w') hf hbd (wp_mono (hw E w us hR hH hfr hus) ?_)).mono fun e u' w' z => z
  rintro x a' w' ⟨hs, E', hX', hn⟩
  obtain ⟨us', g1, g2, g3⟩ := ressX_sound hX'.sr.rel hX'.sr.tmp hX'.H hr
  have hres := run_results (P := P) (w := w') rfl h3 g1 g3
  have hd : a'.defers = [] := by
    have := hX'.sr.dfr.len
    rw [hD] at this
    exact List.length_eq_zero_iff.1 this.symm
  have fin : a'.defers = [] ∧ ∃ v, (results fn a'.tmps).run P w' = .ok v w' ∧ ∃ r, Ret E w h r s.h (.returned v) w' :=
    ⟨hd, _, hres, tupX vs, _, E', rfl, tupX_sound g2, hn.rel, hn.step, hn.H, hn.U, hn.fr⟩
  rcases hk with rfl | rfl <;> cases hs <;> exact fin

theorem dfrX_h {F : FuncId → List V → Hx → Option Hx} (hF : DSound P F) : ∀ {D : List (FuncId × List V)} {h h' : Hx}, dfrX F D h = some h' → HStep h h'
  | [], h, h', e => by cases e; exact HStep.refl _
  | d :: D, h, h', e => by
    simp only [dfrX] at e
    split at e
    · rename_i h1 he
      exact (hF _ _ _ _ he).1.trans (dfrX_h hF e)
    · cases e
theorem dfrX_sound {F : FuncId → List V → Hx → Option Hx} (hF : DSound P F) (hok : ∀ f args h h', F f args h = some h' → funcOk P f = true) {fn : Func} {tmps : Array Value} {R : Ending → World → Prop} : ∀ {D : List (FuncId × List V)} {ds : List Deferred} {E : Mx} {w : World} {h h' : Hx}, dfrX F D h = some h' → Rel E w → (∀ q ob, h.H.get q = some ob → E.H q = some ob) → (∀ q, E.U q → q < h.nx) → DRs E w D ds →
    (∀ E' w', Nx E w h E' w' h' → ∃ v, (results fn tmps).run P w' = .ok v w' ∧ R (.returned v) w') → Leaves P fn tmps R ds .returning w
  | [], ds, E, w, h, h', e, hR, hH, hfr, hD, hQ => by
    cases e
    have : ds = [] := List.length_eq_zero_iff.1 hD.len.symm
    subst this
    exact hQ E w (Nx.refl hR hH)
  | d :: D, [], E, w, h, h', e, hR, hH, hfr, hD, hQ => absurd hD.len (by simp)
  | d :: D, dd :: ds, E, w, h, h', e, hR, hH, hfr, hD, hQ => by
    simp only [dfrX] at e
    split at e
    case h_2 => cases e
    rename_i h1 he
    obtain ⟨cap, args, rfl, hv⟩ := hD.at_ 0 d dd rfl rfl
    obtain ⟨hst, hcall⟩ := hF _ _ _ _ he
    refine leaves_cons (f := d.1) (args := args ++ cap) (by simp) ?_ ?_
    · simp [invoke, callFunc_go (hok _ _ _ _ he)]
    · have := hcall E w _ .returning hR hH hfr hv
      have e2 : (args.toList ++ cap.toList).toArray = args ++ cap := by apply Array.ext'; simp
      rw [e2] at this
      refine this.mono ?_
      rintro en u' w' ⟨rfl, r, v, E', rfl, _, hR', hS, hHH, hU, hF'⟩
      have hn : Nx E w h E' w' h1 := ⟨hR', hS, hHH, hU, hF'⟩
      refine dfrX_sound hF hok e hR' hHH (hn.below hfr hst) ⟨?_, fun j x d' hx hd' => ?_⟩ fun E2 w2 hn2 => hQ E2 w2 (hn.trans hfr hst (dfrX_h hF e) hn2)
      · have := hD.len; simpa using this
      · obtain ⟨c2, a2, q1, q2⟩ := hD.at_ (j + 1) x d' (by simpa using hx) (by simpa using hd')
        exact ⟨c2, a2, q1, q2.step hS⟩

/-- FUNCTIONS: what the machine computes is what the program does -/
theorem callX_sound (hm : P.follows .mixedOrders = true) {X : CallF} (hX : CSound P X) : ∀ n, CSound P (callX P X n)
  | 0 => fun f args h r h' e => by simp [callX] at e
  | n + 1 => fun f args h r h' e => by
    have hC := callX_sound hm hX n
    have hDS := dcallX_sound hm hC n
    simp only [callX] at e
    split at e
    · rename_i q hq
      cases e
      exact hX _ _ _ _ _ hq
    split at e
    case h_2 => cases e
    rename_i fn s hb
    split at e
    case h_2 => cases e
    rename_i h2 hd
    split at e
    case h_2 => cases e
    rename_i vs hr
    cases e
    obtain ⟨hst, hf, h3, c, k, hbd, hk, hw⟩ := bodyX_sound hm hC hb
    have hst2 := hst.trans (dfrX_h hDS hd)
    refine ⟨⟨hst2.nx, hst2.dead, fun q hq e => ?_, fun q hq => by simp [hq], hst2.top⟩, fun E w us hR hH hfr hus => ?_⟩
    · simp only [List.mem_append, List.mem_filter, not_or, not_and] at e
      exact hst2.log q hq fun z => e.1 z (Nat.ble_eq_true_of_le hq)
    · refine calls_of_wp_defers hf hbd (wp_mono (hw E w us hR hH hfr hus) ?_)
      rintro x a' w' ⟨hs, E', hX', hn⟩
      have hn' : Nx E w h E' w' s.h := ⟨hn.rel, hn.step, hn.H, hn.U, hn.fr⟩
      have hst' : HStep ⟨h.H, h.nx, []⟩ s.h := hst
      have fin : Leaves P fn a'.tmps (Ret E w h (tupX vs) ⟨h2.H, h2.nx, (h2.lg.filter fun q => Nat.blt q h.nx) ++ h.lg⟩) a'.defers .returning w' := by
        refine dfrX_sound hDS (fun f args h h' e => ?_) hd hX'.sr.rel hX'.H hX'.fr hX'.sr.dfr fun E2 w2 hn2 => ?_
        · unfold dcallX at e
          split at e
          · assumption
          · cases e
        · have hnn := Nx.trans (h := ⟨h.H, h.nx, []⟩) hfr hst (dfrX_h hDS hd) hn hn2
          obtain ⟨us', g1, g2, g3⟩ := ressX_sound hn2.rel (fun t => (hX'.sr.tmp t).step hn2.step) hn2.H hr
          have hres := run_results (P := P) (w := w2) rfl h3 g1 g3
          exact ⟨_, hres, _, E2, rfl, tupX_sound g2, hnn.rel, hnn.step, hnn.H, hnn.U, hnn.fr⟩
      rcases hk with rfl | rfl <;> cases hs <;> exact fin

/-- nothing from outside -/
theorem noX_sound : CSound P noX := fun _ _ _ _ _ e => by cases e
theorem orX_sound {X Y : CallF} (hX : CSound P X) (hY : CSound P Y) : CSound P (orX X Y) := fun f args h r h' e => by
  unfold orX at e
  split at e
  · rename_i q hq
    cases e
    exact hX _ _ _ _ _ hq
  · exact hY _ _ _ _ _ e
def E0 : Mx := ⟨fun _ => (0, 0), fun _ => False, fun _ => none⟩
def H0 : Hx := ⟨.lf, 0, []⟩
def okX : Option (V × Hx) → Bool
  | some (.lit (.bool b), _) => b
  | _ => false
theorem okX_some {r : Option (V × Hx)} (h : okX r = true) : ∃ h', r = some (.lit (.bool true), h') := by
  unfold okX at h
  split at h
  · rename_i b h'
    subst h
    exact ⟨h', rfl⟩
  · cases h
theorem E0_rel (w : World) : Rel E0 w := ⟨fun r ob h => (by cases h), fun r r' ob ob' h => (by cases h), fun r ob h => (by cases h)⟩
/-- a function run from nothing, whatever the world -/
theorem law_of (hm : P.follows .mixedOrders = true) {X : CallF} (hX : CSound P X) {n : Nat} {f : FuncId} {args : List V} {us : List Value} (w : World) (hus : Vrs E0 w args us) (e : okX (callX P X n f args H0) = true) :
    Calls P f us.toArray w fun en w' => en = .returned (.bool true) ∧ Below w.heap.size w w' := by
  obtain ⟨h', e⟩ := okX_some e
  have := (callX_sound hm hX n _ _ _ _ _ e).2 E0 w us (E0_rel w) (fun q ob h => by cases h) (fun q h => h.elim) hus
  refine this.mono ?_
  rintro en w' ⟨u, E', rfl, hv, _, hS, _⟩
  rw [hv.lit_inv]
  exact ⟨rfl, hS.below fun g _ r ob h => by cases h⟩
end
end Hm
end Go.Proofs.YtoajamoobcdnnaaGreatDoor
