/-
  A machine with a heap, fourteenth part: functions.
-/
import Derived.Test.YtcccaomnehdlbaaDoorHpM
import Derived.Test.YtcccaomnehdlbaaDoorHpX
namespace Go.Proofs.YtcccaomnehdlbaaDoor
open Go.RowKit
set_option linter.unusedVariables false
set_option linter.unusedSimpArgs false
namespace Hm
section
variable {P : Program} {C : CallF} {E : Mx} {w : World}

theorem trOf_get : ∀ (l : List V) (i : Nat) (t : Tr V) (m : Nat), i + l.length ≤ 1000 → (trOf l i t).get m = if i ≤ m ∧ m < i + l.length then l[m - i]? else t.get m
  | [], i, t, m, h => by
    rw [trOf, if_neg (by simp)]
  | v :: l, i, t, m, h => by
    simp only [List.length_cons] at h ⊢
    rw [trOf, trOf_get l (i + 1) _ m (by omega), Tr.get_set 10 t i m (by omega)]
    by_cases h1 : m = i
    · subst h1
      rw [if_neg (by omega), if_pos rfl, if_pos (by omega)]
      simp
    · rw [if_neg h1]
      by_cases h2 : i + 1 ≤ m ∧ m < i + 1 + l.length
      · rw [if_pos h2, if_pos (by omega), show m - i = (m - (i + 1)) + 1 by omega]
        simp
      · rw [if_neg h2, if_neg (by omega)]
def resOne (tmps : Array Value) : ResultVar → Sem Value
  | .tmp t => pure (tmps.getD t undef)
  | .cell p t => do loadVar t (← asAddr (tmps.getD p undef))
def oneOrAll : List Value → Value
  | [u] => u
  | us => .tuple us.toArray
theorem run_results {fn : Func} {rv : List ResultVar} {us : List Value} {tmps : Array Value} (hr : fn.results.toList = rv) (hlen : rv.length ≤ 3) (hl : rv.length = us.length) (h : ∀ (j : Nat) (r : ResultVar) (u : Value), rv[j]? = some r → us[j]? = some u → (resOne tmps r).run P w = .ok u w) :
    (results fn tmps).run P w = .ok (oneOrAll us) w := by
  have hres : fn.results = rv.toArray := by apply Array.ext'; simpa using hr
  have e : results fn tmps = (do
      let vs ← fn.results.mapM (resOne tmps)
      pure (if h : vs.size = 1 then vs[0] else .tuple vs)) := rfl
  rw [e, hres]
  clear e hres hr
  match rv, us, hlen, hl, h with
  | [], [], _, _, h => simp [oneOrAll]
  | [r1], [u1], _, _, h =>
    have h1 := h 0 r1 u1 rfl rfl
    simp [h1, oneOrAll]
  | [r1, r2], [u1, u2], _, _, h =>
    have h1 := h 0 r1 u1 rfl rfl
    have h2 := h 1 r2 u2 rfl rfl
    simp [h1, h2, oneOrAll]
  | [r1, r2, r3], [u1, u2, u3], _, _, h =>
    have h1 := h 0 r1 u1 rfl rfl
    have h2 := h 1 r2 u2 rfl rfl
    have h3 := h 2 r3 u3 rfl rfl
    simp [h1, h2, h3, oneOrAll]
theorem resX_sound (hR : Rel E w) {T : Tr V} {H : Tr Ob} {tmps : Array Value} (hT : ∀ t, Vr E w (T.f t) (tmps.getD t undef)) (hH : ∀ q ob, H.get q = some ob → E.H q = some ob) {r : ResultVar} {v : V} (e : resX P T H r = some v) :
    ∃ u, (resOne tmps r).run P w = .ok u w ∧ Vr E w v u := by
  cases r with
  | tmp t => simp only [resX] at e; cases e; exact ⟨_, rfl, hT t⟩
  | cell p t =>
    simp only [resX] at e
    split at e
    · rename_i r o agg z h1 h2 h3
      split at e
      · rename_i cs hg
        have hp := hT p
        rw [h1] at hp
        have hl := hp.ptr_live (hH _ _ hg)
        obtain ⟨x, hx, hv⟩ := load_out hR hp h2 h3 (hH _ _ hg) e
        refine ⟨x, ?_, hv⟩
        rw [hl] at hx
        simpa [resOne, hl, asAddr, Instr.loadAt, Instr.sureAddr] using hx
      · cases e
    · cases e
theorem ressX_sound (hR : Rel E w) {T : Tr V} {H : Tr Ob} {tmps : Array Value} (hT : ∀ t, Vr E w (T.f t) (tmps.getD t undef)) (hH : ∀ q ob, H.get q = some ob → E.H q = some ob) : ∀ {l : List ResultVar} {vs : List V}, ressX P T H l = some vs →
    ∃ us, l.length = us.length ∧ Vrs E w vs us ∧ ∀ (j : Nat) (r : ResultVar) (u : Value), l[j]? = some r → us[j]? = some u → (resOne tmps r).run P w = .ok u w
  | [], vs, e => by cases e; exact ⟨[], rfl, .nil, fun j r u hj => by simp at hj⟩
  | r :: l, vs, e => by
    simp only [ressX] at e
    split at e
    · rename_i v vs' h1 h2
      cases e
      obtain ⟨u, k1, k2⟩ := resX_sound hR hT hH h1
      obtain ⟨us, g1, g2, g3⟩ := ressX_sound hR hT hH h2
      refine ⟨u :: us, by simp [g1], .cons k2 g2, fun j r' u' hj hu => ?_⟩
      cases j with
      | zero => cases hj; cases hu; exact k1
      | succ j => exact g3 j r' u' (by simpa using hj) (by simpa using hu)
    · cases e
theorem tupX_sound {vs : List V} {us : List Value} (h : Vrs E w vs us) : Vr E w (tupX vs) (oneOrAll us) := by
  have hl := h.len
  match vs, us, hl, h with
  | [], [], _, h => exact h.tup
  | [v], [u], _, h => exact h.head
  | v :: v' :: vs, u :: u' :: us, _, h => exact h.tup

/-- a frame at its start -/
theorem frame_start {n : Nat} {args : List V} {h : Hx} {us : List Value} (hR : Rel E w) (hH : ∀ q ob, h.H.get q = some ob → E.H q = some ob) (hfr : ∀ q, E.U q → q < h.nx) (hus : Vrs E w args us) (hk1 : args.length ≤ n) (hk2 : n ≤ 1000) :
    XRel E ⟨trOf args 0 .lf, [], h⟩ n { tmps := us.toArray ++ Array.replicate (n - us.toArray.size) undef, defers := [] } w := by
  refine ⟨⟨hR, ?_, fun t => ?_, rfl, fun j x d hj => by simp at hj⟩, hH, hfr⟩
  · have := hus.len
    simp; omega
  · have hl := hus.len
    show Vr E w ((trOf args 0 .lf).f t) _
    unfold Tr.f
    rw [trOf_get args 0 .lf t (by omega), Array.getD_eq_getD_getElem?]
    by_cases ht : t < args.length
    · rw [if_pos (by omega), Nat.sub_zero, Array.getElem?_append_left (by simp; omega)]
      have h1 : args[t]? = some (args[t]'ht) := List.getElem?_eq_getElem _
      have h2 : us[t]? = some (us[t]'(by omega)) := List.getElem?_eq_getElem _
      rw [h1]
      simp only [List.getElem?_toArray, h2, Option.getD_some]
      exact hus.at_ t _ _ h1 h2
    · rw [if_neg (by omega), Array.getElem?_append_right (by simp; omega), Array.getElem?_replicate]
      have : ((Tr.lf : Tr V).get t).getD (.lit undef) = .lit undef := rfl
      rw [this]
      split
      · exact .lit _
      · exact .lit _
/-- a function's body -/
theorem bodyX_sound (hm : P.follows .mixedOrders = true) (hC : CSound P C) {n : Nat} {f : FuncId} {args : List V} {h : Hx} {fn : Func} {s : Sx} (e : bodyX P C n f args h = some (fn, s)) :
    HStep h s.h ∧ P.funcs[f]? = some fn ∧ fn.results.toList.length ≤ 3 ∧ ∃ c k, fn.body = some c ∧ (k = .normal ∨ k = .ret) ∧ ∀ (E : Mx) (w : World) (us : List Value), Rel E w → (∀ q ob, h.H.get q = some ob → E.H q = some ob) → (∀ q, E.U q → q < h.nx) → Vrs E w args us →
      c.wpIn (FF none) 0 P (Post E w h fn.ntmps k s) { tmps := us.toArray ++ Array.replicate (fn.ntmps - us.toArray.size) undef, defers := [] } w := by
  unfold bodyX at e
  split at e
  case h_2 => cases e
  rename_i fn' hf
  split at e
  case h_2 => cases e
  rename_i c hb
  split at e
  case h_2 => cases e
  rename_i hchk
  rw [Bool.and_eq_true, Bool.and_eq_true] at hchk
  obtain ⟨hk1, hk2, hk3⟩ := hchk
  have hk1 := Nat.le_of_ble_eq_true hk1
  have hk2 := Nat.le_of_ble_eq_true hk2
  have hk3 := Nat.le_of_ble_eq_true hk3
  have go : ∀ {k s'}, exeX P C fn'.ntmps n c ⟨trOf args 0 .lf, [], h⟩ = some (k, s') → (k = .normal ∨ k = .ret) → fn' = fn → s' = s → HStep h s.h ∧ P.funcs[f]? = some fn ∧ fn.results.toList.length ≤ 3 ∧ ∃ c k, fn.body = some c ∧ (k = .normal ∨ k = .ret) ∧ ∀ (E : Mx) (w : World) (us : List Value), Rel E w → (∀ q ob, h.H.get q = some ob → E.H q = some ob) → (∀ q, E.U q → q < h.nx) → Vrs E w args us →
      c.wpIn (FF none) 0 P (Post E w h fn.ntmps k s) { tmps := us.toArray ++ Array.replicate (fn.ntmps - us.toArray.size) undef, defers := [] } w := by
    rintro k s' he hk rfl rfl
    refine ⟨exeX_h hC n he, hf, by simpa using hk3, c, k, hb, hk, fun E w us hR hH hfr hus => ?_⟩
    exact exeX_sound hm hC hk2 n (s := ⟨trOf args 0 .lf, [], h⟩) (frame_start hR hH hfr hus hk1 hk2) he (.inl rfl)
  split at e
  · rename_i s' he
    injection e with e
    injection e with e1 e2
    exact go he (.inl rfl) e1 e2
  · rename_i s' he
    injection e with e
    injection e with e1 e2
    exact go he (.inr rfl) e1 e2
  · cases e

theorem dcallX_sound (hm : P.follows .mixedOrders = true) (hC : CSound P C) (n : Nat) : DSound P (dcallX P C n) := by
  intro f args h h' e
  unfold dcallX at e
  split at e
  case h_2 => cases e
  split at e
  case h_2 => cases e
  rename_i fn s hb
  split at e
  case h_2 => cases e
  rename_i vs hD hr
  cases e
  obtain ⟨hst, hf, h3, c, k, hbd, hk, hw⟩ := bodyX_sound hm hC hb
  refine ⟨hst, fun E w us u hR hH hfr hus => ?_⟩
  refine callsDIn_of_wp (F := Fence.wide) (R := fun e w' => ∃ r, Ret E w h r s.h e w') hf hbd trivial (wpIn_mono (hw E w us hR hH hfr hus) ?_)
  rintro x a' w' ⟨hs, E', hX', hn⟩
  obtain ⟨us', g1, g2, g3⟩ := ressX_sound hX'.sr.rel hX'.sr.tmp hX'.H hr
  have hres := run_results (P := P) (w := w') rfl h3 g1 g3
  have hd : a'.defers = [] := by
    have := hX'.sr.dfr.len
    rw [hD] at this
    exact List.length_eq_zero_iff.1 this.symm
  have fin : a'.defers = [] ∧ ∃ v, (results fn a'.tmps).run P w' = .ok v w' ∧ ∃ r, Ret E w h r s.h (.returned v) w' :=
    ⟨hd, _, hres, tupX vs, _, E', rfl, tupX_sound g2, hn.rel, hn.step, hn.H, hn.U, hn.fr⟩
  rcases hk with rfl | rfl <;> cases hs <;> exact fin

theorem HStep.end_ {h : Hx} {r : Nat} (ob : Option Ob) (hl : h.H.get r ≠ none) (h1 : r < 1000000) (h2 : r < h.nx) : HStep h ⟨h.H.set 20 r ob, h.nx, r :: h.lg⟩ := by
  refine ⟨Nat.le_refl _, fun q hq e => ?_, fun q hq e => ?_, fun q hq => List.mem_cons_of_mem _ hq, fun q hq => ?_⟩
  · show (h.H.set 20 r ob).get q = none
    rw [Tr.get_set20 h1, if_neg (fun (z : q = r) => hl (by rw [← z]; exact e))]; exact e
  · show (h.H.set 20 r ob).get q = _
    rw [Tr.get_set20 h1, if_neg (fun z => e (by simp [z]))]
  · have hq : h.nx ≤ q := hq
    show (h.H.set 20 r ob).get q = _
    rw [Tr.get_set20 h1, if_neg (by omega)]
theorem dfrX_h {F : FuncId → List V → Hx → Option Hx} (hF : DSound P F) : ∀ {D : List (FuncId × List V)} {h h' : Hx}, dfrX F D h = some h' → HStep h h'
  | [], h, h', e => by cases e; exact HStep.refl _
  | d :: D, h, h', e => by
    simp only [dfrX] at e
    split at e
    · split at e
      · split at e
        · rename_i hg hb
          rw [Bool.and_eq_true] at hb
          exact (HStep.end_ none (by rw [hg]; simp) (blt_lt hb.1) (blt_lt hb.2)).trans (dfrX_h hF e)
        · cases e
      · cases e
    · split at e
      · rename_i h1 he
        exact (hF _ _ _ _ he).1.trans (dfrX_h hF e)
      · cases e
theorem Rel.deferred (h : Rel E w) {r : Nat} (hr : E.H r = some .defd) : w.heap[(E.μ r).1]? = some (.deferred (some [])) := by
  obtain ⟨o, h1, h2⟩ := h.obj r _ hr
  cases o <;> try exact h2.elim
  rw [h1, show _ = some [] from h2]
theorem dfrX_sound {F : FuncId → List V → Hx → Option Hx} (hF : DSound P F) (hok : ∀ f args h h', F f args h = some h' → funcOk P f = true) {fn : Func} {tmps : Array Value} {R : Ending → World → Prop} : ∀ {D : List (FuncId × List V)} {ds : List Deferred} {E : Mx} {w : World} {h h' : Hx}, dfrX F D h = some h' → Rel E w → (∀ q ob, h.H.get q = some ob → E.H q = some ob) → (∀ q, E.U q → q < h.nx) → DRs E w D ds →
    (∀ E' w', Nx E w h E' w' h' → ∃ v, (results fn tmps).run P w' = .ok v w' ∧ R (.returned v) w') → LeavesInM Fence.wide 0 P fn tmps R ds .returning w
  | [], ds, E, w, h, h', e, hR, hH, hfr, hD, hQ => by
    cases e
    have : ds = [] := List.length_eq_zero_iff.1 hD.len.symm
    subst this
    exact hQ E w (Nx.refl hR hH)
  | d :: D, [], E, w, h, h', e, hR, hH, hfr, hD, hQ => absurd hD.len (by simp)
  | d :: D, dd :: ds, E, w, h, h', e, hR, hH, hfr, hD, hQ => by
    have hd0 := hD.at_ 0 d dd rfl rfl
    have hDt : ∀ {E' : Mx} {w' : World}, Step E w E' w' → DRs E' w' D ds := fun k => ⟨by have := hD.len; simpa using this, fun j x d' hx hd' => (hD.at_ (j + 1) x d' (by simpa using hx) (by simpa using hd')).step k⟩
    simp only [dfrX] at e
    unfold DfrR at hd0
    split at e
    · rename_i hmk
      rw [if_pos (Nat.eq_of_beq_eq_true hmk)] at hd0
      obtain ⟨r0, g, he0, hv0, hdd⟩ := hd0
      split at e
      · rename_i r hr
        have hrr : r = r0 := by
          rw [hr] at he0
          injection he0 with q
          injection q
        subst hrr
        split at e
        · rename_i hg hb
          rw [Bool.and_eq_true] at hb
          have hE := hH _ _ hg
          cases hv0 with
          | yl _ _ hU hl =>
          have hgm := hl (by rw [hE]; rfl)
          have hdf := hR.deferred hE
          rw [← hgm] at hdf
          obtain ⟨k1, k2⟩ := hR.killw hE (w' := w.putObj g (.deferred none)) (by
            rw [← hgm]
            exact ⟨rfl, rfl, rfl, by simp [World.putObj], fun k hk => by rw [World.putObj_heap_other hk]⟩)
          have hst := HStep.end_ (h := h) none (by rw [hg]; simp) (blt_lt hb.1) (blt_lt hb.2)
          have hn : Nx E w h (E.kill r) (w.putObj g (.deferred none)) ⟨h.H.set 20 r none, h.nx, r :: h.lg⟩ := by
            refine ⟨k1, k2, fun q ob hq => ?_, fun q hq => .inl hq, fun q hq e => ?_⟩
            · have hq : (h.H.set 20 r none).get q = some ob := hq
              rw [Tr.get_set20 (blt_lt hb.1)] at hq
              split at hq
              · cases hq
              · rename_i hne
                show upd E.H r none q = _
                rw [upd_ne _ _ hne]; exact hH q ob hq
            · show upd E.H r none q = _
              rw [upd_ne _ _ (fun z => by rw [z, hg] at e; cases e)]
          refine ⟨by simp, .inl ⟨g, _, by rw [hdd], run_takeDeferred hdf, ?_⟩⟩
          exact dfrX_sound hF hok e k1 hn.H (hn.below hfr hst) (hDt k2) fun E2 w2 hn2 => hQ E2 w2 (hn.trans hfr hst (dfrX_h hF e) hn2)
        · cases e
      · cases e
    · rename_i hmk
      rw [if_neg (fun z => by rw [z, Nat.beq_refl] at hmk; cases hmk)] at hd0
      split at e
      case h_2 => cases e
      rename_i h1 he
      obtain ⟨cap, args, rfl, hv⟩ := hd0
      obtain ⟨hst, hcall⟩ := hF _ _ _ _ he
      refine ⟨by simp, .inr ⟨fun q => (by cases q), _, cap, d.1, args ++ cap, rfl, by simp [invoke, callFunc_go (hok _ _ _ _ he)], fun _ _ => trivial, ?_⟩⟩
      have := hcall E w _ .returning hR hH hfr hv
      have e2 : (args.toList ++ cap.toList).toArray = args ++ cap := by apply Array.ext'; simp
      rw [e2] at this
      refine this.mono ?_
      rintro en u' w' ⟨rfl, r, v, E', rfl, _, hR', hS, hHH, hU, hF'⟩
      have hn : Nx E w h E' w' h1 := ⟨hR', hS, hHH, hU, hF'⟩
      exact dfrX_sound hF hok e hR' hHH (hn.below hfr hst) (hDt hS) fun E2 w2 hn2 => hQ E2 w2 (hn.trans hfr hst (dfrX_h hF e) hn2)

/-! ### Rounds -/
theorem Nx.put {h : Hx} {w' : World} {r : Nat} {ob ob' : Ob} (hg : h.H.get r = some ob) (h1 : r < 1000000) (hH : ∀ q ob, h.H.get q = some ob → E.H q = some ob) (hW : Rel { E with H := upd E.H r (some ob') } w' ∧ Step E w { E with H := upd E.H r (some ob') } w') :
    Nx E w h { E with H := upd E.H r (some ob') } w' ⟨h.H.set 20 r (some ob'), h.nx, r :: h.lg⟩ := by
  refine ⟨hW.1, hW.2, fun q ob2 hq => ?_, fun q hq => .inl hq, fun q hq e => upd_ne _ _ (fun z => by rw [z, hg] at e; cases e)⟩
  have hq : (h.H.set 20 r (some ob')).get q = some ob2 := hq
  rw [Tr.get_set20 h1] at hq
  show upd E.H r (some ob') q = _
  by_cases z : q = r
  · rw [if_pos z] at hq; rw [z, upd_same]; exact hq
  · rw [if_neg z] at hq; rw [upd_ne _ _ z]; exact hH q ob2 hq
theorem parsX_sound {N : Nat} (hN : N ≤ 1000) : ∀ {ps : List Nat} {vs : List V} {us : List Value} {T : Tr V} {ts : Array Value}, Vrs E w vs us → ps.length = vs.length → (∀ t, t ∈ ps → t < N) → ts.size = N → (∀ t, Vr E w (T.f t) (ts.getD t undef)) →
    ((ps.zip us).foldl (fun tmps (p : Nat × Value) => tmps.setIfInBounds p.1 p.2) ts).size = N ∧ ∀ t, Vr E w ((parsX ps vs T).f t) (((ps.zip us).foldl (fun tmps (p : Nat × Value) => tmps.setIfInBounds p.1 p.2) ts).getD t undef)
  | [], vs, us, T, ts, hv, hl, hp, hs, h => by
    simp only [List.zip_nil_left, List.foldl_nil]
    refine ⟨hs, fun t => ?_⟩
    cases vs <;> exact h t
  | p :: ps, [], us, T, ts, hv, hl, hp, hs, h => absurd hl (by simp)
  | p :: ps, v :: vs, [], T, ts, hv, hl, hp, hs, h => absurd hv.len (by simp)
  | p :: ps, v :: vs, u :: us, T, ts, hv, hl, hp, hs, h => by
    simp only [List.zip_cons_cons, List.foldl_cons]
    have hpN := hp p (by simp)
    refine parsX_sound hN hv.tail (by simpa using hl) (fun t ht => hp t (by simp [ht])) (by simpa using hs) fun t => ?_
    rw [Tr.f_set (by omega), getD_setH (by omega)]
    by_cases e : t = p
    · rw [e, upd_same, if_pos rfl]; exact hv.head
    · rw [upd_ne _ _ e, if_neg e]; exact h t
theorem Rel.loop (h : Rel E w) {r : Nat} {ts : List V} {ps : List Nat} {asg bd : Code} {b : Bool} (hr : E.H r = some (.loop ts ps asg bd b)) : ∃ rc, w.heap[(E.μ r).1]? = some (.loop rc) ∧ ObR E w (E.μ r).2 (.loop ts ps asg bd b) (.loop rc) := by
  obtain ⟨o, h1, h2⟩ := h.obj r _ hr
  cases o <;> try exact h2.elim
  exact ⟨_, h1, h2⟩
theorem rndX_sound (hm : P.follows .mixedOrders = true) (hC : CSound P C) {n : Nat} {args : List V} {h h' : Hx} {rv : V} (e : rndX P C n args h = some (rv, h')) :
    HStep h h' ∧ ∀ (E : Mx) (w : World) (us : List Value), Rel E w → (∀ q ob, h.H.get q = some ob → E.H q = some ob) → (∀ q, E.U q → q < h.nx) → Vrs E w args us → CallsY P yldId us w (Ret E w h rv h') := by
  unfold rndX at e
  split at e
  case h_2 => cases e
  rename_i r vs
  split at e
  case h_2 => cases e
  rename_i ts ps asg bd hg
  split at e
  case h_2 => cases e
  rename_i hchk
  rw [Bool.and_eq_true, Bool.and_eq_true, Bool.and_eq_true, Bool.and_eq_true, Bool.and_eq_true, Bool.and_eq_true] at hchk
  obtain ⟨⟨hc1, hc2⟩, hc3, ⟨hc4, hc5⟩, hc6, hc7⟩ := hchk
  have hc1 := Nat.eq_of_beq_eq_true hc1
  have hc3 := Nat.le_of_ble_eq_true hc3
  have hc4 := blt_lt hc4
  have hc5 := blt_lt hc5
  split at e
  case h_2 => cases e
  rename_i s1 he1
  split at e
  case h_2 => cases e
  rename_i ts2 ps2 as2 bd2 hg2
  split at e
  case h_2 => cases e
  rename_i s2 he2
  split at e
  case h_2 => cases e
  rename_i ts3 ps3 as3 bd3 hg3
  cases e
  have st1 := exeX_h hC n he1
  have hn1 := st1.nx
  dsimp only at hn1
  have st2 := HStep.end_ (h := s1.h) (some (.loop ts2 ps2 as2 bd2 true)) (by rw [hg2]; simp) hc4 (by omega)
  have st3 := exeX_h hC n he2
  have hn3 := st3.nx
  dsimp only at hn3
  have st4 := HStep.end_ (h := s2.h) (some (.loop ts3 ps3 as3 bd3 false)) (by rw [hg3]; simp) hc4 (by omega)
  refine ⟨((st1.trans st2).trans st3).trans st4, fun E w us hR hH hfr hus => ?_⟩
  match us, hus with
  | [], hus => exact absurd hus.len (by simp)
  | u :: us, hus =>
  have hu := hus.head
  have hE := hH _ _ hg
  cases hu with
  | yl _ g hU hl =>
  have hgm := hl (by rw [hE]; rfl)
  obtain ⟨rc, ho, ⟨rfl, rfl, rfl⟩, ⟨hst, hpe⟩, hts⟩ := hR.loop hE
  rw [← hgm] at ho
  have hul : us.length = rc.params.toList.length := by have := hus.tail.len; omega
  unfold CallsY
  rw [if_pos rfl]
  refine ⟨g, us, _, _, _, _, rfl, run_yield ho (by simpa using hul), roundIn_of_wpIn (F := Fence.wide) trivial ?_⟩
  have hfold : ((rc.params.zip us.toArray).foldl (fun tmps (t, a) => tmps.setIfInBounds t a) rc.tmps) = ((rc.params.toList.zip us).foldl (fun tmps (p : Nat × Value) => tmps.setIfInBounds p.1 p.2) rc.tmps) := by
    rw [← Array.foldl_toList]
    simp
  rw [hfold]
  have hsz : rc.tmps.size = ts.length := by have := hts.len; simpa using this.symm
  obtain ⟨p1, p2⟩ := parsX_sound (T := trOf ts 0 .lf) (ts := rc.tmps) hc3 hus.tail hc1.symm (fun t ht => blt_lt (List.all_eq_true.1 hc2 t ht)) hsz (fun t => by
    unfold Tr.f
    rw [trOf_get ts 0 .lf t (by omega), Array.getD_eq_getD_getElem?]
    by_cases ht : t < ts.length
    · rw [if_pos (by omega), Nat.sub_zero, List.getElem?_eq_getElem ht, Array.getElem?_eq_getElem (by omega)]
      exact hts.at_ t _ _ (List.getElem?_eq_getElem ht) (by rw [Array.getElem?_toList, Array.getElem?_eq_getElem (by omega)]; rfl)
    · rw [if_neg (by omega), Array.getElem?_eq_none (by omega)]
      exact .lit _)
  have hX0 : XRel E ⟨parsX rc.params.toList vs (trOf ts 0 .lf), [], h⟩ ts.length { tmps := (rc.params.toList.zip us).foldl (fun tmps (p : Nat × Value) => tmps.setIfInBounds p.1 p.2) rc.tmps, defers := [] } w :=
    ⟨⟨hR, p1, p2, rfl, fun j x d hj => by simp at hj⟩, hH, hfr⟩
  refine wpIn_mono (exeX_sound hm hC hc3 (lo := some g) n hX0 he1 (.inr hc6)) ?_
  rintro x a1 w1 ⟨hs, E1, hX1, hn1'⟩
  cases hs
  have hE1 := hX1.H _ _ hg2
  obtain ⟨rc1, ho1, ⟨q1, q2, q3⟩, ⟨q4, q5⟩, q6⟩ := hX1.sr.rel.loop hE1
  have hg1 : (E1.μ r).1 = g := by rw [hn1'.step.same _ hU, ← hgm]
  have hl1 : w1.heap[g]? = some (.loop rc1) := by rw [← hg1]; exact ho1
  have hbg := run_beginRound (P := P) hl1 q4
  refine ⟨_, hbg, ?_⟩
  have hW2 := hX1.sr.rel.write hE1 ho1 (w' := w1.putObj g (.loop { rc1 with state := .busy })) (o' := .loop { rc1 with state := .busy }) (ob' := .loop ts2 ps2 as2 bd2 true)
    (by rw [hg1]; exact ⟨rfl, rfl, rfl, by simp [World.putObj], fun k hk => by rw [World.putObj_heap_other hk]⟩) (by rw [hg1]; exact World.putObj_heap_same (by rw [← hg1]; exact (Array.getElem?_eq_some_iff.1 ho1).1)) (fun _ _ _ z => by cases z) ⟨⟨q1, q2, q3⟩, ⟨rfl, q5⟩, q6⟩
  have n2 := Nx.put hg2 hc4 hX1.H hW2
  have hX2 : XRel _ ⟨s1.T, s1.D, ⟨s1.h.H.set 20 r (some (.loop ts2 ps2 as2 bd2 true)), s1.h.nx, r :: s1.h.lg⟩⟩ ts.length a1 _ :=
    ⟨⟨n2.rel, hX1.sr.size, fun t => (hX1.sr.tmp t).step n2.step, hX1.sr.dfr.step n2.step⟩, n2.H, n2.below hX1.fr st2⟩
  refine wpIn_mono (exeX_sound hm hC hc3 (lo := some g) n hX2 he2 (.inr hc7)) ?_
  rintro x a3 w3 ⟨hs, E3, hX3, hn3'⟩
  cases hs
  have hE3 := hX3.H _ _ hg3
  obtain ⟨rc3, ho3, ⟨y1, y2, y3⟩, ⟨y4, y5⟩, y6⟩ := hX3.sr.rel.loop hE3
  have hU1 : E1.U r := hn1'.step.used _ hU
  have hg3' : (E3.μ r).1 = g := by rw [hn3'.step.same _ hU1]; exact hg1
  have hl3 : w3.heap[g]? = some (.loop rc3) := by rw [← hg3']; exact ho3
  have hen := run_endRound (P := P) none hl3
  have hW4 := hX3.sr.rel.write hE3 ho3 (w' := w3.putObj g (.loop { rc3 with state := .ready, pending := none })) (o' := .loop { rc3 with state := .ready, pending := none }) (ob' := .loop ts3 ps3 as3 bd3 false)
    (by rw [hg3']; exact ⟨rfl, rfl, rfl, by simp [World.putObj], fun k hk => by rw [World.putObj_heap_other hk]⟩) (by rw [hg3']; exact World.putObj_heap_same (by rw [← hg3']; exact (Array.getElem?_eq_some_iff.1 ho3).1)) (fun _ _ _ z => by cases z) ⟨⟨y1, y2, y3⟩, ⟨rfl, rfl⟩, y6⟩
  have n4 := Nx.put hg3 hc4 hX3.H hW4
  have nn := ((hn1'.trans hfr st1 st2 n2).trans hfr (st1.trans st2) st3 hn3').trans hfr ((st1.trans st2).trans st3) st4 n4
  exact ⟨_, _, hen, _, _, rfl, .lit _, nn.rel, nn.step, nn.H, nn.U, nn.fr⟩

/-- FUNCTIONS: what the machine computes is what the program does -/
theorem callX_sound (hm : P.follows .mixedOrders = true) {X : CallF} (hX : XSound P X) : ∀ n, CSound P (callX P X n)
  | 0 => fun f args h r h' e => by simp [callX] at e
  | n + 1 => fun f args h r h' e => by
    have hC := callX_sound hm hX n
    have hDS := dcallX_sound hm hC n
    simp only [callX] at e
    split at e
    · rename_i hy
      have := Nat.eq_of_beq_eq_true hy
      subst this
      exact rndX_sound hm hC e
    rename_i hy
    have hy : f ≠ yldId := fun z => by rw [z, Nat.beq_refl] at hy; cases hy
    suffices hh : HStep h h' ∧ ∀ E w us, Rel E w → (∀ q ob, h.H.get q = some ob → E.H q = some ob) → (∀ q, E.U q → q < h.nx) → Vrs E w args us → Calls P f us.toArray w (Ret E w h r h') from
      ⟨hh.1, fun E w us a b c d => by unfold CallsY; rw [if_neg hy]; exact hh.2 E w us a b c d⟩
    split at e
    · rename_i q hq
      cases e
      exact hX _ _ _ _ _ hq
    split at e
    case h_2 => cases e
    rename_i fn s hb
    split at e
    case h_2 => cases e
    rename_i h2 hd
    split at e
    case h_2 => cases e
    rename_i vs hr
    cases e
    obtain ⟨hst, hf, h3, c, k, hbd, hk, hw⟩ := bodyX_sound hm hC hb
    have hst2 := hst.trans (dfrX_h hDS hd)
    refine ⟨⟨hst2.nx, hst2.dead, fun q hq e => ?_, fun q hq => by simp [hq], hst2.top⟩, fun E w us hR hH hfr hus => ?_⟩
    · simp only [List.mem_append, List.mem_filter, not_or, not_and] at e
      exact hst2.log q hq fun z => e.1 z (Nat.ble_eq_true_of_le hq)
    · refine callsIn_wide.1 (callsIn_of_wp_marks (n := 0) hf hbd trivial (wpIn_mono (hw E w us hR hH hfr hus) ?_))
      rintro x a' w' ⟨hs, E', hX', hn⟩
      have hn' : Nx E w h E' w' s.h := ⟨hn.rel, hn.step, hn.H, hn.U, hn.fr⟩
      have hst' : HStep ⟨h.H, h.nx, []⟩ s.h := hst
      have fin : LeavesInM Fence.wide 0 P fn a'.tmps (Ret E w h (tupX vs) ⟨h2.H, h2.nx, (h2.lg.filter fun q => Nat.blt q h.nx) ++ h.lg⟩) a'.defers .returning w' := by
        refine dfrX_sound hDS (fun f args h h' e => ?_) hd hX'.sr.rel hX'.H hX'.fr hX'.sr.dfr fun E2 w2 hn2 => ?_
        · unfold dcallX at e
          split at e
          · assumption
          · cases e
        · have hnn := Nx.trans (h := ⟨h.H, h.nx, []⟩) hfr hst (dfrX_h hDS hd) hn hn2
          obtain ⟨us', g1, g2, g3⟩ := ressX_sound hn2.rel (fun t => (hX'.sr.tmp t).step hn2.step) hn2.H hr
          have hres := run_results (P := P) (w := w2) rfl h3 g1 g3
          exact ⟨_, hres, _, E2, rfl, tupX_sound g2, hnn.rel, hnn.step, hnn.H, hnn.U, hnn.fr⟩
      rcases hk with rfl | rfl <;> cases hs <;> exact fin

/-- nothing from outside -/
theorem noX_sound : XSound P noX := fun _ _ _ _ _ e => by cases e
theorem orX_sound {X Y : CallF} (hX : XSound P X) (hY : XSound P Y) : XSound P (orX X Y) := fun f args h r h' e => by
  unfold orX at e
  split at e
  · rename_i q hq
    cases e
    exact hX _ _ _ _ _ hq
  · exact hY _ _ _ _ _ e
def E0 : Mx := ⟨fun _ => (0, 0), fun _ => False, fun _ => none⟩
def H0 : Hx := ⟨.lf, 0, []⟩
def okX : Option (V × Hx) → Bool
  | some (.lit (.bool b), _) => b
  | _ => false
theorem okX_some {r : Option (V × Hx)} (h : okX r = true) : ∃ h', r = some (.lit (.bool true), h') := by
  unfold okX at h
  split at h
  · rename_i b h'
    subst h
    exact ⟨h', rfl⟩
  · cases h
theorem E0_rel (w : World) : Rel E0 w := ⟨fun r ob h => (by cases h), fun r r' ob ob' h => (by cases h), fun r ob h => (by cases h)⟩
/-- a function run from nothing, whatever the world -/
theorem law_of (hm : P.follows .mixedOrders = true) {X : CallF} (hX : XSound P X) {n : Nat} {f : FuncId} (hy : f ≠ yldId) {args : List V} {us : List Value} (w : World) (hus : Vrs E0 w args us) (e : okX (callX P X n f args H0) = true) :
    Calls P f us.toArray w fun en w' => en = .returned (.bool true) ∧ Below w.heap.size w w' := by
  obtain ⟨h', e⟩ := okX_some e
  have := (callX_sound hm hX n _ _ _ _ _ e).2 E0 w us (E0_rel w) (fun q ob h => by cases h) (fun q h => h.elim) hus
  unfold CallsY at this
  rw [if_neg hy] at this
  refine this.mono ?_
  rintro en w' ⟨u, E', rfl, hv, _, hS, _⟩
  rw [hv.lit_inv]
  exact ⟨rfl, hS.below fun g _ r ob h => by cases h⟩
end
end Hm
end Go.Proofs.YtcccaomnehdlbaaDoor
