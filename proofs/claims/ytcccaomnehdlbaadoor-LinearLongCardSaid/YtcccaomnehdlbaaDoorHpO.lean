/-
  A machine with a heap, fifteenth part: a law's body on both ways where a test is not known.
-/
import Derived.Test.YtcccaomnehdlbaaDoorHpN
namespace Go.Proofs.YtcccaomnehdlbaaDoor
open Go.RowKit
set_option linter.unusedVariables false
set_option linter.unusedSimpArgs false
namespace Hm
def eachL {α β : Type} (F : α → Option (List β)) : List α → Option (List β)
  | [] => some []
  | x :: l => match F x, eachL F l with
    | some r, some rs => some (r ++ rs)
    | _, _ => none
def blkL (id : Nat) : XK × Sx → XK × Sx
  | (.exit j, s) => match Nat.beq j id with
    | true => (.normal, s)
    | false => (.exit j, s)
  | r => r
def loopL (F : Sx → Option (List (XK × Sx))) : Nat → Sx → Option (List (XK × Sx))
  | 0, _ => none
  | n + 1, s => match F s with
    | some l => eachL (fun r => match r with
      | (.normal, s) => loopL F n s
      | r => some [r]) l
    | none => none
def exeL (P : Program) (C : CallF) (N : Nat) : Nat → Code → Sx → Option (List (XK × Sx))
  | 0, _, _ => none
  | n + 1, .seq a b, s => match exeL P C N n a s with
    | some l => eachL (fun r => match r with
      | (.normal, s) => exeL P C N n b s
      | r => some [r]) l
    | none => none
  | n + 1, .cond c a b, s => match opV s.T.f c with
    | .lit (.bool true) => exeL P C N n a s
    | .lit (.bool false) => exeL P C N n b s
    | .un .bool => match exeL P C N n a s, exeL P C N n b s with
      | some x, some y => some (x ++ y)
      | _, _ => none
    | _ => none
  | n + 1, .block id b, s => match exeL P C N n b s with
    | some l => some (l.map (blkL id))
    | none => none
  | n + 1, .loop b, s => loopL (exeL P C N n b) n s
  | n + 1, c, s => match exeX P C N (n + 1) c s with
    | some r => some [r]
    | none => none
def trueX (P : Program) (C : CallF) (n : Nat) (fn : Func) (r : XK × Sx) : Bool :=
  (match r.1 with
    | .exit _ => false
    | _ => true) && match dfrX (dcallX P C n) r.2.D r.2.h with
    | some h' => match ressX P r.2.T h'.H fn.results.toList with
      | some [.lit (.bool b)] => b
      | _ => false
    | none => false
def lawX (P : Program) (X : CallF) (n : Nat) (f : FuncId) (args : List V) : Bool :=
  match P.funcs[f]? with
  | some fn => match fn.body with
    | some c => match Nat.ble args.length fn.ntmps && (Nat.ble fn.ntmps 1000 && Nat.ble fn.results.size 3) with
      | true => match exeL P (callX P X n) fn.ntmps n c ⟨trOf args 0 .lf, [], H0⟩ with
        | some l => l.all (trueX P (callX P X n) n fn)
        | none => false
      | false => false
    | none => false
  | none => false

section
variable {P : Program} {C : CallF} {N : Nat}
theorem eachL_mem {α β : Type} {F : α → Option (List β)} : ∀ {l : List α} {rs : List β}, eachL F l = some rs → ∀ x, x ∈ l → ∃ r, F x = some r ∧ ∀ y, y ∈ r → y ∈ rs
  | [], rs, h, x, hx => by cases hx
  | a :: l, rs, h, x, hx => by
    simp only [eachL] at h
    split at h
    · rename_i r rs' h1 h2
      cases h
      rcases List.mem_cons.1 hx with rfl | hx
      · exact ⟨r, h1, fun y hy => by simp [hy]⟩
      · obtain ⟨r', g1, g2⟩ := eachL_mem h2 x hx
        exact ⟨r', g1, fun y hy => by simp [g2 y hy]⟩
    · cases h
def PostL (E : Mx) (w : World) (h : Hx) (N : Nat) (l : List (XK × Sx)) : Exit → Act → World → Prop := fun e a' w' => ∃ r, r ∈ l ∧ HStep h r.2.h ∧ Post E w h N r.1 r.2 e a' w'
theorem exeL_sound (hm : P.follows .mixedOrders = true) (hC : CSound P C) (hN : N ≤ 1000) : ∀ (n : Nat) {c : Code} {s : Sx} {l : List (XK × Sx)} {E : Mx} {a : Act} {w : World}, XRel E s N a w → exeL P C N n c s = some l → c.wpIn (FF none) 0 P (PostL E w s.h N l) a w
  | 0, c, s, l, E, a, w, hX, e => by simp [exeL] at e
  | n + 1, c, s, l, E, a, w, hX, e => by
    have det : ∀ {c : Code}, (match exeX P C N (n + 1) c s with
        | some r => some [r]
        | none => none) = some l → c.wpIn (FF none) 0 P (PostL E w s.h N l) a w := by
      intro c e
      split at e
      · rename_i r hr
        cases e
        obtain ⟨k, s'⟩ := r
        exact wpIn_mono (exeX_sound hm hC hN (n + 1) hX hr (.inl rfl)) fun x a' w' h => ⟨(k, s'), by simp, exeX_h hC (n + 1) hr, h⟩
      · cases e
    cases c with
    | seq a1 b =>
      simp only [exeL] at e
      split at e
      · rename_i l1 h1
        refine wpIn_seq (wpIn_mono (exeL_sound hm hC hN n hX h1) ?_)
        rintro x a' w' ⟨⟨k, s1⟩, hr, hst, hs, E', hX', hn⟩
        obtain ⟨r', g1, g2⟩ := eachL_mem e _ hr
        cases hs with
        | normal =>
          refine wpIn_mono (exeL_sound hm hC hN n hX' g1) ?_
          rintro x a2 w2 ⟨r2, hr2, hst2, hs2, E2, hX2, hn2⟩
          exact ⟨r2, g2 _ hr2, hst.trans hst2, hs2, E2, hX2, hn.trans hX.fr hst hst2 hn2⟩
        | exit id =>
          cases g1
          exact ⟨_, g2 _ (by simp), hst, .exit id, E', hX', hn⟩
        | ret =>
          cases g1
          exact ⟨_, g2 _ (by simp), hst, .ret, E', hX', hn⟩
      · cases e
    | cond c a1 b =>
      simp only [exeL] at e
      have hv := hX.sr.opd c
      split at e
      · rename_i hc
        rw [hc] at hv
        exact wpIn_cond_true hv.lit_inv (exeL_sound hm hC hN n hX e)
      · rename_i hc
        rw [hc] at hv
        exact wpIn_cond_false hv.lit_inv (exeL_sound hm hC hN n hX e)
      · rename_i hc
        rw [hc] at hv
        split at e
        · rename_i x y hx hy
          cases e
          generalize hq : a.eval c = u at hv
          cases hv with
          | un _ u hk =>
            cases u <;> simp [UK.has] at hk
            rename_i t
            cases t with
            | true => exact wpIn_cond_true hq (wpIn_mono (exeL_sound hm hC hN n hX hx) fun x a' w' ⟨r, g1, g2⟩ => ⟨r, by simp [g1], g2⟩)
            | false => exact wpIn_cond_false hq (wpIn_mono (exeL_sound hm hC hN n hX hy) fun x a' w' ⟨r, g1, g2⟩ => ⟨r, by simp [g1], g2⟩)
        · cases e
      · cases e
    | block id b =>
      simp only [exeL] at e
      split at e
      · rename_i l1 h1
        cases e
        refine wpIn_block (wpIn_mono (exeL_sound hm hC hN n hX h1) ?_)
        rintro x a' w' ⟨⟨k, s1⟩, hr, hst, hs, hn⟩
        have hmem := List.mem_map_of_mem (f := blkL id) hr
        generalize hk : (k, s1).1 = k' at hs
        cases hs with
        | normal => cases hk; exact ⟨_, hmem, hst, .normal, hn⟩
        | ret => cases hk; exact ⟨_, hmem, hst, .ret, hn⟩
        | exit j =>
          cases hk
          by_cases hj : j = id
          · subst hj
            have e2 : blkL j (.exit j, s1) = (.normal, s1) := by simp [blkL]
            rw [e2] at hmem
            simp only [Exit.inBlock, if_true]
            exact ⟨_, hmem, hst, .normal, hn⟩
          · have hb : Nat.beq j id = false := by
              cases q : Nat.beq j id with
              | false => rfl
              | true => exact absurd (Nat.eq_of_beq_eq_true q) hj
            have e2 : blkL id (.exit j, s1) = (.exit j, s1) := by simp only [blkL, hb]
            rw [e2] at hmem
            simp only [Exit.inBlock, if_neg hj]
            exact ⟨_, hmem, hst, .exit j, hn⟩
      · cases e
    | loop b =>
      simp only [exeL] at e
      refine wpIn_loop_rounds n ?_
      have key : ∀ (m : Nat) {s : Sx} {l : List (XK × Sx)} {E : Mx} {a : Act} {w : World}, XRel E s N a w → loopL (exeL P C N n b) m s = some l → Code.roundsIn (FF none) 0 P b (PostL E w s.h N l) m a w := by
        intro m
        induction m with
        | zero => intro s l E a w _ e; simp [loopL] at e
        | succ m ih =>
          intro s l E a w hX e
          simp only [loopL] at e
          split at e
          case h_2 => cases e
          rename_i l1 h1
          rw [roundsIn_succ]
          refine wpIn_mono (exeL_sound hm hC hN n hX h1) ?_
          rintro x a' w' ⟨⟨k, s1⟩, hr, hst, hs, E', hX', hn⟩
          obtain ⟨r', g1, g2⟩ := eachL_mem e _ hr
          cases hs with
          | normal =>
            refine rounds_mono ?_ m (ih hX' g1)
            rintro x a2 w2 ⟨r2, hr2, hst2, hs2, E2, hX2, hn2⟩
            exact ⟨r2, g2 _ hr2, hst.trans hst2, hs2, E2, hX2, hn2 |> hn.trans hX.fr hst hst2⟩
          | exit id =>
            cases g1
            exact ⟨_, g2 _ (by simp), hst, .exit id, E', hX', hn⟩
          | ret =>
            cases g1
            exact ⟨_, g2 _ (by simp), hst, .ret, E', hX', hn⟩
      exact key n hX e
    | _ => exact det (by simpa only [exeL] using e)
/-- A LAW, run from nothing, whatever the world, on both ways where a test is not known -/
theorem lawX_sound (hm : P.follows .mixedOrders = true) {X : CallF} (hX : XSound P X) {n : Nat} {f : FuncId} {args : List V} {us : List Value} (w : World) (hus : Vrs E0 w args us) (e : lawX P X n f args = true) :
    Calls P f us.toArray w fun en w' => en = .returned (.bool true) ∧ Below w.heap.size w w' := by
  have hC := callX_sound hm hX n
  have hDS := dcallX_sound hm hC n
  unfold lawX at e
  split at e
  case h_2 => cases e
  rename_i fn hf
  split at e
  case h_2 => cases e
  rename_i c hb
  split at e
  case h_2 => cases e
  rename_i hchk
  rw [Bool.and_eq_true, Bool.and_eq_true] at hchk
  obtain ⟨hk1, hk2, hk3⟩ := hchk
  have hk1 := Nat.le_of_ble_eq_true hk1
  have hk2 := Nat.le_of_ble_eq_true hk2
  have hk3 := Nat.le_of_ble_eq_true hk3
  split at e
  case h_2 => cases e
  rename_i l hl
  have hX0 := frame_start (h := H0) (E := E0) (w := w) (E0_rel w) (fun q ob h => by cases h) (fun q (h : False) => h.elim) hus hk1 hk2
  refine callsIn_wide.1 (callsIn_of_wp_marks (n := 0) hf hb trivial (wpIn_mono (exeL_sound hm hC hk2 n hX0 hl) ?_))
  rintro x a' w' ⟨⟨k, s1⟩, hr, hst, hs, E', hX', hn⟩
  have ht := List.all_eq_true.1 e _ hr
  unfold trueX at ht
  rw [Bool.and_eq_true] at ht
  obtain ⟨ht1, ht2⟩ := ht
  have fin : LeavesInM Fence.wide 0 P fn a'.tmps (fun en w' => en = .returned (.bool true) ∧ Below w.heap.size w w') a'.defers .returning w' := by
    split at ht2
    · rename_i h2 hd
      split at ht2
      · rename_i b hr2
        subst ht2
        refine dfrX_sound hDS (fun f args h h' e => ?_) hd hX'.sr.rel hX'.H hX'.fr hX'.sr.dfr fun E2 w2 hn2 => ?_
        · unfold dcallX at e
          split at e
          · assumption
          · cases e
        · have hnn := Nx.trans (h := H0) (fun q (h : False) => h.elim) hst (dfrX_h hDS hd) hn hn2
          obtain ⟨us', g1, g2, g3⟩ := ressX_sound hn2.rel (fun t => (hX'.sr.tmp t).step hn2.step) hn2.H hr2
          have hres := run_results (P := P) (w := w2) rfl (by simpa using hk3) g1 g3
          match us', g2 with
          | [], g2 => exact absurd g2.len (by simp)
          | _ :: _ :: _, g2 => exact absurd g2.len (by simp)
          | [u], g2 =>
            have := g2.head.lit_inv
            subst this
            exact ⟨_, hres, rfl, hnn.step.below fun g _ r ob h => by cases h⟩
      · cases ht2
    · cases ht2
  generalize hk : (k, s1).1 = k' at hs
  cases hs with
  | normal => exact fin
  | ret => exact fin
  | exit id => cases hk; cases ht1
end
/-- an example that has been run -/
def awakeX (fA : FuncId) : CallF := fun f args h => match Nat.beq f fA, args with
  | true, [] => some (.lit (.bool true), h)
  | _, _ => none
theorem awakeX_sound {P : Program} {fA : FuncId} (ha : ∀ w, Calls P fA #[] w fun e w' => e = .returned (.bool true) ∧ Below w.heap.size w w') : XSound P (awakeX fA) := by
  intro f args h r h' e
  unfold awakeX at e
  split at e
  case h_2 => cases e
  rename_i hf
  have hf := Nat.eq_of_beq_eq_true hf
  subst hf
  cases e
  refine ⟨HStep.refl _, fun E w us hR hH hfr hus => ?_⟩
  match us, hus with
  | _ :: _, hus => exact absurd hus.len (by simp)
  | [], hus =>
  refine (ha w).mono ?_
  rintro e w' ⟨rfl, hb⟩
  obtain ⟨hR', hS'⟩ := hR.grow hb
  exact ⟨_, E, rfl, .lit _, hR', hS', hH, fun q hq => .inl hq, fun _ _ _ => rfl⟩
end Hm
end Go.Proofs.YtcccaomnehdlbaaDoor
