/-
  A machine with a heap, thirteenth part: regions, code, functions.
-/
import Derived.Test.YtcccaomnehdlbaaDoorHpL
namespace Go.Proofs.YtcccaomnehdlbaaDoor
open Go.RowKit
set_option linter.unusedVariables false
set_option linter.unusedSimpArgs false
namespace Hm
section
variable {P : Program} {C : CallF} {N : Nat} {ops : Array Oper}

/-- the heap goes on, past names that a region keeps for its quiet steps -/
structure DStep (h : Hx) (n : Nat) (h' : Hx) : Prop where
  nx : h.nx + n ≤ h'.nx
  dead : ∀ q, q < h.nx → h.H.get q = none → h'.H.get q = none
  log : ∀ q, q < h.nx → q ∉ h'.lg → h'.H.get q = h.H.get q
  keep : ∀ q, q ∈ h.lg → q ∈ h'.lg
  top : ∀ q, h'.nx ≤ q → h'.H.get q = h.H.get q
theorem runD_d (hC : CSound P C) {tab : List Nat} {W : Tr Nat} {h0 : Hx} : ∀ {L : List Nat} {c c' : Dx}, runD P C N ops tab W h0.nx L c = some c' → DStep h0 ops.size c.h → DStep h0 ops.size c'.h
  | [], c, c', e, d => by cases e; exact d
  | k :: L, c, c', e, d => by
    simp only [runD] at e
    split at e
    · rename_i c1 h1
      refine runD_d hC e ?_
      obtain ⟨o, v, s⟩ := stepD_stp h1
      rcases s.way with ⟨_, _, h', he, hh, _⟩ | ⟨_, _, _, hx, hlg, _, ob, _, hH⟩
      · have hs := effX_h hC he
        have hs1 : c.h.nx ≤ h'.nx := hs.nx
        have hd := d.nx
        rw [hh]
        refine ⟨Nat.le_trans d.nx hs.nx, fun q hq e => hs.dead q (show q < c.h.nx by omega) (d.dead q hq e), fun q hq e => ?_, fun q e => ?_, fun q hq => ?_⟩
        · simp only [List.mem_append, not_or] at e
          exact (hs.log q (show q < c.h.nx by omega) e.1).trans (d.log q hq e.2)
        · simp only [List.mem_append]; exact .inr (d.keep q e)
        · have hq' : h'.nx ≤ q := hq
          exact (hs.top q hq').trans (d.top q (by omega))
      · have hk := (Array.getElem?_eq_some_iff.1 s.op).1
        have hd := d.nx
        have hne : ∀ q, q ≠ h0.nx + k → c1.h.H.get q = c.h.H.get q := fun q hq => by
          rw [hH]
          cases ob with
          | none => rfl
          | some ob => exact upd_ne _ _ hq
        refine ⟨by rw [hx]; exact d.nx, fun q hq e => by rw [hne q (by omega)]; exact d.dead q hq e, fun q hq e => ?_, fun q e => by rw [hlg]; exact d.keep q e, fun q hq => ?_⟩
        · rw [hlg] at e
          rw [hne q (by omega)]; exact d.log q hq e
        · rw [hx] at hq
          rw [hne q (by omega)]; exact d.top q hq
    · cases e
theorem regD_h (hC : CSound P C) {s s' : Sx} (e : regD P C N ops s = some s') : HStep s.h s'.h := by
  unfold regD at e
  dsimp only at e
  split at e
  · split at e
    · rename_i c hc
      split at e
      · cases e
        have d := runD_d (h0 := s.h) hC hc ⟨Nat.le_refl _, fun q _ e => e, fun _ _ _ => rfl, fun _ e => e, fun _ _ => rfl⟩
        have := d.nx
        exact ⟨show s.h.nx ≤ c.h.nx by omega, d.dead, d.log, d.keep, d.top⟩
      · cases e
    · cases e
  · cases e
theorem regD_sound (hm : P.follows .mixedOrders = true) (hC : CSound P C) (hN : N ≤ 1000) {id : Nat} {s s' : Sx} {E : Mx} {a : Act} {w : World} (hX : XRel E s N a w) (e : regD P C N ops s = some s') {lo : Option Nat} (hlo : lo = none ∨ ops.toList.all noDfr = true) {Q : Exit → Act → World → Prop} (hQ : ∀ a' w', Nxt E w s.h N s' a' w' → Q .normal a' w') :
    (Code.region id ops true).wpIn (FF lo) 0 P Q a w := by
  unfold regD at e
  dsimp only at e
  split at e
  case h_2 => cases e
  rename_i hchk
  rw [Bool.and_eq_true] at hchk
  split at e
  case h_2 => cases e
  rename_i c hc
  split at e
  case h_2 => cases e
  rename_i hfull
  cases e
  obtain ⟨t, e0, e1, e2⟩ := runD_trace hc
  generalize hL : ordL ops (depT ops.toList []) = L at hc e1 e2
  have hhedge : ∀ i o, ops[i]? = some o → ∀ j, j ∈ direct o → j < i := fun i o ho j hj => by
    have := hedgeB_ok hchk.1 i o (by simpa using ho) j hj; omega
  have hsole : ∀ i o s, ops[i]? = some o → o.dst = some s → (wrX ops.toList 0 .lf).get s = some i ∧ s < 1000 := fun i o s ho hs => by
    have := soleB_ok hchk.2 i o s (by simpa using ho) hs
    rwa [Nat.zero_add] at this
  have h : Trc P C N ops (wrX ops.toList 0 .lf) s.h.nx L t := by
    refine ⟨hC, hN, by rw [e0], by rw [e0], fun r hr => ?_, fun k hk => by rw [e1]; exact tb_full hfull hk, hhedge, fun i o s ho hs => (hsole i o s ho hs).1, fun s j hj => ?_, e2⟩
    · rw [e0]
      cases hg : s.h.H.get r with
      | none => rfl
      | some ob =>
        have := hX.fr r (hX.sr.rel.used r ob (hX.H r ob hg))
        omega
    · rcases wrX_own (fun i o t ho ht => (hsole i o t (by simpa using ho) ht).2) s j hj with z | ⟨i, o, z1, z2, z3⟩
      · cases z
      · exact ⟨o, by rw [z2, Nat.zero_add]; simpa using z1, z3⟩
  obtain ⟨hD1, hD2⟩ := hX.sr.rel.drew
  refine region_run hm hhedge (I := fun S a' w' => ∃ q E', Inv ops (wrX ops.toList 0 .lf) s.h.nx L t E w N q S E' a' w') ?_ ?_ ?_
  · rintro S a1 w1 i o ⟨q, E1, I⟩ ho hS hdir
    have hlo' : lo = none ∨ noDfr o = true := hlo.imp (fun z => z) fun q => List.all_eq_true.1 q o (List.mem_of_getElem? (by simpa using ho))
    unfold wpOpIn
    rw [ho]
    dsimp only
    have key : ∀ q' E' a' w', Inv ops (wrX ops.toList 0 .lf) s.h.nx L t E w N q' (fun j => decide (j = i) || S j) E' a' w' → ∃ q E', Inv ops (wrX ops.toList 0 .lf) s.h.nx L t E w N q (fun j => decide (j = i) || S j) E' a' w' := fun q' E' a' w' h => ⟨q', E', h⟩
    have hst : if Region.wanted o (yielded ops a1.tmps) then o.wpIn (FF lo) 0 P a1 w1 (fun a' w' => ∃ q E', Inv ops (wrX ops.toList 0 .lf) s.h.nx L t E w N q (fun j => decide (j = i) || S j) E' a' w') Q else (fun a' w' => ∃ q E', Inv ops (wrX ops.toList 0 .lf) s.h.nx L t E w N q (fun j => decide (j = i) || S j) E' a' w') (a1.put o.dst undef) w1 := by
      by_cases hl : isLoud ops i
      · exact I.loud h hX.fr ho hS hl hdir hlo' Q (K := fun a' w' => ∃ q E', Inv ops (wrX ops.toList 0 .lf) s.h.nx L t E w N q (fun j => decide (j = i) || S j) E' a' w') key
      · exact I.quiet h hX.fr ho hS hl hdir hlo' Q (K := fun a' w' => ∃ q E', Inv ops (wrX ops.toList 0 .lf) s.h.nx L t E w N q (fun j => decide (j = i) || S j) E' a' w') (key q)
    split
    · rename_i hw
      rw [if_pos hw] at hst
      exact hst
    · rename_i hw
      rw [if_neg hw] at hst
      exact ⟨fun _ _ => trivial, hst⟩
  · rintro S a1 w1 ⟨q, E1, I⟩ hall
    have hq : q = L.length := by
      rcases I.q3 with z | ⟨k, z1, z2⟩
      · exact z
      · have := hall k (h.lt z1).2
        rw [I.q2 q k (Nat.le_refl _) z1 z2] at this; cases this
    subst hq
    have hT : ∀ x, Vr E1 w1 (c.T.f x) (a1.tmps.getD x undef) := fun x => by
      have := I.tmp x
      cases hW : (wrX ops.toList 0 .lf).get x with
      | none =>
        rw [hW] at this
        dsimp only at this
        rw [← h.slots (p := 0) L.length (Nat.zero_le _) (Nat.le_refl _) fun p1 k' _ _ _ => by rw [hW]; simp] at this
        rw [e1] at this; exact this
      | some j =>
        rw [hW] at this
        dsimp only at this
        obtain ⟨o, ho, _⟩ := h.own x j hW
        have := this.1 (hall j (Array.getElem?_eq_some_iff.1 ho).1)
        rw [e1] at this; exact this
    have hge := h.nx_ge L.length (Nat.le_refl _)
    have hdf := I.dfr
    have hhp := fun r ob => I.heap L.length r ob (Nat.le_refl _) (Nat.le_refl _) (fun p1 k1 y1 y2 => by omega) fun j y1 _ => hall j y1
    have hnm := I.names
    rw [e1] at hdf hhp hnm hge
    refine hQ a1 w1 ⟨E1, ⟨⟨I.rel, I.size, hT, hdf⟩, hhp, fun r hr => ?_⟩, ⟨I.rel, I.step, hhp, fun r hr => ?_, fun r g1 g2 => I.fr r g1 (by rw [e0]; exact g2)⟩⟩
    · show r < c.h.nx
      rcases hnm r hr with y | ⟨j, y1, y2, y3⟩ | y
      · omega
      · omega
      · exact y.2
    · rcases hnm r hr with y | ⟨j, y1, y2, y3⟩ | y
      · exact .inl y.2
      · exact .inr ⟨by omega, show r < c.h.nx by omega⟩
      · exact .inr ⟨by omega, y.2⟩
  · obtain ⟨q, n1, n2, n3, n4⟩ := next_loud ops L L.length 0 (by omega)
    obtain ⟨m1, m2⟩ := h.quiets (p := 0) q n1 n2 n3
    refine ⟨q, E, hD1, hX.sr.size, hD2, fun i hi => (by cases hi), n2, fun p k g1 g2 g3 => absurd g3 (n3 p k (Nat.zero_le _) g1 g2), fun _ _ _ _ _ => rfl, n4, fun p r ob g1 g2 g3 g4 g5 => ?_, fun r hr => .inl ⟨hX.fr r hr, hr⟩, fun x => ?_, ?_, fun _ _ _ => rfl⟩
    · have hsame := h.same (r := r) (p := 0) p (Nat.zero_le _) g2 fun p1 k y1 y2 y3 => ⟨fun y4 => ?_, fun y4 e => ?_⟩
      · rw [hsame, e0] at g5
        exact hX.H r ob g5
      · rcases Nat.lt_or_ge p1 q with z | z
        · exact absurd y4 (n3 p1 k (Nat.zero_le _) z y3)
        · exact g3 p1 k z y2 y3 y4
      · have := g4 k (h.lt y3).2 e
        cases this
    · cases hW : (wrX ops.toList 0 .lf).get x with
      | none =>
        dsimp only
        rw [e0]
        exact (hX.sr.tmp x).step hD2
      | some j =>
        dsimp only
        refine ⟨fun e => (by cases e), fun _ => ?_⟩
        rw [e0]
        exact (hX.sr.tmp x).step hD2
    · rw [m1, e0]; exact hX.sr.dfr.step hD2
end

/-! ### Code -/
inductive SameX : Exit → XK → Prop
  | normal : SameX .normal .normal
  | exit (id : Nat) : SameX (.exit id) (.exit id)
  | ret : SameX .ret .ret
def Post (E : Mx) (w : World) (h : Hx) (N : Nat) (k : XK) (s' : Sx) : Exit → Act → World → Prop := fun e a' w' => SameX e k ∧ Nxt E w h N s' a' w'
section
variable {P : Program} {C : CallF} {N : Nat}

theorem rounds_mono {lo : Option Nat} {c : Code} {Q Q' : Exit → Act → World → Prop} (h : ∀ e a w, Q e a w → Q' e a w) : ∀ (n : Nat) {a : Act} {w : World}, Code.roundsIn (FF lo) 0 P c Q n a w → Code.roundsIn (FF lo) 0 P c Q' n a w
  | 0, a, w, hr => hr.elim
  | n + 1, a, w, hr => by
    rw [roundsIn_succ] at hr ⊢
    refine wpIn_mono hr fun e a w hq => ?_
    cases e with
    | normal => exact rounds_mono h n hq
    | _ => exact h _ _ _ hq
theorem exeX_h (hC : CSound P C) : ∀ (n : Nat) {c : Code} {s s' : Sx} {k : XK}, exeX P C N n c s = some (k, s') → HStep s.h s'.h
  | 0, c, s, s', k, e => by simp [exeX] at e
  | n + 1, c, s, s', k, e => by
    cases c with
    | skip => simp only [exeX] at e; cases e; exact HStep.refl _
    | label l => simp only [exeX] at e; cases e; exact HStep.refl _
    | region id ops draw =>
      simp only [exeX] at e
      split at e
      · rename_i s1 h1
        cases e
        cases draw with
        | true => exact regD_h hC h1
        | false => exact runX_h hC h1
      · cases e
    | seq a b =>
      simp only [exeX] at e
      split at e
      · rename_i s1 h1
        exact (exeX_h hC n h1).trans (exeX_h hC n e)
      · exact exeX_h hC n e
    | cond c a b =>
      simp only [exeX] at e
      split at e
      · exact exeX_h hC n e
      · exact exeX_h hC n e
      · cases e
    | block id b =>
      simp only [exeX] at e
      split at e
      · rename_i j s1 h1
        split at e
        · cases e; exact exeX_h hC n h1
        · cases e; exact exeX_h hC n h1
      · exact exeX_h hC n e
    | loop b =>
      simp only [exeX] at e
      have key : ∀ (m : Nat) {s s' : Sx} {k : XK}, loopX (exeX P C N n b) m s = some (k, s') → HStep s.h s'.h := by
        intro m
        induction m with
        | zero => intro s s' k e; simp [loopX] at e
        | succ m ih =>
          intro s s' k e
          simp only [loopX] at e
          split at e
          · rename_i s1 h1
            exact (exeX_h hC n h1).trans (ih e)
          · exact exeX_h hC n e
      exact key n e
    | exit id => simp only [exeX] at e; cases e; exact HStep.refl _
    | ret => simp only [exeX] at e; cases e; exact HStep.refl _
    | rangeFunc g ps asg bd =>
      simp only [exeX] at e
      split at e
      case h_2 => cases e
      rename_i f args hb hc
      split at e
      case h_2 => cases e
      rename_i v h2 hcall
      split at e
      case h_2 => cases e
      rename_i ts2 ps2 as2 bd2 hg
      cases e
      have hb := blt_lt hb
      have hst := (hC _ _ _ _ _ hcall).1
      have hn := hst.nx
      dsimp only at hn
      have old : ∀ q, q < s.h.nx → ((s.h.H.set 20 s.h.nx (some Ob.defd)).set 20 (s.h.nx + 1) (some (Ob.loop (slotsX s.T N) ps.toList asg bd false))).get q = s.h.H.get q := fun q hq => by
        rw [Tr.get_set20 hb, if_neg (by omega), Tr.get_set20 (by omega), if_neg (by omega)]
      refine ⟨by show s.h.nx ≤ h2.nx; omega, fun q hq e => ?_, fun q hq e => ?_, fun q hq => ?_, fun q hq => ?_⟩
      · show (h2.H.set 20 (s.h.nx + 1) none).get q = none
        rw [Tr.get_set20 hb]
        split
        · rfl
        · exact hst.dead q (show q < s.h.nx + 2 by omega) (by rw [old q hq]; exact e)
      · have e2 : q ∉ h2.lg := fun z => e (List.mem_cons_of_mem _ z)
        show (h2.H.set 20 (s.h.nx + 1) none).get q = _
        rw [Tr.get_set20 hb, if_neg (by omega), hst.log q (show q < s.h.nx + 2 by omega) e2]
        exact old q hq
      · exact List.mem_cons_of_mem _ (hst.keep q hq)
      · have hq' : h2.nx ≤ q := hq
        show (h2.H.set 20 (s.h.nx + 1) none).get q = _
        rw [Tr.get_set20 hb, if_neg (by omega), hst.top q hq', Tr.get_set20 hb, if_neg (by omega), Tr.get_set20 (by omega), if_neg (by omega)]
    | _ => simp [exeX] at e

theorem exeX_sound (hm : P.follows .mixedOrders = true) (hC : CSound P C) (hN : N ≤ 1000) {lo : Option Nat} : ∀ (n : Nat) {c : Code} {s s' : Sx} {k : XK} {E : Mx} {a : Act} {w : World}, XRel E s N a w → exeX P C N n c s = some (k, s') → (lo = none ∨ noDfrC c = true) → c.wpIn (FF lo) 0 P (Post E w s.h N k s') a w
  | 0, c, s, s', k, E, a, w, hX, e, hlo => by simp [exeX] at e
  | n + 1, c, s, s', k, E, a, w, hX, e, hlo => by
    have here : Nxt E w s.h N s a w := ⟨E, hX, Nx.refl hX.sr.rel hX.H⟩
    cases c with
    | skip => simp only [exeX] at e; cases e; exact wpIn_skip ⟨.normal, here⟩
    | label l => simp only [exeX] at e; cases e; exact wpIn_label ⟨.normal, here⟩
    | region id ops draw =>
      simp only [exeX] at e
      split at e
      · rename_i s1 h1
        cases e
        cases draw with
        | true => exact regD_sound hm hC hN hX h1 (hlo.imp (fun z => z) fun q => q) fun a' w' h' => ⟨.normal, h'⟩
        | false =>
          refine wpIn_region ?_
          have := runX_sound (Q := Post E w s.h N .normal s') hC hN (hlo.imp (fun z => z) fun q => q) ops.toList 0 rfl hX h1 fun a' w' h' => ⟨.normal, h'⟩
          rw [List.range_eq_range']
          simpa using this
      · cases e
    | seq a1 b =>
      have hl1 : lo = none ∨ noDfrC a1 = true := hlo.imp (fun z => z) fun q => ((Bool.and_eq_true _ _).mp q).1
      have hl2 : lo = none ∨ noDfrC b = true := hlo.imp (fun z => z) fun q => ((Bool.and_eq_true _ _).mp q).2
      simp only [exeX] at e
      split at e
      · rename_i s1 h1
        refine wpIn_seq (wpIn_mono (exeX_sound hm hC hN n hX h1 hl1) ?_)
        rintro x a' w' ⟨hs, E', hX', hn⟩
        cases hs
        refine wpIn_mono (exeX_sound hm hC hN n hX' e hl2) ?_
        rintro x a2 w2 ⟨hs, E2, hX2, hn2⟩
        exact ⟨hs, E2, hX2, hn.trans hX.fr (exeX_h hC n h1) (exeX_h hC n e) hn2⟩
      · rename_i hne
        refine wpIn_seq (wpIn_mono (exeX_sound hm hC hN n hX e hl1) ?_)
        rintro x a' w' ⟨hs, hn⟩
        cases hs with
        | normal => exact absurd e (hne _)
        | exit id => exact ⟨.exit id, hn⟩
        | ret => exact ⟨.ret, hn⟩
    | cond c a1 b =>
      simp only [exeX] at e
      have hv := hX.sr.opd c
      split at e
      · rename_i hc
        rw [hc] at hv
        exact wpIn_cond_true hv.lit_inv (exeX_sound hm hC hN n hX e (hlo.imp (fun z => z) fun q => ((Bool.and_eq_true _ _).mp q).1))
      · rename_i hc
        rw [hc] at hv
        exact wpIn_cond_false hv.lit_inv (exeX_sound hm hC hN n hX e (hlo.imp (fun z => z) fun q => ((Bool.and_eq_true _ _).mp q).2))
      · cases e
    | block id b =>
      simp only [exeX] at e
      split at e
      · rename_i j s1 h1
        refine wpIn_block (wpIn_mono (exeX_sound hm hC hN n hX h1 hlo) ?_)
        rintro x a' w' ⟨hs, hn⟩
        cases hs
        split at e
        · rename_i hj
          cases e
          have := Nat.eq_of_beq_eq_true hj
          subst this
          simp only [Exit.inBlock, if_true]
          exact ⟨.normal, hn⟩
        · rename_i hj
          cases e
          have : j ≠ id := fun e => by rw [e, Nat.beq_refl] at hj; cases hj
          simp only [Exit.inBlock, if_neg this]
          exact ⟨.exit j, hn⟩
      · rename_i hne
        refine wpIn_block (wpIn_mono (exeX_sound hm hC hN n hX e hlo) ?_)
        rintro x a' w' ⟨hs, hn⟩
        cases hs with
        | normal => exact ⟨.normal, hn⟩
        | exit j => exact absurd e (hne _ _)
        | ret => exact ⟨.ret, hn⟩
    | loop b =>
      simp only [exeX] at e
      refine wpIn_loop_rounds n ?_
      have key : ∀ (m : Nat) {s s' : Sx} {k : XK} {E : Mx} {a : Act} {w : World}, XRel E s N a w → loopX (exeX P C N n b) m s = some (k, s') → HStep s.h s'.h ∧ Code.roundsIn (FF lo) 0 P b (Post E w s.h N k s') m a w := by
        intro m
        induction m with
        | zero => intro s s' k E a w _ e; simp [loopX] at e
        | succ m ih =>
          intro s s' k E a w hX e
          simp only [loopX] at e
          rw [roundsIn_succ]
          split at e
          · rename_i s1 h1
            have hst : HStep s1.h s'.h := by
              have : ∀ (m : Nat) {s s' : Sx} {k : XK}, loopX (exeX P C N n b) m s = some (k, s') → HStep s.h s'.h := by
                intro m
                induction m with
                | zero => intro s s' k e; simp [loopX] at e
                | succ m ih =>
                  intro s s' k e
                  simp only [loopX] at e
                  split at e
                  · rename_i s1 h1
                    exact (exeX_h hC n h1).trans (ih e)
                  · exact exeX_h hC n e
              exact this m e
            refine ⟨(exeX_h hC n h1).trans hst, wpIn_mono (exeX_sound hm hC hN n hX h1 hlo) ?_⟩
            rintro x a' w' ⟨hs, E', hX', hn⟩
            cases hs
            refine rounds_mono ?_ m (ih hX' e).2
            rintro x a2 w2 ⟨hs, E2, hX2, hn2⟩
            exact ⟨hs, E2, hX2, hn.trans hX.fr (exeX_h hC n h1) hst hn2⟩
          · rename_i hne
            refine ⟨exeX_h hC n e, wpIn_mono (exeX_sound hm hC hN n hX e hlo) ?_⟩
            rintro x a' w' ⟨hs, hn⟩
            cases hs with
            | normal => exact absurd e (hne _)
            | exit id => exact ⟨.exit id, hn⟩
            | ret => exact ⟨.ret, hn⟩
      exact (key n hX e).2
    | exit id => simp only [exeX] at e; cases e; exact wpIn_exit ⟨.exit id, here⟩
    | ret => simp only [exeX] at e; cases e; exact wpIn_ret ⟨.ret, here⟩
    | rangeFunc g ps asg bd =>
      have hl0 : lo = none := hlo.resolve_right (by simp [noDfrC])
      subst hl0
      have hxh := exeX_h hC (n + 1) e
      simp only [exeX] at e
      split at e
      case h_2 => cases e
      rename_i f args hb hc
      split at e
      case h_2 => cases e
      rename_i v h2 hcall
      split at e
      case h_2 => cases e
      rename_i ts2 ps2 as2 bd2 hg
      cases e
      have hb := blt_lt hb
      refine wpIn_rangeFunc fun fn _ => ?_
      have hn1 : ¬ E.U s.h.nx := fun z => Nat.lt_irrefl _ (hX.fr _ z)
      obtain ⟨r1, s1⟩ := hX.sr.rel.new hn1 (ob := .defd) (o := .deferred (some [])) rfl
      have hn2 : ¬ (E.new s.h.nx w.heap.size 0 .defd).U (s.h.nx + 1) := fun z => by
        rcases z with z | z
        · have := hX.fr _ z; omega
        · omega
      have hv1 : Vrs (E.new s.h.nx w.heap.size 0 .defd) (w.alloc (.deferred (some []))) (slotsX s.T N) a.tmps.toList := by
        refine ⟨by simp [slotsX, hX.sr.size], fun j c u hc hu => ?_⟩
        have hj := (List.getElem?_eq_some_iff.1 hu).1
        unfold slotsX at hc
        rw [List.getElem?_map, List.getElem?_range (by rw [← hX.sr.size]; simpa using hj)] at hc
        cases hc
        have := hX.sr.tmp j
        rw [Array.getD_eq_getD_getElem?, ← Array.getElem?_toList, hu] at this
        exact this.step s1
      obtain ⟨r2, s2⟩ := r1.new hn2 (ob := .loop (slotsX s.T N) ps.toList asg bd false) (o := .loop { state := .ready, pending := none, fn, tmps := a.tmps, params := ps, assign := asg, body := bd, defers := w.heap.size }) ⟨⟨rfl, rfl, rfl⟩, ⟨rfl, rfl⟩, hv1⟩
      generalize hE2 : (E.new s.h.nx w.heap.size 0 .defd).new (s.h.nx + 1) (w.alloc (.deferred (some []))).heap.size 0 (.loop (slotsX s.T N) ps.toList asg bd false) = E2 at r2 s2
      have hsz : (w.alloc (.deferred (some []))).heap.size = w.heap.size + 1 := World.size_alloc _ _
      have hU2 : ∀ q, E2.U q ↔ (E.U q ∨ q = s.h.nx) ∨ q = s.h.nx + 1 := fun q => by rw [← hE2]; exact Iff.rfl
      have hH2 : ∀ q, E2.H q = upd (upd E.H s.h.nx (some .defd)) (s.h.nx + 1) (some (.loop (slotsX s.T N) ps.toList asg bd false)) q := fun q => by rw [← hE2]; rfl
      have hμ1 : E2.μ (s.h.nx + 1) = (w.heap.size + 1, 0) := by rw [← hE2, ← hsz]; exact upd_same _ _ _
      have hμ0 : E2.μ s.h.nx = (w.heap.size, 0) := by rw [← hE2]; show upd (upd E.μ _ _) _ _ _ = _; rw [upd_ne _ _ (by omega), upd_same]
      have hyl : Vr E2 ((w.alloc (.deferred (some []))).alloc (.loop { state := .ready, pending := none, fn, tmps := a.tmps, params := ps, assign := asg, body := bd, defers := w.heap.size })) (.yl (s.h.nx + 1)) (.func (.yield (w.heap.size + 1)) #[] #[]) := .yl _ _ ((hU2 _).2 (.inr rfl)) fun _ => by rw [hμ1]
      obtain ⟨hok, d, us, hd1, hd2, hus⟩ := callE_run ((hX.sr.opd g).step (s1.trans s2)) (.cons hyl .nil) hc
      have hres : ∀ w', (Deferred.ofValue (a.eval g) #[.func (.yield (w.heap.size + 1)) #[] #[]]).run P w' = .ok d w' → (resolve a.eval (rangeCall g (w.heap.size + 1)) 0).run P w' = .ok d w' := fun w' q => by
        rw [← q]
        simp [resolve]
        rfl
      have hres := hres _ hd1
      obtain ⟨hst, hcl⟩ := hC _ _ _ _ _ hcall
      have hn := hst.nx
      dsimp only at hn
      have hcl := hcl E2 _ us r2 (fun q ob hq => by
        dsimp only at hq
        rw [Tr.get_set20 hb] at hq
        rw [hH2]
        by_cases q1 : q = s.h.nx + 1
        · subst q1; rw [if_pos rfl] at hq; rw [upd_same]; exact hq
        · rw [if_neg q1, Tr.get_set20 (by omega)] at hq
          rw [upd_ne _ _ q1]
          by_cases q2 : q = s.h.nx
          · subst q2; rw [if_pos rfl] at hq; rw [upd_same]; exact hq
          · rw [if_neg q2] at hq; rw [upd_ne _ _ q2]; exact hX.H q ob hq) (fun q hq => by
        show q < s.h.nx + 2
        rcases (hU2 q).1 hq with (z | z) | z
        · have := hX.fr q z; omega
        · omega
        · omega) hus
      unfold CallsY at hcl
      rw [if_neg (funcOk_yld hok)] at hcl
      refine ⟨w.heap.size + 1, [{ target := .collected w.heap.size, args := #[] }], _, d, _, f, us.toArray, _, run_enterLoop_outer fn a.tmps ps asg bd, hres, fun _ _ => trivial, hd2, fun q => (by cases q), callsFF.2 (hcl.mono ?_)⟩
      rintro en w3 ⟨v3, E3, rfl, hv3, hR3, hS3, hH3, hU3, hF3⟩
      have hg3 := hH3 _ _ hg
      obtain ⟨ob3, ho3, hob3⟩ := hR3.obj _ _ hg3
      cases ob3 <;> try exact hob3.elim
      rename_i rc
      obtain ⟨_, ⟨hst3, hpe3⟩, _⟩ := hob3
      have hμ3 : (E3.μ (s.h.nx + 1)).1 = w.heap.size + 1 := by rw [hS3.same _ ((hU2 _).2 (.inr rfl)), hμ1]
      have hl3 : w3.heap[w.heap.size + 1]? = some (.loop rc) := by rw [← hμ3]; exact ho3
      have hend := run_endLoop (P := P) hl3 (by rw [hst3]; decide)
      rw [hpe3] at hend
      obtain ⟨r4, s4⟩ := hR3.killw hg3 (w' := w3.putObj (w.heap.size + 1) (.loop { rc with state := .exhausted, pending := none })) (by
        rw [hμ3]
        exact ⟨rfl, rfl, rfl, by simp [World.putObj], fun k hk => by rw [World.putObj_heap_other hk]⟩)
      refine ⟨none, _, hend, .normal, E3.kill (s.h.nx + 1), ⟨⟨r4, hX.sr.size, fun t => (((hX.sr.tmp t).step (s1.trans s2)).step hS3).step s4, ?_⟩, fun q ob hq => ?_, fun q hq => ?_⟩, ⟨r4, ((s1.trans s2).trans hS3).trans s4, fun q ob hq => ?_, fun q hq => ?_, fun q hq e => ?_⟩⟩
      · refine ⟨by simp [hX.sr.dfr.len], fun j x d hx hd => ?_⟩
        match j with
        | 0 =>
          cases hx; cases hd
          unfold DfrR
          rw [if_pos rfl]
          refine ⟨_, _, rfl, ((Vr.yl (E := E2) _ _ ((hU2 _).2 (.inl (.inr rfl))) fun _ => by rw [hμ0]).step hS3).step s4, rfl⟩
        | j + 1 => exact ((hX.sr.dfr.at_ j x d (by simpa using hx) (by simpa using hd)).step (s1.trans s2)).step hS3 |>.step s4
      all_goals have hkH : ∀ q, q ≠ s.h.nx + 1 → (E3.kill (s.h.nx + 1)).H q = E3.H q := fun q hq => upd_ne _ _ hq
      · have hq : (h2.H.set 20 (s.h.nx + 1) none).get q = some ob := hq
        rw [Tr.get_set20 hb] at hq
        split at hq
        · cases hq
        · rename_i hne; rw [hkH q hne]; exact hH3 q ob hq
      · show q < h2.nx
        rcases hU3 q hq with z | z
        · rcases (hU2 q).1 z with (z | z) | z
          · have := hX.fr q z; omega
          · omega
          · omega
        · exact z.2
      · have hq : (h2.H.set 20 (s.h.nx + 1) none).get q = some ob := hq
        rw [Tr.get_set20 hb] at hq
        split at hq
        · cases hq
        · rename_i hne; rw [hkH q hne]; exact hH3 q ob hq
      · show E.U q ∨ (s.h.nx ≤ q ∧ q < h2.nx)
        rcases hU3 q hq with z | z
        · rcases (hU2 q).1 z with (z | z) | z
          · exact .inl z
          · exact .inr (by omega)
          · exact .inr (by omega)
        · have z1 : s.h.nx + 2 ≤ q := z.1
          exact .inr ⟨by omega, z.2⟩
      · have hlt := hX.fr q hq
        rw [hkH q (by omega), hF3 q ((hU2 q).2 (.inl (.inl hq))) (by
          show ((s.h.H.set 20 s.h.nx (some Ob.defd)).set 20 (s.h.nx + 1) (some (Ob.loop (slotsX s.T N) ps.toList asg bd false))).get q = none
          rw [Tr.get_set20 hb, if_neg (by omega), Tr.get_set20 (by omega), if_neg (by omega)]; exact e), hH2, upd_ne _ _ (by omega), upd_ne _ _ (by omega)]
    | _ => simp [exeX] at e
end
end Hm
end Go.Proofs.YtcccaomnehdlbaaDoor
