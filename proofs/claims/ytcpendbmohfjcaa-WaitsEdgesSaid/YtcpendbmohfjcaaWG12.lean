/-
  Part 12 of a proof: WaK, WaL, WaM, WaN, WaO, WbB, WbC, WbD, NdA.
-/
import Derived.StillTailTactics
import Derived.IntWalk
import Derived.Test.YtcpendbmohfjcaaWG11
namespace Go.Proofs.Ytcpendbmohfjcaa
attribute [local go_sem] ev0 ev1 ev2 ev3 ev4 evA stHOk.eq_1 stHOk.eq_2 stHSt.eq_1 stHSt.eq_2 okV valV fzV okF valF okBld valBld mxOk.eq_1 mxOk.eq_2 mxVal.eq_1 mxVal.eq_2 cellFit.eq_1 cellFit.eq_2 cellFit.eq_3 cellEq.eq_1 cellEq.eq_2 cellEq.eq_3 upd_at AV.flatB AV.flatBs binIok binIV binSok binSV cellsOk.eq_1 cellsOk.eq_2 cellsVal.eq_1 cellsVal.eq_2 objCells.eq_1 objCells.eq_2 objZ.eq_1 objZ.eq_2 objProt.eq_1 objProt.eq_2 oneObj ptrOk.eq_1 ptrOk.eq_2 ptrOk.eq_3 ptrCells.eq_1 ptrCells.eq_2 ptrCells.eq_3 lenOk.eq_1 lenOk.eq_2 lenOk.eq_3 lenOk.eq_4 lenVal.eq_1 lenVal.eq_2 lenVal.eq_3 lenVal.eq_4 faOk.eq_1 faOk.eq_2 faOk.eq_3 faVal.eq_1 faVal.eq_2 faVal.eq_3 iaOk.eq_1 iaOk.eq_2 iaOk.eq_3 iaVal.eq_1 iaVal.eq_2 iaVal.eq_3 slcLen.eq_1 slcLen.eq_2 slcLen.eq_3 slcLen.eq_4 bdOk.eq_1 bdOk.eq_2 bdVal.eq_1 bdVal.eq_2 slcOk.eq_1 slcOk.eq_2 slcOk.eq_3 slcOk.eq_4 slcOk.eq_5 slcKV.eq_1 slcKV.eq_2 slcKV.eq_3 slcVal.eq_1 slcVal.eq_2 slcVal.eq_3 slcVal.eq_4 slcFz.eq_1 slcFz.eq_2 loK.eq_1 loK.eq_2 loK.eq_3 rsVal.eq_1 rsVal.eq_2 rsVal.eq_3 byOk.eq_1 byOk.eq_2 byOk.eq_3 byOk.eq_4 byOk.eq_5 byOk.eq_6 byOk.eq_7 byOk.eq_8 byVal.eq_1 byVal.eq_2 byVal.eq_3 byFz.eq_1 byFz.eq_2 byFz.eq_3 byOks byVals byFzs allOne resSt.eq_1 resSt.eq_2 resName.eq_1 resName.eq_2 stOk.eq_1 stOk.eq_2 stArr.eq_1 stArr.eq_2 stSt.eq_1 stSt.eq_2 AV.patch nameOk_none gB.eq_1 gB.eq_2 gB.eq_3 gIs.eq_1 gIs.eq_2 gIs.eq_3 retV resV resVs evalV cellsV St.byval List.getD_cons_zero List.getD_cons_succ List.getD_nil List.map_cons List.map_nil List.length_cons List.length_nil List.take_succ_cons List.take_zero List.drop_succ_cons List.drop_zero List.headD_cons List.set_cons_zero List.append_nil List.nil_append List.cons_append List.contains_cons List.contains_nil List.elem_cons List.elem_nil List.all_cons List.all_nil List.getElem?_cons_zero List.getElem?_cons_succ List.filterMap_cons List.filterMap_nil Option.isSome_some Option.isSome_none Option.map_some Option.map_none Option.some.injEq AV.int.injEq AV.bool.injEq AV.str.injEq AV.tup.injEq AV.agg.injEq AV.sl.injEq List.cons.injEq Bool.false_eq_true Bool.true_eq_false Bool.not_true Bool.not_false Bool.and_true Bool.true_and Bool.or_false Bool.or_true Bool.false_or Bool.true_or Bool.or_self Bool.and_self Bool.not_eq_true' Bool.not_eq_false' Bool.not_not beq_self_eq_true true_and and_true false_and and_false and_self not_true_eq_false not_false_eq_true forall_const true_implies false_implies implies_true imp_self Nat.lt_add_one Nat.le_refl Nat.zero_le Nat.add_zero Nat.zero_add decide_true decide_false decide_eq_true_eq decide_eq_false_iff_not exists_eq_left exists_eq_left' ge_iff_le gt_iff_lt ite_branch ite_branch' nilOk.eq_1 nilOk.eq_2 nilMay.eq_1 nilMay.eq_2 AV.isSl.eq_1 objTy'.eq_1 objTy'.eq_2 apSt.eq_1 apArr.eq_1 apArr.eq_2 apTwo.eq_1 apTwo.eq_2 apSt2.eq_1 apArr2.eq_1 apArr2.eq_2 slOf.eq_1 fitsV List.mem_cons List.not_mem_nil Bool.false_and Bool.and_false primOk.eq_1 primOk.eq_2 primOk.eq_3 primOk.eq_4 primOk.eq_5 primVal.eq_1 primVal.eq_2 primVal.eq_3 primVal.eq_4 primVal.eq_5 mOk.eq_1 mOk.eq_2 mVal.eq_1 mVal.eq_2 mFz.eq_1 mFz.eq_2 mOks mVals mFzs mCalOk.eq_1 mCalOk.eq_2 mFn.eq_1 mFn.eq_2 mArgs.eq_1 mArgs.eq_2 ckOk.eq_1 ckOk.eq_2 cloOk.eq_1 ptrAt.eq_1 sh.eq_1 sh.eq_2 sh.eq_3 sh.eq_4 sh.eq_5 sh.eq_6 retM shH_small evM entOk.eq_1 entOk.eq_2 ents.eq_1 ents.eq_2 kI.eq_1 mpOk.eq_1 mpR.eq_1 lkV.eq_1 lkV.eq_2 remp.eq_2 evP pvOk.eq_1 pvOk.eq_2 pvVal.eq_1 pvVal.eq_2 plOk.eq_1 plOk.eq_2 plOk.eq_3 plV.eq_1 plV.eq_2 plF.eq_1 plF.eq_2 plVal.eq_1 plVal.eq_2 plFz.eq_1 plFz.eq_2 lpOk.eq_1 lpOk.eq_2 lpVal.eq_1 lpVal.eq_2 lpFz.eq_1 lpFz.eq_2 stpOk.eq_1 stpOk.eq_2 stpSt.eq_1 stpSt.eq_2 stpArr.eq_1 keepS.eq_1 keepS.eq_2 evCl
section
/-
  Where one comes to; who waits for themselves: the code whole.
-/
open Go.RowKit Go.MapKept
set_option linter.unusedVariables false
set_option linter.unusedSimpArgs false
set_option maxRecDepth 100000
attribute [local go_sem ↓] runOp headOp
/-! ### percolate/waits.Stuck$1 -/
def r_stu1_0 : Reg := ⟨[], [⟨(.mv (.c (.bool false))), (some 3), none, [], []⟩], [], [], false⟩
def r_stu1_1 : List XOp := [(.op [] ⟨(.load 1 false (.t 1)), (some 4), none, [], []⟩), (.op [] ⟨(.mv (.t 0)), (some 5), none, [], []⟩), (.op [6] ⟨(.callv (.c (.clo 23 [] [])) [(.t 4), (.t 5)]), (some 6), none, [], []⟩), (.op [] ⟨(.mv (.t 0)), (some 7), none, [], []⟩), (.mlook 8 false (.t 6) (.t 7) (.bool false) none), (.op [] ⟨(.un .not (.t 8)), (some 9), none, [], []⟩), (.op [] ⟨(.mv (.t 9)), (some 3), none, [], []⟩)]
def ir_stu1 (P : Program) : IR := (.seq (.reg r_stu1_0)
  (.seq (.regx P r_stu1_1)
  .ret))
def res_stu1 : List RDesc := [(.tmp 3)]
theorem e_stu1_0 (C : FuncId → List AV → AV → Prop) (σ : St) (K : St → Prop) : runReg C r_stu1_0 σ K = runOps C [⟨(.mv (.c (.bool false))), (some 3), none, [], []⟩] (σ.kills []) K := rfl
theorem fn_stu1 {args : List AV} {r : AV} (ha : args.length.ble Try.f22.ntmps = true) (h : run (AFn Try.prog) (ir_stu1 Try.prog) (endQ res_stu1 r) (initSt args)) : AFn Try.prog 22 args r :=
  AFn.of_code (pv := false) (hint := fun _ => []) (c := Try.f22.body.getD .skip) (by kernel_rfl) (by kernel_rfl) Try.func22 (by kernel_rfl) (by kernel_rfl) (by kernel_rfl) (of_decide_eq_true (by kernel_rfl)) (Nat.le_of_ble_eq_true ha) (Nat.le_of_ble_eq_true (by kernel_rfl)) (run_ok h)
attribute [local go_sem ↓] ir_stu1
attribute [local go_sem] res_stu1 e_stu1_0 r_stu1_1
theorem stu1_ok (l : List Edge) (hl : l.length ≤ 400000) (n : Int) : AFn Try.prog 22 [.int .i64 n, .rp [.mv (avE (grL l))]] (.bool (!decide (n ∈ seenL l n))) := by
  refine fn_stu1 rfl ?_
  have c := rch_ok l n hl
  have hsk : lkV false (.bool false) (lkp (seenE (seenL l n)) n) = .bool (decide (n ∈ seenL l n)) := seen_look
  (repeat (first | simp (maxSteps := 4000000) only [go_sem, ↓reduceIte, reduceCtorEq, Nat.reduceEqDiff, Nat.reduceBEq, Nat.reduceAdd, Nat.reduceSub, Nat.reduceMul, Nat.reduceLT, Nat.reduceLeDiff, Nat.reduceBNe, Int.reduceBEq, Int.reduceBNe, Int.reduceLT, Int.reduceLE, hsk] | refine calling (c) ?_ | refine callingH (c) ?_ | refine And.intro (by omega) ?_ | refine And.intro (fun d hd => by (repeat (rcases hd with rfl | hd; · exact ⟨rfl, rfl⟩)); cases hd) ?_))
def wideP (w : World) : Nat → Nat → Prop := fun b _ => b < w.heap.size
theorem VR.wide {Pr : Nat → Nat → Prop} {w : World} {d : AV} {v : Value} (h : VR Pr w d v) : VR (wideP w) w d v :=
  h.kept ⟨Nat.le_refl _, fun _ _ hb _ => hb, fun _ _ _ _ => rfl, fun _ _ _ _ _ e => e⟩
theorem EdAt.kept {w w' : World} {A : Option Addr} {l : List Edge} (h : EdAt w A l) (hb : Below w.heap.size w w') : EdAt w' A l := fun i e he => by
  obtain ⟨b, off, h1, h2, h3, h4⟩ := h i e he
  exact ⟨b, off, h1, Nat.lt_of_lt_of_le h2 hb.size, (hb.cell (p := ⟨b, _, none⟩) h2).trans h3, (hb.cell (p := ⟨b, _, none⟩) h2).trans h4⟩
theorem mem_seen_out {l : List Edge} {a b : Int} (h : TC l a b) : b ∈ l.map (·.2) := by
  cases h with
  | one h => exact List.mem_map.2 ⟨_, h, rfl⟩
  | step _ h => exact List.mem_map.2 ⟨_, h, rfl⟩
/-- waits.reach, over the model -/
theorem reach_calls (l : List Edge) (a : Int) (hl : l.length ≤ 400000) (hin : ∀ e, e ∈ l → I64 e.2) {W : World} (hG : Glob W) {gm base : Nat} {ms : Array MapEntry} {c : Nat} (hg : Grp W base gm (grL l) ms c) (hs : (seenL l a).length ≤ 1000000) :
    Calls Try.prog 23 #[.map (some gm), .int .i64 a] W fun e w' => ∃ (g : Nat) (D : DataW Unit), e = .returned (.map (some g)) ∧ Below W.heap.size W w' ∧ w'.ownsMap Try.prog 3 R1 g (seenE (seenL l a)).length D ∧ Kys (seenE (seenL l a)) D := by
  have hv : VR (wideP W) W (.mv (avE (grL l))) (.map (some gm)) := VR.wide (hg.out (Pr := fun _ _ => True) fun _ _ _ => trivial)
  have h := (rch_ok l a hl).calls W (wideP W) [.map (some gm), .int .i64 a] hG (fun _ _ h => h) rfl (fun j d v h1 h2 => by
    match j with
    | 0 => cases h1; cases h2; exact hv
    | 1 => cases h1; cases h2; exact .int _ _
    | j + 2 => simp at h1)
  refine h.mono ?_
  rintro e w' ⟨v, rfl, hB, hR⟩
  cases hR with
  | mv _ g ms c hg hp hb hl2 hst hk hv2 =>
    obtain ⟨D, h1, h2⟩ := own_map hb hst hl2 hk (fun n hn => by
      have e1 : (seenE (seenL l a)).map (·.1) = seenL l a := by simp [seenE, List.map_map, Function.comp_def]
      rw [e1, mem_seenL] at hn
      obtain ⟨e, he, rfl⟩ := List.mem_map.1 (mem_seen_out hn)
      exact hin e he) (by unfold seenE; rw [List.length_map]; exact hs)
    exact ⟨g, D, rfl, hB, h1, h2⟩
theorem seenL_len {l : List Edge} {a : Int} (hn : (seenL l a).Nodup) : (seenL l a).length ≤ l.length := by
  have := sub_len hn (b := l.map (·.2)) fun b hb => mem_seen_out (mem_seenL.1 hb)
  rwa [List.length_map] at this
theorem seenL_nodup {l : List Edge} {a : Int} : (seenL l a).Nodup := by
  have key : ∀ (j : Nat) (seen todo : List Int), Dfs l a seen todo → dfsM l seen todo < j → (dfsF l j seen todo).Nodup := by
    intro j
    induction j with
    | zero => intro seen todo _ h; exact absurd h (Nat.not_lt_zero _)
    | succ j ih =>
      intro seen todo hD hj
      rcases List.eq_nil_or_concat todo with e | ⟨t, n, e⟩
      · subst e
        rw [dfsF_nil]
        exact hD.nodup
      · rw [List.concat_eq_append] at e
        subst e
        by_cases hn : n ∈ seen
        · have hs := dfs_skip (l := l) (n := n) (seen := seen) (t := t)
          rw [dfsF_skip hn]
          exact ih _ _ (hD.skip hn) (by omega)
        · have hs := dfs_less (l := l) (t := t) hn
          rw [dfsF_mark hn]
          exact ih _ _ (hD.mark hn) (by omega)
  exact key _ _ _ (Dfs.start l a) (Nat.lt_succ_self _)
theorem sortedA_at {w : World} {g : Nat} {es : List (Int × AV)} {D : DataW Unit} (ho : w.ownsMap Try.prog 3 R1 g es.length D) (hk : Kys es D) {s : List Int} (hs : s.length ≤ 1000000) (he : es = seenE s := by rfl) :
    Calls Try.prog 20 #[.func (.func 33) #[] #[.pointer (some ⟨w.heap.size, 0, none⟩)]] (w.alloc (.cells #[.map (some g)] 49)) fun e w' => ∃ (v : Value) (r : List Int), e = .returned v ∧ Rise r ∧ (∀ x, x ∈ r ↔ x ∈ es.map (·.1)) ∧
      w'.ownsRow (w.alloc (.cells #[.map (some g)] 49)).heap.size 3 1 v r.length (r.map (Value.int .i64)) ∧ Below (w.alloc (.cells #[.map (some g)] 49)).heap.size (w.alloc (.cells #[.map (some g)] 49)) w' :=
  sorted_keysA (by simp) (by rw [cell_row (heap_alloc w _).1]; rfl) (ho.alloc _) hk (by rw [he]; unfold seenE; rw [List.length_map]; exact hs)
theorem sortedB_at {w : World} {g : Nat} {es : List (Int × AV)} {D : DataW Unit} (ho : w.ownsMap Try.prog 3 R1 g es.length D) (hk : Kys es D) (hs : es.length ≤ 1000000) :
    Calls Try.prog 20 #[.func (.func 31) #[] #[.pointer (some ⟨w.heap.size, 0, none⟩)]] (w.alloc (.cells #[.map (some g)] 42)) fun e w' => ∃ (v : Value) (r : List Int), e = .returned v ∧ Rise r ∧ (∀ x, x ∈ r ↔ x ∈ es.map (·.1)) ∧
      w'.ownsRow (w.alloc (.cells #[.map (some g)] 42)).heap.size 3 1 v r.length (r.map (Value.int .i64)) ∧ Below (w.alloc (.cells #[.map (some g)] 42)).heap.size (w.alloc (.cells #[.map (some g)] 42)) w' :=
  sorted_keysB (by simp) (by rw [cell_row (heap_alloc w _).1]; rfl) (ho.alloc _) hk hs
set_option maxHeartbeats 4000000 in
theorem Reach_any (l : List Edge) (a : Int) (hl : l.length ≤ 400000) (hin : ∀ e, e ∈ l → I64 e.2) (A : Option Addr) (cap : Nat) (w : World) (hG : Glob w) (hE : EdAt w A l) :
    Calls Try.prog 12 #[.slice A l.length cap, .int .i64 a] w fun e w' => ∃ v, e = .returned v ∧ Below w.heap.size w w' ∧ w'.ownsRow w.heap.size 3 1 v (reachL l a).length ((reachL l a).map (Value.int .i64)) := by
  have hs : (seenL l a).length ≤ 1000000 := by have := seenL_len (l := l) (a := a) seenL_nodup; omega
  have cG : ∀ W : World, W.heap = w.heap → Calls Try.prog 18 #[.slice A l.length cap] W fun e w' => ∃ ms c, e = .returned (.map (some w.heap.size)) ∧ Below w.heap.size W w' ∧ Grp w' (w.heap.size + 1) w.heap.size (grL l) ms c := fun W hW => by
    rw [← hW]
    exact graph_any l (by omega) A cap W fun i e he => by
      obtain ⟨b, off, h1, h2, h3, h4⟩ := hE i e he
      exact ⟨b, off, h1, by rw [hW]; exact h2, by rw [← h3]; unfold World.cell?; rw [hW], by rw [← h4]; unfold World.cell?; rw [hW]⟩
  go_enter Try.func12, Try.ntmps12
  go_wp2_with (first
    | (go_at_call 18; refine (cG _ rfl).mono ?_; rintro e w1 ⟨ms, c, rfl, hB1, hGr⟩)
    | (go_at_call 23; refine (reach_calls l a hl hin (Glob.below hG hB1) hGr hs).mono ?_; rintro e w2 ⟨g, D, rfl, hB2, hO, hK⟩)
    | (go_at_call 24; refine (keysA_ok _ _).mono ?_; rintro e w3 ⟨rfl, rfl⟩)
    | (go_at_call 20; refine (sortedA_at hO hK hs).mono ?_; rintro e w4 ⟨v, r, rfl, hri, hmem, hrow, hB4⟩))
  go_ret
  have e1 : (seenE (seenL l a)).map (·.1) = seenL l a := by simp [seenE, List.map_map, Function.comp_def]
  obtain rfl : r = reachL l a := reach_unique hri fun b => by rw [hmem b, e1]; exact mem_seenL
  have hB : Below w.heap.size w w4 := hB1.trans ((hB2.mono hB1.size).trans (((Below.refl _ w2).alloc (Nat.le_refl _) _).mono (Nat.le_trans hB1.size hB2.size) |>.trans (hB4.mono (by simp; exact Nat.le_trans hB1.size (Nat.le_trans hB2.size (by omega))))))
  exact ⟨v, rfl, hB, ownsRow_base_a hrow (by simp; exact Nat.le_trans hB1.size (Nat.le_trans hB2.size (by omega)))⟩
end
section
/-
  Who waits for themselves: the code whole.
-/
open Go.RowKit Go.MapKept
set_option linter.unusedVariables false
set_option linter.unusedSimpArgs false
set_option maxRecDepth 100000
/-- slices.DeleteFunc at a row that the call has made -/
theorem del_calls (s : Tst) (hs0 : s.ok) {w0 W : World} {base : Nat} (hb : base ≤ w0.heap.size) (hG : Glob w0) (hW : Below w0.heap.size w0 W) {v c : Value} {r : List Int} (hr : r.length ≤ 1000000)
    (hrow : W.ownsRow w0.heap.size 3 1 v r.length (r.map (Value.int .i64))) (hc : VR (fun b _ => base ≤ b) w0 (clI s) c) :
    Calls Try.prog 19 #[v, c] W fun e w' => ∃ v', e = .returned v' ∧ Below w0.heap.size w0 w' ∧ VR (fun b _ => base ≤ b) w' (.sl ((keepF s r).map (AV.int .i64))) v' := by
  obtain ⟨μ, hμ⟩ : ∃ μ : Nat → Option Nat, μ = fun k => if k = 0 then v.ownBlock else none := ⟨_, rfl⟩
  obtain ⟨H, hH⟩ : ∃ H : Nat → Option Arr, H = fun k => if k = 0 then ObjI r else none := ⟨_, rfl⟩
  have hμs : ∀ k g, μ k = some g → k = 0 ∧ v.ownBlock = some g ∧ w0.heap.size ≤ g ∧ g < W.heap.size := fun k g h => by
    subst hμ
    dsimp only at h
    by_cases hk : k = 0
    · rw [if_pos hk] at h
      refine ⟨hk, h, ?_⟩
      rcases hrow.2 with ⟨q1, _⟩ | ⟨g', cap, cur, q1, q2, q3, _⟩
      · rw [q1] at h; cases h
      · rw [q1] at h
        cases h
        exact ⟨q2, block_lt q3⟩
    · rw [if_neg hk] at h; cases h
  have kept : Kept (fun b _ => base ≤ b) (PrOf ⟨w0, fun _ _ => False⟩ (fun b _ => base ≤ b) μ H) w0 W :=
    ⟨hW.size, fun b o hb2 hp => ⟨fun _ => hp, fun k hk => by have := (hμs k b hk).2.2.1; omega⟩, fun b o h _ => hW.cell (p := ⟨b, o, none⟩) h, fun b ms c h _ e => by rw [hW.block b h]; exact e⟩
  have hSR : SR ⟨w0, fun _ _ => False⟩ (fun b _ => base ≤ b) 0 μ ⟨fun _ => .und, H⟩ ⟨#[], []⟩ W := by
    refine ⟨hW, fun a b g h1 h2 => by rw [(hμs a g h1).1, (hμs b g h2).1], fun a g h => (hμs a g h).2.2, fun a g h => ?_, rfl, fun t => trivial, fun a arr h => ?_, rfl, hG, by omega, fun d v h => h.elim⟩
    · have := (hμs a g h).1
      subst hH; subst this; rfl
    · subst hH
      dsimp only at h
      by_cases ha : a = 0
      · rw [if_pos ha] at h
        subst ha
        unfold ObjI at h
        cases h
        refine ⟨Nat.zero_lt_one, Nat.zero_le _, fun d hd => ?_, ?_⟩
        · obtain ⟨x, _, rfl⟩ := List.mem_map.1 hd
          exact ⟨rfl, fun c hc => by
            have : c = .int .i64 x := by simpa [AV.cells] using hc
            subst this; rfl⟩
        · subst hμ
          dsimp only
          rw [if_pos rfl]
          rcases hrow.2 with ⟨q1, q2⟩ | ⟨g, cap, cur, q1, q2, q3, q4, q5, q6, q7⟩
          · have : r = [] := List.length_eq_zero_iff.1 q2
            rw [q1, this]; rfl
          · rw [q1]
            refine .inr ⟨cur, q3, by rw [List.length_map]; omega, fun i d j c hi hj => ?_⟩
            rw [List.getElem?_map] at hi
            obtain ⟨x, hx, rfl⟩ := Option.map_eq_some_iff.1 hi
            have hi' := (List.getElem?_eq_some_iff.1 hx).1
            match j, hj with
            | 0, hj =>
              cases hj
              have h1 : (cur.toList.take (r.length * 1))[i]? = (r.map (Value.int .i64))[i]? := by rw [q7]
              rw [List.getElem?_take, if_pos (by omega), Array.getElem?_toList, List.getElem?_map, hx] at h1
              exact ⟨_, by rw [show i * 1 + 0 = i by omega]; exact h1, .int _ _⟩
      · rw [if_neg ha] at h; cases h
  obtain ⟨H', hM⟩ := dI_ok s hs0 H 0 r hr (by rw [hH]; rfl)
  refine (hM.calls ⟨w0, fun _ _ => False⟩ _ 0 μ (fun _ => .und) ⟨#[], []⟩ W [v, c] hSR rfl fun j d u h1 h2 => ?_).mono ?_
  · match j with
    | 0 =>
      cases h1; cases h2
      intro arr ha
      have ha' : arr = ⟨1, 3, r.map (AV.int .i64), 0⟩ := by
        subst hH
        dsimp only at ha
        rw [if_pos rfl] at ha
        unfold ObjI at ha
        cases ha; rfl
      subst ha'
      rcases hrow.2 with ⟨q1, q2⟩ | ⟨g, cap, cur, q1, q2, q3, q4, q5, q6, q7⟩
      · exact .inl ⟨by subst hμ; dsimp only; rw [if_pos rfl, q1]; rfl, q1, rfl, q2⟩
      · exact .inr ⟨g, cap, cur, by subst hμ; dsimp only; rw [if_pos rfl, q1]; rfl, .inl (by rw [q1]; simp), q3, by simpa using q6.symm, by simp, q4, q5⟩
    | 1 =>
      cases h1; cases h2
      exact hc.kept kept
    | j + 2 => simp at h1
  · rintro e w' ⟨v', μ', rfl, hS, hV⟩
    refine ⟨v', rfl, hS.below, hV.kept ⟨Nat.le_refl _, fun b o _ hp => ?_, fun _ _ _ _ => rfl, fun _ _ _ _ _ e => e⟩⟩
    by_cases h : b < w0.heap.size
    · exact hp.1 h
    · omega
def stuT (l : List Edge) : Tst := ⟨22, [.rp [.mv (avE (grL l))]], fun n => !decide (n ∈ seenL l n)⟩
theorem stuT_ok (l : List Edge) (hl : l.length ≤ 400000) : (stuT l).ok := ⟨fun n => stu1_ok l hl n⟩
theorem keep_stuck {l : List Edge} {r : List Int} (hr : Rise r) (hm : ∀ x, x ∈ r ↔ x ∈ (avE (grL l)).map (·.1)) : keepF (stuT l) r = stuckL l := by
  refine stuck_unique (List.Pairwise.filter _ hr) fun n => ?_
  unfold keepF
  rw [List.mem_filter, hm n, keys_avE, (grL_ok l).keys]
  have : (stuT l).has n = !decide (n ∈ seenL l n) := rfl
  rw [this, Bool.not_not, decide_eq_true_eq, mem_seenL]
theorem grL_len (l : List Edge) : (grL l).length ≤ l.length := by
  have := sub_len (grL_ok l).nodup (b := l.map (·.1)) fun b hb => ((grL_ok l).keys b).1 hb
  rwa [List.length_map, List.length_map] at this
theorem grp_own {w : World} {base gm : Nat} {l : List Edge} {ms : Array MapEntry} {c : Nat} (hG : Grp w base gm (grL l) ms c) (hin : ∀ e, e ∈ l → I64 e.1) (hl : l.length ≤ 1000000) :
    ∃ D, w.ownsMap Try.prog 3 R1 gm (avE (grL l)).length D ∧ Kys (avE (grL l)) D := by
  have hlen : (avE (grL l)).length = (grL l).length := by simp [avE]
  have hg := grL_len l
  refine own_map hG.map hG.st (by rw [hlen]; exact hG.len) (fun i e m he hm => ?_) (fun n hn => ?_) (by omega)
  · simp only [avE, List.getElem?_map] at he
    obtain ⟨e', h3, rfl⟩ := Option.map_eq_some_iff.1 he
    exact hG.key i e' m h3 hm
  · rw [keys_avE, (grL_ok l).keys] at hn
    obtain ⟨e, he, rfl⟩ := List.mem_map.1 hn
    exact hin e he
abbrev w2Of (w1 : World) (gm : Nat) : World := w1.alloc (.cells #[.map (some gm)] 42)
abbrev w3Of (w1 : World) (gm : Nat) : World := (w2Of w1 gm).alloc (.cells #[.map (some gm)] 42)
theorem sortedG_at {w1 : World} {base gm : Nat} {l : List Edge} {ms : Array MapEntry} {c : Nat} (hG : Grp w1 base gm (grL l) ms c) (hin : ∀ e, e ∈ l → I64 e.1) (hl : l.length ≤ 400000) :
    Calls Try.prog 20 #[.func (.func 31) #[] #[.pointer (some ⟨w1.heap.size + 1, 0, none⟩)]] (w3Of w1 gm) fun e w' => ∃ (v : Value) (r : List Int), e = .returned v ∧ Rise r ∧ (∀ x, x ∈ r ↔ x ∈ (avE (grL l)).map (·.1)) ∧
      w'.ownsRow (w3Of w1 gm).heap.size 3 1 v r.length (r.map (Value.int .i64)) ∧ Below (w3Of w1 gm).heap.size (w3Of w1 gm) w' := by
  obtain ⟨D, h1, h2⟩ := grp_own (hG.alloc (.cells #[.map (some gm)] 42)) hin (by omega)
  rw [show w1.heap.size + 1 = (w2Of w1 gm).heap.size from by simp]
  exact sortedB_at h1 h2 (by have := grL_len l; simp [avE]; omega)
theorem delG_at {w w1 w4 : World} {base : Nat} {l : List Edge} {ms : Array MapEntry} {c : Nat} (hg : Glob w) (hbase : w.heap.size = base) (hB1 : Below base w w1) (hG : Grp w1 (base + 1) base (grL l) ms c) (hl : l.length ≤ 400000) {v : Value} {r : List Int} (hr : Rise r)
    (hm : ∀ x, x ∈ r ↔ x ∈ (avE (grL l)).map (·.1)) (hrow : w4.ownsRow (w3Of w1 base).heap.size 3 1 v r.length (r.map (Value.int .i64))) (hB : Below (w3Of w1 base).heap.size (w3Of w1 base) w4) :
    Calls Try.prog 19 #[v, .func (.func 22) #[] #[.pointer (some ⟨w1.heap.size, 0, none⟩)]] w4 fun e w' => ∃ v', e = .returned v' ∧ Below base w w' ∧ VR (fun b _ => base ≤ b) w' (.sl ((stuckL l).map (AV.int .i64))) v' := by
  have hs1 : base ≤ w1.heap.size := Nat.le_trans (Nat.le_of_eq hbase.symm) hB1.size
  have hs3 : (w3Of w1 base).heap.size = w1.heap.size + 2 := by unfold w3Of w2Of; simp
  have hB3 : Below base w (w3Of w1 base) := (hB1.alloc hs1 _).alloc (by simp; omega) _
  have hG3 : Grp (w3Of w1 base) (base + 1) base (grL l) ms c := (hG.alloc _).alloc _
  have hrl : r.length ≤ 1000000 := by
    have h1 : r.Nodup := hr.imp fun h => by omega
    have := sub_len h1 fun b hb => (hm b).1 hb
    rw [List.length_map] at this
    have := grL_len l
    simp [avE] at *
    omega
  have hcell : (w3Of w1 base).cell? ⟨w1.heap.size, 0, none⟩ = some (.map (some base)) := by
    unfold w3Of
    rw [cell_row ((Below.heap_alloc (w2Of w1 base) _ w1.heap.size (by unfold w2Of; simp)).trans (heap_alloc w1 _).1)]
    rfl
  have hc : VR (fun b _ => base ≤ b) (w3Of w1 base) (clI (stuT l)) (.func (.func 22) #[] #[.pointer (some ⟨w1.heap.size, 0, none⟩)]) := by
    refine .clo _ [] [.rp [.mv (avE (grL l))]] [] [.pointer (some ⟨w1.heap.size, 0, none⟩)] rfl rfl (fun j c v h => by simp at h) (fun j c v h1 h2 => ?_)
    match j with
    | 0 =>
      cases h1; cases h2
      refine .rp _ _ _ (fun _ => .map (some base)) (by omega) (fun j hj => ?_) (fun j c h => ?_)
      · have : j = 0 := by simp at hj; omega
        subst this
        exact ⟨hs1, hcell⟩
      · match j with
        | 0 => cases h; exact hG3.out fun b o h => h
        | j + 1 => simp at h
    | j + 1 => simp at h1
  have h := del_calls (stuT l) (stuT_ok l hl) (by omega : base ≤ (w3Of w1 base).heap.size) (Glob.below hg (by rw [hbase]; exact hB3)) hB hrl hrow hc
  rw [keep_stuck hr hm] at h
  refine h.mono ?_
  rintro e w' ⟨v', rfl, hB', hV⟩
  exact ⟨v', rfl, hB3.trans (hB'.mono (by omega)), hV⟩
set_option maxHeartbeats 4000000 in
theorem Stuck_any (l : List Edge) (hl : l.length ≤ 400000) (hin : ∀ e, e ∈ l → I64 e.1) (A : Option Addr) (cap : Nat) (w : World) (hG : Glob w) (hE : EdAt w A l) :
    Calls Try.prog 11 #[.slice A l.length cap] w fun e w' => ∃ v, e = .returned v ∧ Below w.heap.size w w' ∧ VR (fun b _ => w.heap.size ≤ b) w' (.sl ((stuckL l).map (AV.int .i64))) v := by
  have cG : ∀ W : World, W.heap = w.heap → Calls Try.prog 18 #[.slice A l.length cap] W fun e w' => ∃ ms c, e = .returned (.map (some w.heap.size)) ∧ Below w.heap.size W w' ∧ Grp w' (w.heap.size + 1) w.heap.size (grL l) ms c := fun W hW => by
    rw [← hW]
    exact graph_any l (by omega) A cap W fun i e he => by
      obtain ⟨b, off, h1, h2, h3, h4⟩ := hE i e he
      exact ⟨b, off, h1, by rw [hW]; exact h2, by rw [← h3]; unfold World.cell?; rw [hW], by rw [← h4]; unfold World.cell?; rw [hW]⟩
  have hlen : (avE (grL l)).length ≤ 1000000 := by have := grL_len l; simp [avE]; omega
  obtain ⟨base, hbase⟩ : ∃ base, w.heap.size = base := ⟨_, rfl⟩
  rw [hbase] at cG
  go_enter Try.func11, Try.ntmps11
  go_wp2_with (first
    | (go_at_call 18; refine (cG _ rfl).mono ?_; rintro e w1 ⟨ms, c, rfl, hB1, hGr⟩)
    | (go_at_call 21; refine (keysB_ok _ _).mono ?_; rintro e w3 ⟨rfl, rfl⟩)
    | (go_at_call 20; refine (sortedG_at hGr hin hl).mono ?_; rintro e w4 ⟨v, r, rfl, hri, hmem, hrow, hB4⟩)
    | (go_at_call 19; refine (delG_at hG hbase hB1 hGr hl hri hmem hrow hB4).mono ?_; rintro e w5 ⟨v', rfl, hB5, hV⟩))
  go_ret
  exact ⟨v', rfl, by rw [hbase]; exact hB5, by rw [hbase]; exact hV⟩
end
section
/-
  The document's lists of numbers: in, sorted; whether two are one. Walked.
-/
open Go.RowKit
set_option linter.unusedVariables false
set_option linter.unusedSimpArgs false
set_option maxRecDepth 100000
attribute [local go_sem ↓] runOp headOp
/-! ### percolate/percolateref11.Ints -/
def r_wints_0 : Reg := ⟨[], [⟨(.mv (.c (.bool false))), (some 4), none, [], []⟩], [], [], false⟩
def t_wints_1 : List ROp := [⟨(.mv (.t 0)), (some 6), none, [], []⟩, ⟨(.len false (.t 6)), (some 7), none, [], []⟩, ⟨(.mv (.t 1)), (some 8), none, [], []⟩, ⟨(.len false (.t 8)), (some 9), none, [], []⟩, ⟨(.bin .neq (.t 7) (.t 9)), (some 10), none, [], []⟩]
def r_wints_1 : Reg := ⟨[], t_wints_1, [], [], false⟩
def r_wints_2 : Reg := ⟨[], [⟨(.mv (.c (.bool false))), (some 4), none, [], []⟩], [], [], false⟩
def r_wints_3 : Reg := ⟨[], [⟨(.mv (.c (.int .i64 0))), (some 5), none, [], []⟩], [], [], false⟩
def t_wints_4 : List ROp := [⟨(.mv (.t 5)), (some 11), none, [], []⟩, ⟨(.mv (.t 0)), (some 12), none, [], []⟩, ⟨(.len false (.t 12)), (some 13), none, [], []⟩, ⟨(.bin .lss (.t 11) (.t 13)), (some 14), none, [], []⟩]
def r_wints_4 : Reg := ⟨[], t_wints_4, [], [], false⟩
def h_wints_5 : List ROp := [⟨(.mv (.t 0)), (some 17), none, [], []⟩, ⟨(.mv (.t 5)), (some 18), none, [], []⟩, ⟨(.iaddr 1 (.t 17) (.t 18)), (some 19), none, [], []⟩, ⟨(.load 1 false (.t 19)), (some 20), none, [], []⟩, ⟨(.mv (.t 1)), (some 21), none, [], []⟩, ⟨(.mv (.t 5)), (some 22), none, [], []⟩, ⟨(.iaddr 1 (.t 21) (.t 22)), (some 23), none, [], []⟩, ⟨(.load 1 false (.t 23)), (some 24), none, [], []⟩]
def r_wints_5 : Reg := ⟨h_wints_5, [⟨(.bin .neq (.t 20) (.t 24)), (some 25), none, [], []⟩], [], [], true⟩
def r_wints_6 : Reg := ⟨[], [⟨(.mv (.c (.bool false))), (some 4), none, [], []⟩], [], [], false⟩
def t_wints_7 : List ROp := [⟨(.mv (.t 5)), (some 15), none, [], []⟩, ⟨(.bin .add (.t 15) (.c (.int .i64 1))), (some 16), none, [], []⟩, ⟨(.mv (.t 16)), (some 5), none, [], []⟩]
def r_wints_7 : Reg := ⟨[], t_wints_7, [], [], false⟩
def r_wints_l8 : IR := (.seq (.seq (.reg r_wints_4)
  (.cond (.t 14) .skip
  (.exit 0)))
  (.seq (.block 1 (.seq (.reg r_wints_5)
  (.cond (.t 25) (.seq (.reg r_wints_6)
  .ret)
  .skip)))
  (.reg r_wints_7)))
def r_wints_9 : Reg := ⟨[], [⟨(.mv (.c (.bool true))), (some 4), none, [], []⟩], [], [], false⟩
def ir_wints : IR := (.seq (.reg r_wints_0)
  (.seq (.seq (.reg r_wints_1)
  (.cond (.t 10) (.seq (.reg r_wints_2)
  .ret)
  .skip))
  (.seq (.seq (.reg r_wints_3)
  (.block 0 (.loop r_wints_l8)))
  (.seq (.reg r_wints_9)
  .ret))))
def res_wints : List RDesc := [(.tmp 4)]
theorem e_wints_0 (C : FuncId → List AV → AV → Prop) (σ : St) (K : St → Prop) : runReg C r_wints_0 σ K = runOps C [⟨(.mv (.c (.bool false))), (some 4), none, [], []⟩] (σ.kills []) K := rfl
theorem e_wints_1 (C : FuncId → List AV → AV → Prop) (σ : St) (K : St → Prop) : runReg C r_wints_1 σ K = runOps C t_wints_1 (σ.kills []) K := rfl
theorem e_wints_2 (C : FuncId → List AV → AV → Prop) (σ : St) (K : St → Prop) : runReg C r_wints_2 σ K = runOps C [⟨(.mv (.c (.bool false))), (some 4), none, [], []⟩] (σ.kills []) K := rfl
theorem e_wints_3 (C : FuncId → List AV → AV → Prop) (σ : St) (K : St → Prop) : runReg C r_wints_3 σ K = runOps C [⟨(.mv (.c (.int .i64 0))), (some 5), none, [], []⟩] (σ.kills []) K := rfl
theorem e_wints_4 (C : FuncId → List AV → AV → Prop) (σ : St) (K : St → Prop) : runReg C r_wints_4 σ K = runOps C t_wints_4 (σ.kills []) K := rfl
theorem e_wints_5 (C : FuncId → List AV → AV → Prop) (σ : St) (K : St → Prop) : runReg C r_wints_5 σ K = runHead C [] [⟨(.bin .neq (.t 20) (.t 24)), (some 25), none, [], []⟩] h_wints_5 (σ.kills []) K := rfl
theorem e_wints_6 (C : FuncId → List AV → AV → Prop) (σ : St) (K : St → Prop) : runReg C r_wints_6 σ K = runOps C [⟨(.mv (.c (.bool false))), (some 4), none, [], []⟩] (σ.kills []) K := rfl
theorem e_wints_7 (C : FuncId → List AV → AV → Prop) (σ : St) (K : St → Prop) : runReg C r_wints_7 σ K = runOps C t_wints_7 (σ.kills []) K := rfl
theorem e_wints_9 (C : FuncId → List AV → AV → Prop) (σ : St) (K : St → Prop) : runReg C r_wints_9 σ K = runOps C [⟨(.mv (.c (.bool true))), (some 4), none, [], []⟩] (σ.kills []) K := rfl
theorem fn_wints {args : List AV} {r : AV} (ha : args.length.ble Try.f10.ntmps = true) (h : run (AFn Try.prog) ir_wints (endQ res_wints r) (initSt args)) : AFn Try.prog 10 args r :=
  AFn.of_code (pv := false) (hint := fun _ => []) (c := Try.f10.body.getD .skip) (by kernel_rfl) (by kernel_rfl) Try.func10 (by kernel_rfl) (by kernel_rfl) (by kernel_rfl) (of_decide_eq_true (by kernel_rfl)) (Nat.le_of_ble_eq_true ha) (Nat.le_of_ble_eq_true (by kernel_rfl)) (run_ok h)
attribute [local go_sem ↓] ir_wints
attribute [local go_sem] res_wints e_wints_0 e_wints_1 t_wints_1 e_wints_2 e_wints_3 e_wints_4 t_wints_4 e_wints_5 h_wints_5 e_wints_6 e_wints_7 t_wints_7 e_wints_9
theorem getW {α : Type} {l : List α} {j : Nat} (h : j < l.length) : ∃ x, l[j]? = some x := ⟨_, List.getElem?_eq_getElem h⟩
theorem wrapW {j : Nat} (h : j ≤ 1000000000000000) : IntKind.i64.wrap ((j : Int) + 1) = ((j + 1 : Nat) : Int) := by rw [IntWalk.i64_in _ (by omega)]; rfl
theorem takeW {α : Type} {l : List α} {j : Nat} {x : α} (h : l[j]? = some x) : l.take (j + 1) = l.take j ++ [x] := by rw [List.take_add_one, h]; rfl
theorem dropW {α : Type} {l : List α} {j : Nat} {x : α} (h : l[j]? = some x) : l.drop j = x :: l.drop (j + 1) := by
  obtain ⟨hlt, e⟩ := List.getElem?_eq_some_iff.1 h
  rw [List.drop_eq_getElem_cons hlt, e]
/-! ### two lists of numbers -/
def eqW : List Int → List Int → Bool
  | [], [] => true
  | x :: a, y :: b => (x == y) && eqW a b
  | _, _ => false
theorem eqW_self : ∀ l : List Int, eqW l l = true
  | [] => rfl
  | x :: l => by rw [eqW, eqW_self l, beq_self_eq_true]; rfl
theorem eqW_len : ∀ (a b : List Int), a.length ≠ b.length → eqW a b = false
  | [], [], h => absurd rfl h
  | [], y :: b, _ => rfl
  | x :: a, [], _ => rfl
  | x :: a, y :: b, h => by
    rw [eqW, eqW_len a b (fun e => h (by rw [List.length_cons, List.length_cons, e])), Bool.and_false]
def wintsInv (a b : List Int) (R : Bool) (k : Nat) (σ : St) : Prop :=
  ∃ j : Nat, j ≤ a.length ∧ k = a.length - j ∧ σ.T 0 = .sl (a.map (AV.int .i64)) ∧ σ.T 1 = .sl (b.map (AV.int .i64)) ∧ σ.T 5 = .int .i64 j ∧ eqW (a.drop j) (b.drop j) = R
set_option maxHeartbeats 1000000 in
theorem wints_ok (a b : List Int) (ha : a.length ≤ 1000000) (hb : b.length ≤ 1000000) : AFn Try.prog 10 [.sl (a.map (AV.int .i64)), .sl (b.map (AV.int .i64))] (.bool (eqW a b)) := by
  refine fn_wints rfl ?_
  by_cases hl : a.length = b.length
  case neg =>
    have hl' : (((a.length : Nat) : Int) != ((b.length : Nat) : Int)) = true := by simp; omega
    rw [eqW_len a b hl]
    simp (maxSteps := 4000000) only [go_sem, ↓reduceIte, reduceCtorEq, Nat.reduceEqDiff, Nat.reduceBEq, Nat.reduceAdd, Nat.reduceSub, Nat.reduceMul, Nat.reduceLT, Nat.reduceLeDiff, Nat.reduceBNe, Int.reduceBEq, Int.reduceBNe, Int.reduceLT, Int.reduceLE, hl', List.length_map]
  have hl' : (((a.length : Nat) : Int) != ((b.length : Nat) : Int)) = false := by simp; omega
  obtain ⟨R, hR⟩ : ∃ R, eqW a b = R := ⟨_, rfl⟩
  rw [hR]
  simp (maxSteps := 4000000) only [go_sem, ↓reduceIte, reduceCtorEq, Nat.reduceEqDiff, Nat.reduceBEq, Nat.reduceAdd, Nat.reduceSub, Nat.reduceMul, Nat.reduceLT, Nat.reduceLeDiff, Nat.reduceBNe, Int.reduceBEq, Int.reduceBNe, Int.reduceLT, Int.reduceLE, hl', List.length_map]
  refine run_loop (wintsInv a b R) (k := a.length) ⟨0, by omega, rfl, ?_, ?_, ?_, hR⟩ ?_
  · (simp (maxSteps := 4000000) only [go_sem, ↓reduceIte, reduceCtorEq, Nat.reduceEqDiff, Nat.reduceBEq, Nat.reduceAdd, Nat.reduceSub, Nat.reduceMul, Nat.reduceLT, Nat.reduceLeDiff, Nat.reduceBNe, Int.reduceBEq, Int.reduceBNe, Int.reduceLT, Int.reduceLE]) <;> rfl
  · (simp (maxSteps := 4000000) only [go_sem, ↓reduceIte, reduceCtorEq, Nat.reduceEqDiff, Nat.reduceBEq, Nat.reduceAdd, Nat.reduceSub, Nat.reduceMul, Nat.reduceLT, Nat.reduceLeDiff, Nat.reduceBNe, Int.reduceBEq, Int.reduceBNe, Int.reduceLT, Int.reduceLE]) <;> rfl
  · (simp (maxSteps := 4000000) only [go_sem, ↓reduceIte, reduceCtorEq, Nat.reduceEqDiff, Nat.reduceBEq, Nat.reduceAdd, Nat.reduceSub, Nat.reduceMul, Nat.reduceLT, Nat.reduceLeDiff, Nat.reduceBNe, Int.reduceBEq, Int.reduceBNe, Int.reduceLT, Int.reduceLE]) <;> rfl
  clear hR
  rintro k σ ⟨j, hj, rfl, t0, t1, t5, hr⟩
  simp only [r_wints_l8]
  by_cases hlt : j < a.length
  case neg =>
    have hlt' : ¬ (j : Int) < (a.length : Int) := by omega
    rw [List.drop_eq_nil_of_le (by omega), List.drop_eq_nil_of_le (by omega), eqW] at hr
    subst hr
    simp (maxSteps := 4000000) only [go_sem, ↓reduceIte, reduceCtorEq, Nat.reduceEqDiff, Nat.reduceBEq, Nat.reduceAdd, Nat.reduceSub, Nat.reduceMul, Nat.reduceLT, Nat.reduceLeDiff, Nat.reduceBNe, Int.reduceBEq, Int.reduceBNe, Int.reduceLT, Int.reduceLE, t0, t1, t5, hlt', List.length_map]
  have hlt' : (j : Int) < (a.length : Int) := by omega
  have hlt2 : j < b.length := by omega
  obtain ⟨x, hx⟩ := getW hlt
  obtain ⟨y, hy⟩ := getW hlt2
  have hgx := atI hx
  have hgy := atI hy
  have hw := wrapW (j := j) (by omega)
  rw [dropW hx, dropW hy, eqW] at hr
  by_cases hs : x = y
  · have hs' : (x != y) = false := by simp [hs]
    rw [show (x == y) = true by simp [hs], Bool.true_and] at hr
    simp (maxSteps := 4000000) only [go_sem, ↓reduceIte, reduceCtorEq, Nat.reduceEqDiff, Nat.reduceBEq, Nat.reduceAdd, Nat.reduceSub, Nat.reduceMul, Nat.reduceLT, Nat.reduceLeDiff, Nat.reduceBNe, Int.reduceBEq, Int.reduceBNe, Int.reduceLT, Int.reduceLE, t0, t1, t5, hlt', hgx, hgy, hs', hw, hlt, hlt2, List.length_map, Int.toNat_natCast]
    (repeat refine And.intro (by omega) ?_)
    refine ⟨a.length - (j + 1), by omega, j + 1, by omega, rfl, ?_, ?_, ?_, hr⟩
    · simp (maxSteps := 4000000) only [go_sem, ↓reduceIte, reduceCtorEq, Nat.reduceEqDiff, Nat.reduceBEq, Nat.reduceAdd, Nat.reduceSub, Nat.reduceMul, Nat.reduceLT, Nat.reduceLeDiff, Nat.reduceBNe, Int.reduceBEq, Int.reduceBNe, Int.reduceLT, Int.reduceLE, t0]
    · simp (maxSteps := 4000000) only [go_sem, ↓reduceIte, reduceCtorEq, Nat.reduceEqDiff, Nat.reduceBEq, Nat.reduceAdd, Nat.reduceSub, Nat.reduceMul, Nat.reduceLT, Nat.reduceLeDiff, Nat.reduceBNe, Int.reduceBEq, Int.reduceBNe, Int.reduceLT, Int.reduceLE, t1]
    · simp (maxSteps := 4000000) only [go_sem, ↓reduceIte, reduceCtorEq, Nat.reduceEqDiff, Nat.reduceBEq, Nat.reduceAdd, Nat.reduceSub, Nat.reduceMul, Nat.reduceLT, Nat.reduceLeDiff, Nat.reduceBNe, Int.reduceBEq, Int.reduceBNe, Int.reduceLT, Int.reduceLE, hw]
  · have hs' : (x != y) = true := by simp [hs]
    rw [show (x == y) = false by simp [hs], Bool.false_and] at hr
    subst hr
    simp (maxSteps := 4000000) only [go_sem, ↓reduceIte, reduceCtorEq, Nat.reduceEqDiff, Nat.reduceBEq, Nat.reduceAdd, Nat.reduceSub, Nat.reduceMul, Nat.reduceLT, Nat.reduceLeDiff, Nat.reduceBNe, Int.reduceBEq, Int.reduceBNe, Int.reduceLT, Int.reduceLE, t0, t1, t5, hlt', hgx, hgy, hs', hlt, hlt2, List.length_map, Int.toNat_natCast]
    all_goals omega
/-! ### in -/
/-! ### sorted -/
/-- how far it is sorted -/
structure Srt (l out : List Int) : Prop where
  rise : Rise out
  sub : ∀ x, x ∈ out → x ∈ l
  low : ∀ y, y ∈ l → y ∉ out → ∀ x, x ∈ out → x < y
theorem Srt.nil (l : List Int) : Srt l [] := ⟨List.Pairwise.nil, fun x h => by simp at h, fun y _ _ x h => by simp at h⟩
theorem Srt.len {l out : List Int} (h : Srt l out) : out.length ≤ l.length := sub_len (h.rise.imp fun h => by omega) h.sub
theorem Srt.add {l out : List Int} (h : Srt l out) {x : Int} (hx : x ∈ l) (hn : x ∉ out) (hm : ∀ y, y ∈ l → y ∉ out → x ≤ y) : Srt l (out ++ [x]) := by
  refine ⟨List.pairwise_append.2 ⟨h.rise, by simp, fun a ha b hb => ?_⟩, fun y hy => ?_, fun y hy hny z hz => ?_⟩
  · have : b = x := by simpa using hb
    subst this
    exact h.low _ hx hn a ha
  · rcases List.mem_append.1 hy with hy | hy
    · exact h.sub y hy
    · have : y = x := by simpa using hy
      subst this; exact hx
  · have h1 : y ∉ out := fun e => hny (List.mem_append_left _ e)
    have h2 : y ≠ x := fun e => hny (by simp [e])
    rcases List.mem_append.1 hz with hz | hz
    · exact h.low y hy h1 z hz
    · have : z = x := by simpa using hz
      subst this
      have := hm y hy h1
      omega
theorem Srt.all {l out : List Int} (h : Srt l out) (ha : ∀ y, y ∈ l → y ∈ out) : out = srtI l :=
  rise_unique h.rise (rise_srtI l) fun x => by rw [mem_srtI]; exact ⟨h.sub x, ha x⟩
/-- the best so far -/
def Bst (l out : List Int) (i : Nat) (b : Int) : Prop := (b = -1 ∧ ∀ x, x ∈ l.take i → x ∈ out) ∨ ∃ (j : Nat) (x : Int), b = (j : Int) ∧ j < i ∧ l[j]? = some x ∧ x ∉ out ∧ ∀ y, y ∈ l.take i → y ∉ out → x ≤ y
theorem Bst.skip {l out : List Int} {i : Nat} {b x : Int} (h : Bst l out i b) (hx : l[i]? = some x) (hn : x ∈ out) : Bst l out (i + 1) b := by
  rcases h with ⟨h1, h2⟩ | ⟨j, y, h1, h2, h3, h4, h5⟩
  · refine .inl ⟨h1, fun z hz => ?_⟩
    rw [takeW hx] at hz
    rcases List.mem_append.1 hz with hz | hz
    · exact h2 z hz
    · have : z = x := by simpa using hz
      subst this; exact hn
  · refine .inr ⟨j, y, h1, by omega, h3, h4, fun z hz hnz => ?_⟩
    rw [takeW hx] at hz
    rcases List.mem_append.1 hz with hz | hz
    · exact h5 z hz hnz
    · have : z = x := by simpa using hz
      subst this; exact absurd hn hnz
theorem Bst.keep {l out : List Int} {i j : Nat} {x y : Int} (h : Bst l out i (j : Int)) (hx : l[i]? = some x) (hj : l[j]? = some y) (hle : ¬ x < y) : Bst l out (i + 1) (j : Int) := by
  rcases h with ⟨h1, h2⟩ | ⟨j', y', h1, h2, h3, h4, h5⟩
  · omega
  · have : j' = j := by omega
    subst this
    rw [hj] at h3
    cases h3
    refine .inr ⟨j', y, rfl, by omega, hj, h4, fun z hz hnz => ?_⟩
    rw [takeW hx] at hz
    rcases List.mem_append.1 hz with hz | hz
    · exact h5 z hz hnz
    · have : z = x := by simpa using hz
      subst this; omega
theorem Bst.new {l out : List Int} {i : Nat} {b x : Int} (h : Bst l out i b) (hx : l[i]? = some x) (hn : x ∉ out) (hlt : ∀ (j : Nat) (y : Int), b = (j : Int) → l[j]? = some y → x < y) : Bst l out (i + 1) (i : Int) := by
  refine .inr ⟨i, x, rfl, by omega, hx, hn, fun z hz hnz => ?_⟩
  rw [takeW hx] at hz
  rcases List.mem_append.1 hz with hz | hz
  · rcases h with ⟨h1, h2⟩ | ⟨j, y, h1, h2, h3, h4, h5⟩
    · exact absurd (h2 z hz) hnz
    · have := hlt j y h1 h3
      have := h5 z hz hnz
      omega
  · have : z = x := by simpa using hz
    subst this; omega
end
section
/-
  The document's Reach and Stuck, walked.
-/
open Go.RowKit
set_option linter.unusedVariables false
set_option linter.unusedSimpArgs false
set_option maxRecDepth 100000
theorem atE {l : List Edge} {j : Nat} {e : Edge} (h : l[j]? = some e) : (l.map edA).getD j .und = .agg [.int .i64 e.1, .int .i64 e.2] := by
  rw [List.getD_eq_getElem?_getD, List.getElem?_map, h]; rfl
/-- who is found so far -/
structure Stk (l : List Edge) (i : Nat) (out : List Int) : Prop where
  nodup : out.Nodup
  sub : ∀ x, x ∈ out → x ∈ (l.take i).map (·.1) ∧ TC l x x
  all : ∀ x, x ∈ (l.take i).map (·.1) → TC l x x → x ∈ out
theorem Stk.len {l : List Edge} {i : Nat} {out : List Int} (h : Stk l i out) : out.length ≤ i := by
  have := sub_len h.nodup fun x hx => (h.sub x hx).1
  rw [List.length_map, List.length_take] at this
  omega
theorem mem_takeW {l : List Edge} {i : Nat} {e : Edge} (he : l[i]? = some e) {x : Int} : x ∈ (l.take (i + 1)).map (·.1) ↔ x ∈ (l.take i).map (·.1) ∨ x = e.1 := by
  rw [takeW he, List.map_append, List.mem_append]; simp
theorem Stk.skip {l : List Edge} {i : Nat} {out : List Int} (h : Stk l i out) {e : Edge} (he : l[i]? = some e) (hs : e.1 ∈ out ∨ ¬ TC l e.1 e.1) : Stk l (i + 1) out := by
  refine ⟨h.nodup, fun x hx => ⟨(mem_takeW he).2 (.inl (h.sub x hx).1), (h.sub x hx).2⟩, fun x hx htc => ?_⟩
  rcases (mem_takeW he).1 hx with h1 | h1
  · exact h.all x h1 htc
  · subst h1
    rcases hs with hs | hs
    · exact hs
    · exact absurd htc hs
theorem Stk.add {l : List Edge} {i : Nat} {out : List Int} (h : Stk l i out) {e : Edge} (he : l[i]? = some e) (hn : e.1 ∉ out) (hs : TC l e.1 e.1) : Stk l (i + 1) (out ++ [e.1]) := by
  refine ⟨List.nodup_append.2 ⟨h.nodup, by simp, fun x hx y hy e' => ?_⟩, fun x hx => ?_, fun x hx htc => ?_⟩
  · have : y = e.1 := by simpa using hy
    subst this; subst e'; exact hn hx
  · rcases List.mem_append.1 hx with hx | hx
    · exact ⟨(mem_takeW he).2 (.inl (h.sub x hx).1), (h.sub x hx).2⟩
    · have : x = e.1 := by simpa using hx
      subst this; exact ⟨(mem_takeW he).2 (.inr rfl), hs⟩
  · rcases (mem_takeW he).1 hx with h1 | h1
    · exact List.mem_append_left _ (h.all x h1 htc)
    · rw [h1]; simp
end
section
/-
  The chapter's example and the laws, walked.
-/
open Go.RowKit
set_option linter.unusedVariables false
set_option linter.unusedSimpArgs false
set_option maxRecDepth 100000
attribute [local go_sem ↓] runOp headOp
/-! ### percolate/waits.Against -/
def t_agn_0 : List ROp := [⟨(.box 3 28 (.t 0)), (some 2), none, [3], []⟩, ⟨(.box 3 28 (.t 1)), (some 3), none, [], []⟩, ⟨(.mv (.c (.bool false))), (some 4), none, [], []⟩]
def r_agn_0 : Reg := ⟨[], t_agn_0, [2, 3], [], false⟩
def t_agn_1 : List ROp := [⟨(.faddr 1 (.t 2)), (some 5), none, [], []⟩, ⟨(.load 1 false (.t 5)), (some 6), none, [], []⟩, ⟨(.faddr 1 (.t 3)), (some 7), none, [], []⟩, ⟨(.load 1 false (.t 7)), (some 8), none, [], []⟩, ⟨(.bin .eql (.t 6) (.t 8)), (some 9), none, [], []⟩, ⟨(.mv (.t 9)), (some 10), none, [], []⟩, ⟨(.faddr 0 (.t 2)), (some 11), (some (10, true)), [], []⟩, ⟨(.load 1 false (.t 11)), (some 12), (some (10, true)), [], []⟩, ⟨(.faddr 0 (.t 3)), (some 13), (some (10, true)), [], []⟩, ⟨(.load 1 false (.t 13)), (some 14), (some (10, true)), [], []⟩, ⟨(.bin .neq (.t 12) (.t 14)), (some 15), (some (10, true)), [], []⟩, ⟨(.pick (.t 10) (.t 15) (.c (.bool false))), (some 16), none, [], []⟩, ⟨(.mv (.t 16)), (some 17), none, [], []⟩, ⟨(.faddr 2 (.t 2)), (some 18), (some (17, true)), [], []⟩, ⟨(.load 1 false (.t 18)), (some 19), (some (17, true)), [], []⟩, ⟨(.mv (.t 19)), (some 20), (some (17, true)), [], []⟩, ⟨(.faddr 2 (.t 3)), (some 21), (some (20, false)), [], []⟩, ⟨(.load 1 false (.t 21)), (some 22), (some (20, false)), [], []⟩, ⟨(.pick (.t 20) (.c (.bool true)) (.t 22)), (some 23), (some (17, true)), [], []⟩, ⟨(.pick (.t 17) (.t 23) (.c (.bool false))), (some 24), none, [], []⟩, ⟨(.mv (.t 24)), (some 4), none, [], []⟩]
def r_agn_1 : Reg := ⟨[], t_agn_1, [], [], false⟩
def ir_agn : IR := (.seq (.reg r_agn_0)
  (.seq (.reg r_agn_1)
  .ret))
def res_agn : List RDesc := [(.tmp 4)]
theorem e_agn_0 (C : FuncId → List AV → AV → Prop) (σ : St) (K : St → Prop) : runReg C r_agn_0 σ K = runOps C t_agn_0 (σ.kills [2, 3]) K := rfl
theorem e_agn_1 (C : FuncId → List AV → AV → Prop) (σ : St) (K : St → Prop) : runReg C r_agn_1 σ K = runOps C t_agn_1 (σ.kills []) K := rfl
theorem fn_agn {args : List AV} {r : AV} (ha : args.length.ble Try.f7.ntmps = true) (h : run (AFn Try.prog) ir_agn (endQ res_agn r) (initSt args)) : AFn Try.prog 7 args r :=
  AFn.of_code (pv := false) (hint := fun _ => []) (c := Try.f7.body.getD .skip) (by kernel_rfl) (by kernel_rfl) Try.func7 (by kernel_rfl) (by kernel_rfl) (by kernel_rfl) (of_decide_eq_true (by kernel_rfl)) (Nat.le_of_ble_eq_true ha) (Nat.le_of_ble_eq_true (by kernel_rfl)) (run_ok h)
/-! ### percolate/percolatelaw13.awake -/
def r_aw13_0 : Reg := ⟨[], [⟨(.mv (.c (.bool false))), (some 0), none, [], []⟩], [], [], false⟩
def t_aw13_1 : List ROp := [⟨(.bld [(.int .i64 0), (.int .i64 0)] [⟨0, 1, (.c (.int .i64 0))⟩, ⟨1, 1, (.c (.int .i64 1))⟩]), (some 2), none, [5], []⟩, ⟨(.bld [(.int .i64 0), (.int .i64 0)] [⟨0, 1, (.c (.int .i64 1))⟩, ⟨1, 1, (.c (.int .i64 2))⟩]), (some 3), none, [5], []⟩, ⟨(.bld [(.int .i64 0), (.int .i64 0)] [⟨0, 1, (.c (.int .i64 2))⟩, ⟨1, 1, (.c (.int .i64 1))⟩]), (some 4), none, [5], []⟩, ⟨(.bsl 2 30 [(.t 2), (.t 3), (.t 4)]), (some 5), none, [], []⟩, ⟨(.mv (.t 5)), (some 1), none, [], []⟩]
def r_aw13_1 : Reg := ⟨[], t_aw13_1, [5], [], false⟩
def t_aw13_2 : List ROp := [⟨(.mv (.t 1)), (some 6), none, [7, 8, 9, 12, 13, 14, 19], []⟩, ⟨(.callv (.c (.clo 11 [] [])) [(.t 6)]), (some 7), none, [8, 9, 12, 13, 14, 19], []⟩, ⟨(.bsl 1 3 [(.c (.int .i64 1)), (.c (.int .i64 2))]), (some 8), none, [9, 12, 13, 14, 19], []⟩, ⟨(.callv (.c (.clo 10 [] [])) [(.t 7), (.t 8)]), (some 9), none, [12, 13, 14, 19], []⟩, ⟨(.mv (.t 9)), (some 10), none, [12, 13, 14, 19], []⟩, ⟨(.mv (.t 1)), (some 11), (some (10, true)), [12, 13, 14, 19], []⟩, ⟨(.callv (.c (.clo 12 [] [])) [(.t 11), (.c (.int .i64 0))]), (some 12), (some (10, true)), [13, 14, 19], []⟩, ⟨(.bsl 1 3 [(.c (.int .i64 1)), (.c (.int .i64 2))]), (some 13), (some (10, true)), [14, 19], []⟩, ⟨(.callv (.c (.clo 10 [] [])) [(.t 12), (.t 13)]), (some 14), (some (10, true)), [19], []⟩, ⟨(.pick (.t 10) (.t 14) (.c (.bool false))), (some 15), none, [19], []⟩, ⟨(.mv (.t 15)), (some 16), none, [19], []⟩, ⟨(.bld [(.int .i64 0), (.int .i64 0), (.bool false)] [⟨0, 1, (.c (.int .i64 1))⟩, ⟨2, 1, (.c (.bool true))⟩]), (some 17), (some (16, true)), [19], []⟩, ⟨(.bld [(.int .i64 0), (.int .i64 0), (.bool false)] []), (some 18), (some (16, true)), [19], []⟩, ⟨(.callv (.c (.clo 7 [] [])) [(.t 17), (.t 18)]), (some 19), (some (16, true)), [], []⟩, ⟨(.pick (.t 16) (.t 19) (.c (.bool false))), (some 20), none, [], []⟩, ⟨(.mv (.t 20)), (some 0), none, [], []⟩]
def r_aw13_2 : Reg := ⟨[], t_aw13_2, [7, 8, 9, 12, 13, 14, 19], [], false⟩
def ir_aw13 : IR := (.seq (.reg r_aw13_0)
  (.seq (.reg r_aw13_1)
  (.seq (.reg r_aw13_2)
  .ret)))
def res_aw13 : List RDesc := [(.tmp 0)]
theorem e_aw13_0 (C : FuncId → List AV → AV → Prop) (σ : St) (K : St → Prop) : runReg C r_aw13_0 σ K = runOps C [⟨(.mv (.c (.bool false))), (some 0), none, [], []⟩] (σ.kills []) K := rfl
theorem e_aw13_1 (C : FuncId → List AV → AV → Prop) (σ : St) (K : St → Prop) : runReg C r_aw13_1 σ K = runOps C t_aw13_1 (σ.kills [5]) K := rfl
theorem e_aw13_2 (C : FuncId → List AV → AV → Prop) (σ : St) (K : St → Prop) : runReg C r_aw13_2 σ K = runOps C t_aw13_2 (σ.kills [7, 8, 9, 12, 13, 14, 19]) K := rfl
theorem fn_aw13 {args : List AV} {r : AV} (ha : args.length.ble Try.f4.ntmps = true) (h : run (AFn Try.prog) ir_aw13 (endQ res_aw13 r) (initSt args)) : AFn Try.prog 4 args r :=
  AFn.of_code (pv := false) (hint := fun _ => []) (c := Try.f4.body.getD .skip) (by kernel_rfl) (by kernel_rfl) Try.func4 (by kernel_rfl) (by kernel_rfl) (by kernel_rfl) (of_decide_eq_true (by kernel_rfl)) (Nat.le_of_ble_eq_true ha) (Nat.le_of_ble_eq_true (by kernel_rfl)) (run_ok h)
attribute [local go_sem ↓] ir_agn
attribute [local go_sem] res_agn e_agn_0 t_agn_0 e_agn_1 t_agn_1
attribute [local go_sem ↓] ir_aw13
attribute [local go_sem] res_aw13 e_aw13_0 e_aw13_1 t_aw13_1 e_aw13_2 t_aw13_2
/-- edges of Go's ints -/
def EdOk (l : List Edge) : Prop := ∀ e, e ∈ l → I64 e.1 ∧ I64 e.2
theorem Reach_ok (l : List Edge) (a : Int) (hl : l.length ≤ 400000) (hi : EdOk l) : AFn Try.prog 12 [.sl (l.map edA), .int .i64 a] (.sl ((reachL l a).map (AV.int .i64))) := by
  refine ⟨by kernel_rfl, fun w Pr vs hG hPr hlen hvs => ?_⟩
  match vs, hlen with
  | [v0, v1], _ =>
    obtain ⟨A, cap, rfl, h1, h2, hE⟩ := EdAt.of (hvs 0 _ v0 rfl rfl)
    obtain rfl := VR.int_of (hvs 1 _ v1 rfl rfl)
    refine (Reach_any l a hl (fun e he => (hi e he).2) A cap w hG hE).mono ?_
    rintro e w' ⟨v, rfl, hB, hrow⟩
    exact ⟨_, rfl, hB, row_vr hrow fun b o hb => .inr hb⟩
theorem Stuck_ok (l : List Edge) (hl : l.length ≤ 400000) (hi : EdOk l) : AFn Try.prog 11 [.sl (l.map edA)] (.sl ((stuckL l).map (AV.int .i64))) := by
  refine ⟨by kernel_rfl, fun w Pr vs hG hPr hlen hvs => ?_⟩
  match vs, hlen with
  | [v0], _ =>
    obtain ⟨A, cap, rfl, h1, h2, hE⟩ := EdAt.of (hvs 0 _ v0 rfl rfl)
    refine (Stuck_any l hl (fun e he => (hi e he).1) A cap w hG hE).mono ?_
    rintro e w' ⟨v, rfl, hB, hV⟩
    exact ⟨_, rfl, hB, hV.kept ⟨Nat.le_refl _, fun _ _ _ h => .inr h, fun _ _ _ _ => rfl, fun _ _ _ _ _ e => e⟩⟩
def lW : List Edge := [(0, 1), (1, 2), (2, 1)]
theorem lW_ok : EdOk lW := by
  intro e he
  rcases List.mem_cons.1 he with h | he
  · subst h; exact ⟨by unfold I64; decide, by unfold I64; decide⟩
  rcases List.mem_cons.1 he with h | he
  · subst h; exact ⟨by unfold I64; decide, by unfold I64; decide⟩
  rw [List.mem_singleton.1 he]
  exact ⟨by unfold I64; decide, by unfold I64; decide⟩
theorem agn_ok : AFn Try.prog 7 [.agg [.int .i64 1, .int .i64 0, .bool true], .agg [.int .i64 0, .int .i64 0, .bool false]] (.bool true) := by
  refine fn_agn rfl ?_
  simp (maxSteps := 4000000) only [go_sem, ↓reduceIte, reduceCtorEq, Nat.reduceEqDiff, Nat.reduceBEq, Nat.reduceAdd, Nat.reduceSub, Nat.reduceMul, Nat.reduceLT, Nat.reduceLeDiff, Nat.reduceBNe, Int.reduceBEq, Int.reduceBNe, Int.reduceLT, Int.reduceLE, edA]
theorem aw13_ok : AFn Try.prog 4 [] (.bool true) := by
  refine fn_aw13 rfl ?_
  have c1 := Stuck_ok lW (by decide) lW_ok
  have c2 := Reach_ok lW 0 (by decide) lW_ok
  have e1 : stuckL lW = [1, 2] := by decide
  have e2 : reachL lW 0 = [1, 2] := by decide
  rw [e1] at c1
  rw [e2] at c2
  have c3 := wints_ok [1, 2] [1, 2] (by decide) (by decide)
  rw [eqW_self] at c3
  have c4 := agn_ok
  simp only [lW, List.map_cons, List.map_nil, edA] at c1 c2 c3
  (repeat (first | simp (maxSteps := 4000000) only [go_sem, ↓reduceIte, reduceCtorEq, Nat.reduceEqDiff, Nat.reduceBEq, Nat.reduceAdd, Nat.reduceSub, Nat.reduceMul, Nat.reduceLT, Nat.reduceLeDiff, Nat.reduceBNe, Int.reduceBEq, Int.reduceBNe, Int.reduceLT, Int.reduceLE, edA, List.length_map] | refine calling (c1) ?_ | refine callingH (c1) ?_ | refine calling (c2) ?_ | refine callingH (c2) ?_ | refine calling (c3) ?_ | refine callingH (c3) ?_ | refine calling (c4) ?_ | refine callingH (c4) ?_ | refine And.intro (by omega) ?_ | refine And.intro (fun d hd => by (repeat (rcases hd with rfl | hd; · exact ⟨rfl, rfl⟩)); cases hd) ?_))
end
section
/-
  An own object that the library has sorted in place, in the plain machine; edges sorted.
-/
open Go.RowKit Go.Sort Go.Shelf Go.Lib
set_option linter.unusedVariables false
set_option linter.unusedSimpArgs false
set_option maxRecDepth 100000
theorem putRow_setRow {w : World} {g : Nat} {cs : Array Value} {ty : TypeId} (hb : w.heap[g]? = some (.cells cs ty (0, 0))) (F : Array Value) : putRow id w g 0 F = w.setRow g (putCells id 0 F cs) := by
  unfold putRow mapBlock World.setRow
  congr 1
  refine Array.ext_getElem? fun k => ?_
  simp only [Array.getElem?_modify]
  by_cases hk : g = k
  · subst hk
    simp only [if_true, hb, Option.map_some, onCells]
  · simp [hk]
theorem putCells_at {F cs : Array Value} (h : F.size ≤ cs.size) {q : Nat} (hq : q < F.size) : (putCells id 0 F cs)[q]? = some F[q]! := by
  unfold putCells
  rw [Array.getElem?_mapIdx, Array.getElem?_eq_getElem (by omega)]
  simp [hq]
theorem below_growS (w : World) (os : Array Obj) : Below w.heap.size w (grow w os) :=
  ⟨rfl, rfl, rfl, by simp [grow], fun k hk => by simp [grow, Array.getElem?_append_left hk]⟩
section
variable {w0 : Start} {Pr0 : Nat → Nat → Prop} {n : Nat} {μ : Nat → Option Nat} {σ : St} {a : Act} {w : World}
/-- .. behind the sort -/
theorem SR.sorted (h : SR w0 Pr0 n μ σ a w) {r g : Nat} {arr : Arr} (ha : σ.H r = some arr) (hp : arr.prot = 0) (hg : μ r = some g) {cs : Array Value} (f1 : w.heap[g]? = some (.cells cs arr.ty (0, 0))) {l' : List AV} (hl : l'.length = arr.cells.length) {F : Array Value} (hF : F.size = l'.length * arr.z) (hcs : F.size ≤ cs.size)
    (hones : ∀ y, y ∈ l' → y.cells.length = arr.z ∧ ∀ c, c ∈ y.cells → c.one = true)
    (hel : ∀ (i : Nat) (x : AV) (j : Nat) (c : AV), l'[i]? = some x → x.cells[j]? = some c → VR (PrOf w0 Pr0 μ σ.H) w c F[i * arr.z + j]!) (m : Nat) (os : Array Obj) :
    SR w0 Pr0 n μ ⟨σ.T, upd σ.H r (some { arr with cells := l' })⟩ a (Go.Sort.grow (putRow id (Sort.ahead w m) g 0 F) os) := by
  have h1 : SR w0 Pr0 n μ σ a (Sort.ahead w m) := h.grow ⟨rfl, rfl, rfl, Nat.le_refl _, fun _ _ => rfl⟩
  have f2 : (Sort.ahead w m).heap[g]? = some (.cells cs arr.ty (0, 0)) := f1
  rw [putRow_setRow f2]
  refine (h1.redo ha hg f2 hl (by simp [putCells]) (fun q hq => by rw [hp] at hq; omega) hones fun i x j c hi hj => ?_).grow (below_growS _ os)
  have hil : i < l'.length := (List.getElem?_eq_some_iff.1 hi).1
  have hjl : j < arr.z := by rw [← (hones x (List.mem_of_getElem? hi)).1]; exact (List.getElem?_eq_some_iff.1 hj).1
  have hlt : i * arr.z + j < F.size := by
    rw [hF]
    have : (i + 1) * arr.z ≤ l'.length * arr.z := Nat.mul_le_mul_right _ hil
    rw [Nat.add_mul, Nat.one_mul] at this
    omega
  exact ⟨_, putCells_at hcs hlt, VR.kept (w := w) (w' := Sort.ahead w m) ⟨Nat.le_refl _, fun _ _ _ h => h, fun _ _ _ _ => rfl, fun _ _ _ _ _ e => e⟩ (hel i x j c hi hj)⟩
end
def ObjE (X : List Edge) : Option Arr := some ⟨2, 30, X.map edA, 0⟩
def encE (e : Edge) : List Value := [.int .i64 e.1, .int .i64 e.2]
/-- the comparison of edges -/
def cmpE (a b : Edge) : Int := if Lib.compareInt a.1 b.1 = 0 then Lib.compareInt a.2 b.2 else Lib.compareInt a.1 b.1
def orZ (x y : Int) : Int := if x = 0 then y else x
set_option maxHeartbeats 1000000 in
theorem or_calls (x y : Int) (b : Nat) (W : World) (h0 : W.cell? ⟨b, 0, none⟩ = some (.int .i64 x)) (h1 : W.cell? ⟨b, 1, none⟩ = some (.int .i64 y)) :
    Calls Try.prog 15 #[.slice (some ⟨b, 0, none⟩) 2 2] W fun e w' => e = .returned (.int .i64 (orZ x y)) ∧ ∃ q os', w' = grow (W.drewN q) os' := by
  go_enter Try.func15, Try.ntmps15
  go_wp2
  by_cases hx : x = 0
  · subst hx
    by_cases hy : y = 0
    · subst hy
      refine wp_loop_rounds 3 ?_
      rw [rounds_succ]
      go_wp2
      rw [rounds_succ]
      go_wp2
      rw [rounds_succ]
      go_wp2
      go_ret
      exact ⟨rfl, 0, #[], by simp [World.drewN]⟩
    · have hy' : (y != 0) = true := by simpa using hy
      refine wp_loop_rounds 2 ?_
      rw [rounds_succ]
      go_wp2
      rw [rounds_succ]
      go_wp2
      go_ret
      exact ⟨by simp [orZ], 0, #[], by simp [World.drewN]⟩
  · have hx' : (x != 0) = true := by simpa using hx
    refine wp_loop_rounds 1 ?_
    rw [rounds_succ]
    go_wp2
    go_ret
    exact ⟨by simp [orZ, hx], 0, #[], by simp [World.drewN]⟩
set_option maxHeartbeats 1000000 in
/-- the closure of waits.Edges -/
theorem cmp_calls (x y : Edge) (W : World) : Calls Try.prog 14 #[.agg #[.int .i64 x.1, .int .i64 x.2], .agg #[.int .i64 y.1, .int .i64 y.2]] W fun e w' => e = .returned (.int .i64 (cmpE x y)) ∧ ∃ q os', w' = Go.Sort.grow (W.drewN q) os' := by
  have h1 := fun W' => Try.cmp_Compare_int x.1 y.1 W'
  have h2 := fun W' => Try.cmp_Compare_int x.2 y.2 W'
  have e0 : cmpE x y = orZ (Lib.compareInt x.1 y.1) (Lib.compareInt x.2 y.2) := rfl
  rw [e0]
  generalize Lib.compareInt x.1 y.1 = r1 at h1 ⊢
  generalize Lib.compareInt x.2 y.2 = r2 at h2 ⊢
  generalize x.1 = x1 at h1 ⊢
  generalize x.2 = x2 at h2 ⊢
  generalize y.1 = y1 at h1 ⊢
  generalize y.2 = y2 at h2 ⊢
  go_enter Try.func14, Try.ntmps14
  go_wp2_with fail
  obtain ⟨W2, hW2⟩ : ∃ W2, ((W.alloc (Obj.cells #[Value.int IntKind.i64 x1, Value.int IntKind.i64 x2] 30)).alloc (Obj.cells #[Value.int IntKind.i64 y1, Value.int IntKind.i64 y2] 30)) = W2 := ⟨_, rfl⟩
  have z0 : W2.cell? ⟨W.heap.size, 0, none⟩ = some (.int .i64 x1) := by
    rw [← hW2, cell_row ((Below.heap_alloc _ _ W.heap.size (by simp)).trans (Go.MapKept.heap_alloc W _).1)]; rfl
  have z1 : W2.cell? ⟨W.heap.size, 1, none⟩ = some (.int .i64 x2) := by
    rw [← hW2, cell_row ((Below.heap_alloc _ _ W.heap.size (by simp)).trans (Go.MapKept.heap_alloc W _).1)]; rfl
  have z2 : W2.cell? ⟨W.heap.size + 1, 0, none⟩ = some (.int .i64 y1) := by
    have := (Go.MapKept.heap_alloc (W.alloc (Obj.cells #[Value.int IntKind.i64 x1, Value.int IntKind.i64 x2] 30)) (Obj.cells #[Value.int IntKind.i64 y1, Value.int IntKind.i64 y2] 30)).1
    rw [hW2] at this
    rw [show W.heap.size + 1 = (W.alloc (Obj.cells #[Value.int IntKind.i64 x1, Value.int IntKind.i64 x2] 30)).heap.size from by simp, cell_row this]; rfl
  have z3 : W2.cell? ⟨W.heap.size + 1, 1, none⟩ = some (.int .i64 y2) := by
    have := (Go.MapKept.heap_alloc (W.alloc (Obj.cells #[Value.int IntKind.i64 x1, Value.int IntKind.i64 x2] 30)) (Obj.cells #[Value.int IntKind.i64 y1, Value.int IntKind.i64 y2] 30)).1
    rw [hW2] at this
    rw [show W.heap.size + 1 = (W.alloc (Obj.cells #[Value.int IntKind.i64 x1, Value.int IntKind.i64 x2] 30)).heap.size from by simp, cell_row this]; rfl
  rw [hW2]
  refine wp_region_still_tail 10 (by kernel_rfl) (by kernel_rfl) ?_
  simp only [List.take_succ_cons, List.take_zero, List.drop_succ_cons, List.drop_zero]
  repeat still_step
  still_call (h1 _)
  repeat still_step
  still_call (h2 _)
  repeat still_step
  try refine wpStill_nil ?_
  change wpList _ _ _ _ _ W2.drew
  have k0 : ((W2.alloc (Obj.cells #[Value.int IntKind.i64 r1, Value.int IntKind.i64 r2] 3)).drew).cell? ⟨W2.heap.size, 0, none⟩ = some (.int .i64 r1) := by
    show (W2.alloc _).cell? _ = _
    rw [cell_row (Go.MapKept.heap_alloc W2 _).1]; rfl
  have k1 : ((W2.alloc (Obj.cells #[Value.int IntKind.i64 r1, Value.int IntKind.i64 r2] 3)).drew).cell? ⟨W2.heap.size, 1, none⟩ = some (.int .i64 r2) := by
    show (W2.alloc _).cell? _ = _
    rw [cell_row (Go.MapKept.heap_alloc W2 _).1]; rfl
  go_wp2_with (first
    | (go_at_call 15; refine (or_calls r1 r2 W2.heap.size _ k0 k1).mono ?_; rintro e w' ⟨rfl, q, os', rfl⟩))
  go_ret
  refine ⟨rfl, q + 1, #[Obj.cells #[Value.int IntKind.i64 x1, Value.int IntKind.i64 x2] 30, Obj.cells #[Value.int IntKind.i64 y1, Value.int IntKind.i64 y2] 30, Obj.cells #[Value.int IntKind.i64 r1, Value.int IntKind.i64 r2] 3] ++ os', ?_⟩
  rw [← hW2]
  rw [alloc_eq_grow, alloc_eq_grow, alloc_eq_grow, grow_grow, grow_grow]
  show Go.Sort.grow (Go.Sort.grow (W.drewN (1 + q)) _) os' = _
  rw [grow_grow, Nat.add_comm 1 q]
  rfl
/-! ### the order -/
theorem cmpE_neg {a b : Edge} : ltOf cmpE a b = decide (LtE a b) := by
  have h : ∀ x y : Int, (Lib.compareInt x y = 0 ↔ x = y) ∧ (Lib.compareInt x y < 0 ↔ x < y) := fun x y => by
    unfold Lib.compareInt
    by_cases h1 : x < y
    · simp [h1]; omega
    · by_cases h2 : y < x
      · simp [h1, h2]; omega
      · simp [h1, h2]; omega
  unfold ltOf
  refine decide_eq_decide.2 ?_
  unfold cmpE LtE
  by_cases h1 : a.1 = b.1
  · rw [if_pos ((h a.1 b.1).1.2 h1), (h a.2 b.2).2]; omega
  · rw [if_neg (fun e => h1 ((h a.1 b.1).1.1 e)), (h a.1 b.1).2]; omega
theorem swoE : SWO (ltOf cmpE) where
  irrefl x := by rw [cmpE_neg]; simp [LtE]
  trans x y z h1 h2 := by rw [cmpE_neg] at *; simp only [decide_eq_true_eq] at *; exact h1.trans h2
  ntrans x y z h1 h2 := by rw [cmpE_neg] at *; simp only [decide_eq_false_iff_not] at *; unfold LtE at *; omega
theorem totE (x y : Edge) (h1 : ltOf cmpE x y = false) (h2 : ltOf cmpE y x = false) : x = y := by
  rw [cmpE_neg] at *
  simp only [decide_eq_false_iff_not] at *
  rcases LtE.tri x y with h | h | h
  · exact absurd h h1
  · exact h
  · exact absurd h h2
/-- edges in order -/
def msE (l : List Edge) : List Edge := l.mergeSort fun x y => !(ltOf cmpE) y x
theorem mem_msE {l : List Edge} {e : Edge} : e ∈ msE l ↔ e ∈ l := List.mem_mergeSort
theorem length_msE {l : List Edge} : (msE l).length = l.length := List.length_mergeSort l
theorem sorted_msE (l : List Edge) : (msE l).Pairwise fun a b => ¬ LtE b a := by
  have h := List.pairwise_mergeSort (le := fun x y : Edge => !(ltOf cmpE) y x) (fun a b c h1 h2 => by
    simp only [cmpE_neg, Bool.not_eq_true', decide_eq_false_iff_not] at *; unfold LtE at *; omega) (fun a b => by
    simp only [cmpE_neg, Bool.or_eq_true, Bool.not_eq_true', decide_eq_false_iff_not] at *; unfold LtE; omega) l
  exact h.imp fun h => by simpa only [cmpE_neg, Bool.not_eq_true', decide_eq_false_iff_not] using h
end
section
/-
  slices.SortFunc at edges, in the plain machine.
-/
open Go.RowKit Go.Sort Go.Shelf Go.Lib
set_option linter.unusedVariables false
set_option linter.unusedSimpArgs false
set_option maxRecDepth 100000
theorem flatE_at {l : List Edge} {i : Nat} {e : Edge} (he : l[i]? = some e) {j : Nat} (hj : j < 2) : (flatK encE 2 l.toArray)[i * 2 + j]! = (encE e)[j]! := by
  obtain ⟨hlt, h⟩ := List.getElem?_eq_some_iff.1 he
  rw [get_flatK _ _ _ _ (by simp; omega), show (i * 2 + j) / 2 = i by omega, show (i * 2 + j) % 2 = j by omega]
  have : l.toArray[i]! = e := by
    rw [getElem!_pos _ _ (by simpa using hlt)]
    simpa using h
  rw [this]
theorem edA_cell {e : Edge} {j : Nat} {c : AV} (h : (edA e).cells[j]? = some c) : j < 2 ∧ ∃ m, c = .int .i64 m ∧ (encE e)[j]! = .int .i64 m := by
  match j with
  | 0 => cases h; exact ⟨by omega, _, rfl, rfl⟩
  | 1 => cases h; exact ⟨by omega, _, rfl, rfl⟩
  | j + 2 => simp [edA, AV.cells] at h
theorem sf_ok (H : Nat → Option Arr) (r : Nat) (l : List Edge) (hl : l.length ≤ 1000000) (hr : H r = ObjE l) :
    MFn Try.prog 13 [.rs r 0 l.length, .clo 14 [] []] H (.tup []) (upd H r (ObjE (msE l))) := by
  refine ⟨by kernel_rfl, fun w0 Pr0 n μ T a w vs hS hlen hvs => ?_⟩
  match vs, hlen with
  | [v0, v1], _ =>
    have t1 : VR _ w (.clo 14 [] []) v1 := hvs 1 _ v1 rfl rfl
    have e1 : v1 = .func (.func 14) #[] #[] := by
      cases t1 with
      | clo _ _ _ vf vc hf hc h1 h2 =>
        have : vf = [] := List.length_eq_zero_iff.1 hf.symm
        have : vc = [] := List.length_eq_zero_iff.1 hc.symm
        subst_vars; rfl
    subst e1
    have tup : ∀ (Pr : Nat → Nat → Prop) (w : World), VR Pr w (.tup []) (.tuple #[]) := fun Pr w => VR.tup [] [] rfl fun j c v h => by simp at h
    rcases hvs 0 _ v0 rfl rfl _ hr with ⟨m1, m2, _, m4⟩ | ⟨g, cap, cs, m1, m2, m3, m4, m5, m6, m7⟩
    · have hl0 : l = [] := List.length_eq_zero_iff.1 m4
      subst hl0
      subst m2
      refine (Try.slices_SortFunc_none (α := Edge) none 0 _ w).mono ?_
      rintro e w' ⟨rfl, rfl⟩
      refine ⟨_, μ, rfl, ?_, tup _ _⟩
      have h0 : msE [] = [] := by simp [msE]
      rw [h0, upd_self H r _ hr]
      exact hS
    · have hv := m2.exact0 (Nat.zero_mul _)
      subst hv
      obtain ⟨o1, o2, o3, o4⟩ := hS.obj r _ hr
      rw [m1] at o4
      have hcs : ∀ (i : Nat) (e : Edge) (j : Nat), l[i]? = some e → j < 2 → cs[i * 2 + j]? = some (encE e)[j]! := by
        intro i e j he hj
        rcases o4 with ⟨q, ms, c, q'⟩ | ⟨cs0, q1, q2, q3⟩
        · rw [m3] at q'; cases q'
        · rw [m3] at q1
          cases q1
          have hd : (l.map edA)[i]? = some (edA e) := by rw [List.getElem?_map, he]; rfl
          match j, hj with
          | 0, _ =>
            obtain ⟨u, u1, u2⟩ := q3 i _ 0 (.int .i64 e.1) hd rfl
            rw [VR.int_of u2] at u1; exact u1
          | 1, _ =>
            obtain ⟨u, u1, u2⟩ := q3 i _ 1 (.int .i64 e.2) hd rfl
            rw [VR.int_of u2] at u1; exact u1
      have hsz : cs.size = cap * 2 := by simpa using m4.symm
      have hH : HoldsK encE 2 w g 0 l.toArray := by
        intro t ht
        have ht' : t < l.length * 2 := by simpa using ht
        have hi : t / 2 < l.length := by omega
        have he : l[t / 2]? = some l[t / 2] := List.getElem?_eq_getElem hi
        refine ⟨?_, by simp [World.frozen?, m3]⟩
        rw [cell_row m3, Nat.zero_add]
        have h1 := hcs _ _ (t % 2) he (by omega)
        have h2 := flatE_at he (j := t % 2) (by omega)
        rw [show t / 2 * 2 + t % 2 = t by omega] at h1 h2
        rw [h1, h2]; rfl
      have eg : ∀ args w, (callFunc 14 args).run Try.prog w = .ok (.enter 14 args) w := enters_of Try.func14 (by kernel_rfl) rfl
      have hcon := Try.slices_SortFunc_total 2 Try.isAgg30 Try.sizeOf30 encE (fun _ => rfl) (fun x v hv => by simp [encE] at hv; rcases hv with rfl | rfl <;> rfl) cmpE swoE 14 #[] g 0 cap l.toArray w eg
        (fun _ _ _ _ x y => cmp_calls x y _) hH (block_lt m3) (by simp; omega) totE
      rw [show l.toArray.size = l.length by simp] at hcon
      refine hcon.mono ?_
      rintro e w' ⟨rfl, k, os, rfl⟩
      refine ⟨_, μ, rfl, ?_, tup _ _⟩
      have hms : (l.toArray.toList.mergeSort fun x y => !(ltOf cmpE) y x).toArray = (msE l).toArray := rfl
      rw [hms]
      have hlm : (msE l).length = l.length := length_msE
      refine hS.sorted (σ := ⟨T, H⟩) hr rfl m1 m3 (l' := (msE l).map edA) (by simp [hlm]) (F := flatK encE 2 (msE l).toArray) (by simp) (by simp [hlm]; omega) (fun y hy => ?_) (fun i x j c hi hj => ?_) k os
      · obtain ⟨e, _, rfl⟩ := List.mem_map.1 hy
        refine ⟨rfl, fun c hc => ?_⟩
        obtain ⟨j, hj⟩ := List.mem_iff_getElem?.1 hc
        obtain ⟨_, m, rfl, _⟩ := edA_cell hj
        rfl
      · rw [List.getElem?_map] at hi
        obtain ⟨e, he, rfl⟩ := Option.map_eq_some_iff.1 hi
        obtain ⟨hj2, m, rfl, hm⟩ := edA_cell hj
        show VR _ _ _ (flatK encE 2 (msE l).toArray)[i * 2 + j]!
        rw [flatE_at he hj2, hm]
        exact .int _ _
end
section
/-
  slices.Compact at edges, walked in the plain machine.
-/
open Go.RowKit
set_option linter.unusedVariables false
set_option linter.unusedSimpArgs false
set_option maxRecDepth 100000
attribute [local go_sem ↓] runOp headOp
/-! ### slices.Compact[[][2]int,[2]int] -/
def r_cpt_0 : Reg := ⟨[], [⟨(.mknil 2 30), (some 2), none, [], []⟩], [2], [], false⟩
def r_cpt_1 : List XOp := [(.op [] ⟨(.mv (.t 0)), (some 6), none, [], []⟩), (.op [] ⟨(.len false (.t 6)), (some 7), none, [], []⟩), (.op [] ⟨(.bin .lss (.t 7) (.c (.int .i64 2))), (some 8), none, [], []⟩)]
def r_cpt_2 : Reg := ⟨[], [⟨(.mv (.t 0)), (some 9), none, [], []⟩, ⟨(.mv (.t 9)), (some 2), none, [], []⟩], [], [], false⟩
def r_cpt_3 : Reg := ⟨[], [⟨(.mv (.c (.int .i64 1))), (some 3), none, [], []⟩], [], [], false⟩
def t_cpt_4 : List ROp := [⟨(.mv (.t 3)), (some 10), none, [], []⟩, ⟨(.mv (.t 0)), (some 11), none, [], []⟩, ⟨(.len false (.t 11)), (some 12), none, [], []⟩, ⟨(.bin .lss (.t 10) (.t 12)), (some 13), none, [], []⟩]
def r_cpt_4 : Reg := ⟨[], t_cpt_4, [], [], false⟩
def h_cpt_5 : List ROp := [⟨(.mv (.t 0)), (some 16), none, [], []⟩, ⟨(.mv (.t 3)), (some 17), none, [], []⟩, ⟨(.iaddr 2 (.t 16) (.t 17)), (some 18), none, [], []⟩, ⟨(.load 2 true (.t 18)), (some 19), none, [], []⟩, ⟨(.mv (.t 0)), (some 20), none, [], []⟩, ⟨(.mv (.t 3)), (some 21), none, [], []⟩, ⟨(.bin .sub (.t 21) (.c (.int .i64 1))), (some 22), none, [], []⟩, ⟨(.iaddr 2 (.t 20) (.t 22)), (some 23), none, [], []⟩, ⟨(.load 2 true (.t 23)), (some 24), none, [], []⟩]
def r_cpt_5 : Reg := ⟨h_cpt_5, [⟨(.feq false [(0, 0), (1, 0)] (.t 19) (.t 24)), (some 25), none, [], []⟩], [], [], true⟩
def t_cpt_6 : List ROp := [⟨(.mv (.t 0)), (some 26), none, [], []⟩, ⟨(.mv (.t 3)), (some 27), none, [], []⟩, ⟨(.slc true 2 (.t 26) (some (.t 27)) none), (some 28), none, [], []⟩, ⟨(.mv (.t 28)), (some 4), none, [], []⟩]
def r_cpt_6 : Reg := ⟨[], t_cpt_6, [], [], false⟩
def r_cpt_7 : Reg := ⟨[], [⟨(.mv (.c (.int .i64 1))), (some 5), none, [], []⟩], [], [], false⟩
def t_cpt_8 : List ROp := [⟨(.mv (.t 5)), (some 29), none, [], []⟩, ⟨(.mv (.t 4)), (some 30), none, [], []⟩, ⟨(.len false (.t 30)), (some 31), none, [], []⟩, ⟨(.bin .lss (.t 29) (.t 31)), (some 32), none, [], []⟩]
def r_cpt_8 : Reg := ⟨[], t_cpt_8, [], [], false⟩
def h_cpt_9 : List ROp := [⟨(.mv (.t 4)), (some 35), none, [], []⟩, ⟨(.mv (.t 5)), (some 36), none, [], []⟩, ⟨(.iaddr 2 (.t 35) (.t 36)), (some 37), none, [], []⟩, ⟨(.load 2 true (.t 37)), (some 38), none, [], []⟩, ⟨(.mv (.t 4)), (some 39), none, [], []⟩, ⟨(.mv (.t 5)), (some 40), none, [], []⟩, ⟨(.bin .sub (.t 40) (.c (.int .i64 1))), (some 41), none, [], []⟩, ⟨(.iaddr 2 (.t 39) (.t 41)), (some 42), none, [], []⟩, ⟨(.load 2 true (.t 42)), (some 43), none, [], []⟩]
def r_cpt_9 : Reg := ⟨h_cpt_9, [⟨(.feq true [(0, 0), (1, 0)] (.t 38) (.t 43)), (some 44), none, [], []⟩], [], [], true⟩
def t_cpt_10 : List ROp := [⟨(.mv (.t 0)), (some 45), none, [], []⟩, ⟨(.mv (.t 3)), (some 46), none, [], []⟩, ⟨(.mv (.t 4)), (some 47), none, [], []⟩, ⟨(.mv (.t 5)), (some 48), none, [], []⟩, ⟨(.iaddr 2 (.t 47) (.t 48)), (some 49), none, [], []⟩, ⟨(.load 2 true (.t 49)), (some 50), none, [], []⟩, ⟨(.iaddr 2 (.t 45) (.t 46)), (some 51), none, [], []⟩, ⟨(.store 2 (.t 51) (.t 50)), none, none, [], []⟩]
def r_cpt_10 : Reg := ⟨[], t_cpt_10, [], [], false⟩
def t_cpt_11 : List ROp := [⟨(.mv (.t 3)), (some 52), none, [], []⟩, ⟨(.bin .add (.t 52) (.c (.int .i64 1))), (some 53), none, [], []⟩, ⟨(.mv (.t 53)), (some 3), none, [], []⟩]
def r_cpt_11 : Reg := ⟨[], t_cpt_11, [], [], false⟩
def t_cpt_12 : List ROp := [⟨(.mv (.t 5)), (some 33), none, [], []⟩, ⟨(.bin .add (.t 33) (.c (.int .i64 1))), (some 34), none, [], []⟩, ⟨(.mv (.t 34)), (some 5), none, [], []⟩]
def r_cpt_12 : Reg := ⟨[], t_cpt_12, [], [], false⟩
def r_cpt_l13 : IR := (.seq (.seq (.reg r_cpt_8)
  (.cond (.t 32) .skip
  (.exit 2)))
  (.seq (.block 3 (.seq (.reg r_cpt_9)
  (.cond (.t 44) (.seq (.reg r_cpt_10)
  (.reg r_cpt_11))
  .skip)))
  (.reg r_cpt_12)))
def t_cpt_14 : List ROp := [⟨(.mv (.t 0)), (some 54), none, [], []⟩, ⟨(.mv (.t 3)), (some 55), none, [], []⟩, ⟨(.slc true 2 (.t 54) (some (.t 55)) none), (some 56), none, [], []⟩, ⟨(.copy 2 (.t 56) (.c (.agg [(.int .i64 0), (.int .i64 0)]))), none, none, [], []⟩]
def r_cpt_14 : Reg := ⟨[], t_cpt_14, [], [], false⟩
def t_cpt_15 : List ROp := [⟨(.mv (.t 0)), (some 57), none, [], []⟩, ⟨(.mv (.t 3)), (some 58), none, [], []⟩, ⟨(.slc true 2 (.t 57) none (some (.t 58))), (some 59), none, [], []⟩, ⟨(.mv (.t 59)), (some 2), none, [], []⟩]
def r_cpt_15 : Reg := ⟨[], t_cpt_15, [], [], false⟩
def t_cpt_16 : List ROp := [⟨(.mv (.t 3)), (some 14), none, [], []⟩, ⟨(.bin .add (.t 14) (.c (.int .i64 1))), (some 15), none, [], []⟩, ⟨(.mv (.t 15)), (some 3), none, [], []⟩]
def r_cpt_16 : Reg := ⟨[], t_cpt_16, [], [], false⟩
def r_cpt_l17 : IR := (.seq (.seq (.reg r_cpt_4)
  (.cond (.t 13) .skip
  (.exit 0)))
  (.seq (.block 1 (.seq (.reg r_cpt_5)
  (.cond (.t 25) (.seq (.reg r_cpt_6)
  (.seq (.seq (.reg r_cpt_7)
  (.block 2 (.loop r_cpt_l13)))
  (.seq (.reg r_cpt_14)
  (.seq (.reg r_cpt_15)
  .ret))))
  .skip)))
  (.reg r_cpt_16)))
def r_cpt_18 : Reg := ⟨[], [⟨(.mv (.t 0)), (some 60), none, [], []⟩, ⟨(.mv (.t 60)), (some 2), none, [], []⟩], [], [], false⟩
def ir_cpt (P : Program) : IR := (.seq (.reg r_cpt_0)
  (.seq (.seq (.regx P r_cpt_1)
  (.cond (.t 8) (.seq (.reg r_cpt_2)
  .ret)
  .skip))
  (.seq (.seq (.reg r_cpt_3)
  (.block 0 (.loop r_cpt_l17)))
  (.seq (.reg r_cpt_18)
  .ret))))
def res_cpt : List RDesc := [(.tmp 2)]
theorem e_cpt_0 (C : FuncId → List AV → AV → Prop) (σ : St) (K : St → Prop) : runReg C r_cpt_0 σ K = runOps C [⟨(.mknil 2 30), (some 2), none, [], []⟩] (σ.kills [2]) K := rfl
theorem e_cpt_2 (C : FuncId → List AV → AV → Prop) (σ : St) (K : St → Prop) : runReg C r_cpt_2 σ K = runOps C [⟨(.mv (.t 0)), (some 9), none, [], []⟩, ⟨(.mv (.t 9)), (some 2), none, [], []⟩] (σ.kills []) K := rfl
theorem e_cpt_3 (C : FuncId → List AV → AV → Prop) (σ : St) (K : St → Prop) : runReg C r_cpt_3 σ K = runOps C [⟨(.mv (.c (.int .i64 1))), (some 3), none, [], []⟩] (σ.kills []) K := rfl
theorem e_cpt_4 (C : FuncId → List AV → AV → Prop) (σ : St) (K : St → Prop) : runReg C r_cpt_4 σ K = runOps C t_cpt_4 (σ.kills []) K := rfl
theorem e_cpt_5 (C : FuncId → List AV → AV → Prop) (σ : St) (K : St → Prop) : runReg C r_cpt_5 σ K = runHead C [] [⟨(.feq false [(0, 0), (1, 0)] (.t 19) (.t 24)), (some 25), none, [], []⟩] h_cpt_5 (σ.kills []) K := rfl
theorem e_cpt_6 (C : FuncId → List AV → AV → Prop) (σ : St) (K : St → Prop) : runReg C r_cpt_6 σ K = runOps C t_cpt_6 (σ.kills []) K := rfl
theorem e_cpt_7 (C : FuncId → List AV → AV → Prop) (σ : St) (K : St → Prop) : runReg C r_cpt_7 σ K = runOps C [⟨(.mv (.c (.int .i64 1))), (some 5), none, [], []⟩] (σ.kills []) K := rfl
theorem e_cpt_8 (C : FuncId → List AV → AV → Prop) (σ : St) (K : St → Prop) : runReg C r_cpt_8 σ K = runOps C t_cpt_8 (σ.kills []) K := rfl
theorem e_cpt_9 (C : FuncId → List AV → AV → Prop) (σ : St) (K : St → Prop) : runReg C r_cpt_9 σ K = runHead C [] [⟨(.feq true [(0, 0), (1, 0)] (.t 38) (.t 43)), (some 44), none, [], []⟩] h_cpt_9 (σ.kills []) K := rfl
theorem e_cpt_10 (C : FuncId → List AV → AV → Prop) (σ : St) (K : St → Prop) : runReg C r_cpt_10 σ K = runOps C t_cpt_10 (σ.kills []) K := rfl
theorem e_cpt_11 (C : FuncId → List AV → AV → Prop) (σ : St) (K : St → Prop) : runReg C r_cpt_11 σ K = runOps C t_cpt_11 (σ.kills []) K := rfl
theorem e_cpt_12 (C : FuncId → List AV → AV → Prop) (σ : St) (K : St → Prop) : runReg C r_cpt_12 σ K = runOps C t_cpt_12 (σ.kills []) K := rfl
theorem e_cpt_14 (C : FuncId → List AV → AV → Prop) (σ : St) (K : St → Prop) : runReg C r_cpt_14 σ K = runOps C t_cpt_14 (σ.kills []) K := rfl
theorem e_cpt_15 (C : FuncId → List AV → AV → Prop) (σ : St) (K : St → Prop) : runReg C r_cpt_15 σ K = runOps C t_cpt_15 (σ.kills []) K := rfl
theorem e_cpt_16 (C : FuncId → List AV → AV → Prop) (σ : St) (K : St → Prop) : runReg C r_cpt_16 σ K = runOps C t_cpt_16 (σ.kills []) K := rfl
theorem e_cpt_18 (C : FuncId → List AV → AV → Prop) (σ : St) (K : St → Prop) : runReg C r_cpt_18 σ K = runOps C [⟨(.mv (.t 0)), (some 60), none, [], []⟩, ⟨(.mv (.t 60)), (some 2), none, [], []⟩] (σ.kills []) K := rfl
theorem fnm_cpt {args : List AV} {r : AV} {H H' : Nat → Option Arr} (ha : args.length.ble Try.f17.ntmps = true) (h : run (AFn Try.prog) (ir_cpt Try.prog) (endM res_cpt r H') (initM args H)) : MFn Try.prog 17 args H r H' :=
  MFn.of_code (pv := true) (hint := fun i => if [1].contains i then [1] else []) (c := Try.f17.body.getD .skip) (by kernel_rfl) (by kernel_rfl) Try.func17 (by kernel_rfl) (by kernel_rfl) (by kernel_rfl) (of_decide_eq_true (by kernel_rfl)) (Nat.le_of_ble_eq_true ha) (Nat.le_of_ble_eq_true (by kernel_rfl)) (run_ok h)
attribute [local go_sem ↓] ir_cpt
attribute [local go_sem] res_cpt e_cpt_0 e_cpt_2 e_cpt_3 e_cpt_4 t_cpt_4 e_cpt_5 h_cpt_5 e_cpt_6 t_cpt_6 e_cpt_7 e_cpt_8 t_cpt_8 e_cpt_9 h_cpt_9 e_cpt_10 t_cpt_10 e_cpt_11 t_cpt_11 e_cpt_12 t_cpt_12 e_cpt_14 t_cpt_14 e_cpt_15 t_cpt_15 e_cpt_16 t_cpt_16 e_cpt_18 r_cpt_1
def onlyE (H0 H : Nat → Option Arr) (r : Nat) (X : List Edge) : Prop := (∀ q, q ≠ r → H (q + 1000) = H0 q) ∧ H (r + 1000) = ObjE X
def nulE : AV := .agg [.int .i64 0, .int .i64 0]
def cOut (H : Nat → Option Arr) (r : Nat) (l : List Edge) (k : Nat) (σ : St) : Prop :=
  ∃ i : Nat, 1 ≤ i ∧ i ≤ l.length ∧ (∀ (j : Nat) (x y : Edge), j + 1 < i → l[j]? = some y → l[j + 1]? = some x → y ≠ x) ∧ k = l.length - i ∧ σ.T 0 = .rs (r + 1000) 0 l.length ∧ σ.T 3 = .int .i64 i ∧ onlyE H σ.H r l
def cIn (H : Nat → Option Arr) (r : Nat) (l : List Edge) (k0 : Nat) (m : Nat) (σ : St) : Prop :=
  ∃ (p i : Nat) (X : List Edge), k0 + p + 1 ≤ l.length ∧ i ≤ k0 + p ∧ X.length = l.length ∧ X.take i = comE (l.take (k0 + p + 1)) ∧ (comE (l.take (k0 + p + 1))).length = i ∧ X.drop (k0 + p) = l.drop (k0 + p) ∧ m = l.length - (k0 + p + 1) ∧
    σ.T 0 = .rs (r + 1000) 0 l.length ∧ σ.T 3 = .int .i64 i ∧ σ.T 4 = .rs (r + 1000) k0 (l.length - k0) ∧ σ.T 5 = .int .i64 ((p + 1 : Nat) : Int) ∧ onlyE H σ.H r X
theorem leastN {p : Nat → Prop} (h : ∃ k, p k) : ∃ k, p k ∧ ∀ j, j < k → ¬ p j := by
  obtain ⟨k, hk⟩ := h
  induction k using Nat.strongRecOn with
  | _ k ih =>
    by_cases h : ∃ j, j < k ∧ p j
    · obtain ⟨j, hj, hp⟩ := h
      exact ih j hj hp
    · exact ⟨k, hk, fun j hj hp => h ⟨j, hj, hp⟩⟩
theorem drop_getE {X l : List Edge} {k : Nat} (h : X.drop k = l.drop k) (j : Nat) : X[k + j]? = l[k + j]? := by
  have : (X.drop k)[j]? = (l.drop k)[j]? := by rw [h]
  rwa [List.getElem?_drop, List.getElem?_drop] at this
set_option maxHeartbeats 8000000 in
theorem cpt_ok (H : Nat → Option Arr) (r : Nat) (l : List Edge) (hl : l.length ≤ 1000000) (hr : H r = ObjE l) :
    ∃ H', MFn Try.prog 17 [.rs r 0 l.length] H (.sl ((comE l).map edA)) H' := by
  have hs : (H r).isSome = true := by rw [hr]; rfl
  by_cases hl2 : l.length < 2
  · have hl2' : (l.length : Int) < 2 := by omega
    rw [comE_one (by omega)]
    refine ⟨upd H r (some ⟨2, 30, l.map edA, l.length⟩), fnm_cpt rfl ?_⟩
    simp (maxSteps := 4000000) only [go_sem, ↓reduceIte, reduceCtorEq, Nat.reduceEqDiff, Nat.reduceBEq, Nat.reduceAdd, Nat.reduceSub, Nat.reduceMul, Nat.reduceLT, Nat.reduceLeDiff, Nat.reduceBNe, Int.reduceBEq, Int.reduceBNe, Int.reduceLT, Int.reduceLE, evW, retM, edA, sh, hs, hl2', hr, ObjE]
    refine ⟨(List.take_of_length_le (by rw [List.length_map]; exact Nat.le_refl _)).symm, fun q => ?_⟩
    rw [List.length_map]
  have hl2' : ¬ (l.length : Int) < 2 := by omega
  by_cases hex : ∃ k, k + 1 < l.length ∧ l[k]? = l[k + 1]?
  · obtain ⟨k0, ⟨hk0, hke⟩, hmin⟩ := leastN hex
    have hpre : comE (l.take (k0 + 1)) = l.take (k0 + 1) := comE_all (k0 + 1) fun i x y hi hy hx e => hmin i (by omega) ⟨by omega, by rw [hy, hx, e]⟩
    refine ⟨upd H r (some ⟨2, 30, (comE l).map edA ++ List.replicate (l.length - (comE l).length) nulE, l.length⟩), fnm_cpt rfl ?_⟩
    simp (maxSteps := 4000000) only [go_sem, ↓reduceIte, reduceCtorEq, Nat.reduceEqDiff, Nat.reduceBEq, Nat.reduceAdd, Nat.reduceSub, Nat.reduceMul, Nat.reduceLT, Nat.reduceLeDiff, Nat.reduceBNe, Int.reduceBEq, Int.reduceBNe, Int.reduceLT, Int.reduceLE, evW, retM, edA, sh, hs, hl2']
    refine run_loop (cOut H r l) (k := l.length - 1) ⟨1, Nat.le_refl _, by omega, fun j x y hj => by omega, rfl, ?_, ?_, ?_⟩ ?_
    · (simp (maxSteps := 4000000) only [go_sem, ↓reduceIte, reduceCtorEq, Nat.reduceEqDiff, Nat.reduceBEq, Nat.reduceAdd, Nat.reduceSub, Nat.reduceMul, Nat.reduceLT, Nat.reduceLeDiff, Nat.reduceBNe, Int.reduceBEq, Int.reduceBNe, Int.reduceLT, Int.reduceLE, evW, retM, edA, sh])
    · (simp (maxSteps := 4000000) only [go_sem, ↓reduceIte, reduceCtorEq, Nat.reduceEqDiff, Nat.reduceBEq, Nat.reduceAdd, Nat.reduceSub, Nat.reduceMul, Nat.reduceLT, Nat.reduceLeDiff, Nat.reduceBNe, Int.reduceBEq, Int.reduceBNe, Int.reduceLT, Int.reduceLE, evW, retM, edA, sh]) <;> rfl
    · refine ⟨fun q hq => ?_, ?_⟩
      · simp (maxSteps := 4000000) only [go_sem, ↓reduceIte, reduceCtorEq, Nat.reduceEqDiff, Nat.reduceBEq, Nat.reduceAdd, Nat.reduceSub, Nat.reduceMul, Nat.reduceLT, Nat.reduceLeDiff, Nat.reduceBNe, Int.reduceBEq, Int.reduceBNe, Int.reduceLT, Int.reduceLE, evW, retM, edA]
      · simp (maxSteps := 4000000) only [go_sem, ↓reduceIte, reduceCtorEq, Nat.reduceEqDiff, Nat.reduceBEq, Nat.reduceAdd, Nat.reduceSub, Nat.reduceMul, Nat.reduceLT, Nat.reduceLeDiff, Nat.reduceBNe, Int.reduceBEq, Int.reduceBNe, Int.reduceLT, Int.reduceLE, evW, retM, edA, hr]
    rintro k σ ⟨i, hi1, hil, hno, rfl, t0, t3, hH⟩
    simp only [r_cpt_l17]
    have hX2 := hH.2
    unfold ObjE at hX2
    have hik : i ≤ k0 + 1 := by
      rcases Nat.lt_or_ge (k0 + 1) i with h | h
      · obtain ⟨y, hy⟩ := getW (show k0 < l.length by omega)
        obtain ⟨x, hx⟩ := getW hk0
        rw [hy, hx] at hke
        cases hke
        exact absurd rfl (hno k0 y y h hy hx)
      · exact h
    have hlt : i < l.length := by omega
    have hlt' : (i : Int) < (l.length : Int) := by omega
    obtain ⟨m, rfl⟩ : ∃ m, i = m + 1 := ⟨i - 1, by omega⟩
    obtain ⟨x, hx⟩ := getW hlt
    obtain ⟨y, hy⟩ := getW (show m < l.length by omega)
    have hgx := atE hx
    have hgy := atE hy
    have hwm := wrapM m (by omega)
    have hw := wrapW (j := m + 1) (by omega)
    have z0 : (0 : Int) ≤ (m : Int) := Int.natCast_nonneg _
    have z1 : (0 : Int) ≤ ((m + 1 : Nat) : Int) := Int.natCast_nonneg _
    have hml : m < l.length := by omega
    have hml' : (m : Int) < (l.length : Int) := by omega
    by_cases hmk : m = k0
    · subst hmk
      have hxy : x = y := by rw [hy, hx] at hke; cases hke; rfl
      have q1 : (x.1 == y.1) = true := by simp [hxy]
      have q2 : (x.2 == y.2) = true := by simp [hxy]
      have hi2 : m + 1 ≤ l.length := by omega
      have hi3 : ((m + 1 : Nat) : Int) ≤ (l.length : Int) := by omega
      simp (maxSteps := 4000000) only [go_sem, ↓reduceIte, reduceCtorEq, Nat.reduceEqDiff, Nat.reduceBEq, Nat.reduceAdd, Nat.reduceSub, Nat.reduceMul, Nat.reduceLT, Nat.reduceLeDiff, Nat.reduceBNe, Int.reduceBEq, Int.reduceBNe, Int.reduceLT, Int.reduceLE, evW, retM, edA, t0, t3, hlt', hX2, hgx, hgy, hwm, hw, z0, z1, hlt, hml, hml', hi2, hi3, q1, q2, Int.toNat_natCast, List.length_map]
      have hst : comE (l.take (m + 1 + 0 + 1)) = l.take (m + 1) := by
        rw [show m + 1 + 0 + 1 = m + 2 from rfl, comE_take hy hx, if_pos hxy.symm, List.append_nil, hpre]
      refine run_loop (cIn H r l (m + 1)) (k := l.length - (m + 1 + 0 + 1)) ⟨0, m + 1, l, by omega, by omega, rfl, hst.symm, by rw [hst, List.length_take]; omega, rfl, rfl, ?_, ?_, ?_, ?_, ?_⟩ ?_
      · simp (maxSteps := 4000000) only [go_sem, ↓reduceIte, reduceCtorEq, Nat.reduceEqDiff, Nat.reduceBEq, Nat.reduceAdd, Nat.reduceSub, Nat.reduceMul, Nat.reduceLT, Nat.reduceLeDiff, Nat.reduceBNe, Int.reduceBEq, Int.reduceBNe, Int.reduceLT, Int.reduceLE, evW, retM, edA, t0]
      · simp (maxSteps := 4000000) only [go_sem, ↓reduceIte, reduceCtorEq, Nat.reduceEqDiff, Nat.reduceBEq, Nat.reduceAdd, Nat.reduceSub, Nat.reduceMul, Nat.reduceLT, Nat.reduceLeDiff, Nat.reduceBNe, Int.reduceBEq, Int.reduceBNe, Int.reduceLT, Int.reduceLE, evW, retM, edA, t3]
      · simp (maxSteps := 4000000) only [go_sem, ↓reduceIte, reduceCtorEq, Nat.reduceEqDiff, Nat.reduceBEq, Nat.reduceAdd, Nat.reduceSub, Nat.reduceMul, Nat.reduceLT, Nat.reduceLeDiff, Nat.reduceBNe, Int.reduceBEq, Int.reduceBNe, Int.reduceLT, Int.reduceLE, evW, retM, edA]
      · (simp (maxSteps := 4000000) only [go_sem, ↓reduceIte, reduceCtorEq, Nat.reduceEqDiff, Nat.reduceBEq, Nat.reduceAdd, Nat.reduceSub, Nat.reduceMul, Nat.reduceLT, Nat.reduceLeDiff, Nat.reduceBNe, Int.reduceBEq, Int.reduceBNe, Int.reduceLT, Int.reduceLE, evW, retM, edA]) <;> rfl
      · refine ⟨fun q hq => ?_, ?_⟩
        · have := hH.1 q hq
          simp (maxSteps := 4000000) only [go_sem, ↓reduceIte, reduceCtorEq, Nat.reduceEqDiff, Nat.reduceBEq, Nat.reduceAdd, Nat.reduceSub, Nat.reduceMul, Nat.reduceLT, Nat.reduceLeDiff, Nat.reduceBNe, Int.reduceBEq, Int.reduceBNe, Int.reduceLT, Int.reduceLE, evW, retM, edA, this]
        · have := hH.2
          simp (maxSteps := 4000000) only [go_sem, ↓reduceIte, reduceCtorEq, Nat.reduceEqDiff, Nat.reduceBEq, Nat.reduceAdd, Nat.reduceSub, Nat.reduceMul, Nat.reduceLT, Nat.reduceLeDiff, Nat.reduceBNe, Int.reduceBEq, Int.reduceBNe, Int.reduceLT, Int.reduceLE, evW, retM, edA, this]
      clear hX2 hgx hgy hwm hw z0 z1 hml hml' q1 q2 hi3 hst hH t0 t3 hno hik hlt'
      rintro k σ ⟨p, i, X, hpl, hip, hXl, hXt, hXc, hXd, rfl, t0, t3, t4, t5, hH⟩
      simp only [r_cpt_l13]
      have hX2 := hH.2
      unfold ObjE at hX2
      have z0 : ∀ a : Nat, (0 : Int) ≤ (a : Int) := fun a => Int.natCast_nonneg a
      by_cases hpe : m + 1 + p + 1 < l.length
      case neg =>
        have hpe' : ¬ ((p + 1 : Nat) : Int) < ((l.length - (m + 1) : Nat) : Int) := by omega
        have e0 : m + 1 + p + 1 = l.length := by omega
        rw [e0, List.take_length] at hXt hXc
        have hi2 : i ≤ l.length := by omega
        have hi3 : (i : Int) ≤ (l.length : Int) := by omega
        simp (maxSteps := 4000000) only [go_sem, ↓reduceIte, reduceCtorEq, Nat.reduceEqDiff, Nat.reduceBEq, Nat.reduceAdd, Nat.reduceSub, Nat.reduceMul, Nat.reduceLT, Nat.reduceLeDiff, Nat.reduceBNe, Int.reduceBEq, Int.reduceBNe, Int.reduceLT, Int.reduceLE, evW, retM, edA, t0, t3, t4, t5, hpe', hX2, z0, hi2, hi3, hXl, Int.toNat_natCast, List.length_map]
        have e1 : (X.map edA).take i = (comE l).map edA := by rw [← List.map_take, hXt]
        have e2 : (X.map edA).drop (i + (l.length - i)) = [] := List.drop_eq_nil_of_le (by rw [List.length_map]; omega)
        have e3 : ((comE l).map edA).length = i := by rw [List.length_map, hXc]
        rw [e1, e2, List.append_nil]
        refine ⟨by rw [Nat.sub_zero, List.take_append_of_le_length (by omega), List.take_of_length_le (by omega)], fun q => ?_⟩
        by_cases hq : q = r
        · rw [if_pos hq, if_pos hq, hXc, List.length_append, e3, List.length_replicate, show i + (l.length - i) = l.length by omega]
          rfl
        · rw [if_neg hq, if_neg hq, if_neg hq]
          exact hH.1 q hq
      have hpe' : ((p + 1 : Nat) : Int) < ((l.length - (m + 1) : Nat) : Int) := by omega
      have hpp' : ((p : Nat) : Int) < ((l.length - (m + 1) : Nat) : Int) := by omega
      have hpe2 : p + 1 < l.length - (m + 1) := by omega
      have hpp2 : p < l.length - (m + 1) := by omega
      obtain ⟨x2, hx2⟩ := getW hpe
      obtain ⟨y2, hy2⟩ := getW (show m + 1 + p < l.length by omega)
      have hgx := atE ((drop_getE hXd 1).trans hx2)
      have hgy := atE ((drop_getE hXd 0).trans hy2)
      rw [Nat.add_zero] at hgy
      have hgx' : (X.map edA).getD (m + 1 + (p + 1)) .und = .agg [.int .i64 x2.1, .int .i64 x2.2] := hgx
      have hwm := wrapM p (by omega)
      have hw := wrapW (j := p + 1) (by omega)
      have hwi := wrapW (j := i) (by omega)
      have hct := comE_take hy2 hx2
      have hset : (X.map edA).set i (.agg [.int .i64 x2.1, .int .i64 x2.2]) = (X.set i x2).map edA := List.map_set.symm
      have hi' : i < l.length := by omega
      obtain ⟨z, hz⟩ := getW (show i < X.length by omega)
      have hgi := atE hz
      have hii : (i : Int) < (l.length : Int) := by omega
      have hxl1 : m + 1 + (p + 1) < l.length := by omega
      have hxl0 : m + 1 + p < l.length := by omega
      cases q1 : x2.1 == y2.1 <;> cases q2 : x2.2 == y2.2
      case true.true =>
        have he : y2 = x2 := (edge_ext (by simpa using q1) (by simpa using q2)).symm
        rw [if_pos he, List.append_nil] at hct
        simp (maxSteps := 4000000) only [go_sem, ↓reduceIte, reduceCtorEq, Nat.reduceEqDiff, Nat.reduceBEq, Nat.reduceAdd, Nat.reduceSub, Nat.reduceMul, Nat.reduceLT, Nat.reduceLeDiff, Nat.reduceBNe, Int.reduceBEq, Int.reduceBNe, Int.reduceLT, Int.reduceLE, evW, retM, edA, t0, t3, t4, t5, hpe', hpp', hpe2, hpp2, hX2, hgx, hgx', hgy, hwm, hw, hwi, z0, hXl, hxl0, hxl1, q1, q2, Int.toNat_natCast, List.length_map]
        have hdn : X.drop (m + 1 + (p + 1)) = l.drop (m + 1 + (p + 1)) := by
          have := congrArg (List.drop 1) hXd
          rwa [List.drop_drop, List.drop_drop] at this
        refine ⟨l.length - (m + 1 + (p + 1) + 1), by omega, p + 1, i, X, by omega, by omega, hXl, by rw [hXt]; exact hct.symm, by rw [← hXc]; exact congrArg List.length hct, hdn, rfl, ?_, ?_, ?_, ?_, ?_⟩
        · simp (maxSteps := 4000000) only [go_sem, ↓reduceIte, reduceCtorEq, Nat.reduceEqDiff, Nat.reduceBEq, Nat.reduceAdd, Nat.reduceSub, Nat.reduceMul, Nat.reduceLT, Nat.reduceLeDiff, Nat.reduceBNe, Int.reduceBEq, Int.reduceBNe, Int.reduceLT, Int.reduceLE, evW, retM, edA, t0]
        · simp (maxSteps := 4000000) only [go_sem, ↓reduceIte, reduceCtorEq, Nat.reduceEqDiff, Nat.reduceBEq, Nat.reduceAdd, Nat.reduceSub, Nat.reduceMul, Nat.reduceLT, Nat.reduceLeDiff, Nat.reduceBNe, Int.reduceBEq, Int.reduceBNe, Int.reduceLT, Int.reduceLE, evW, retM, edA, t3]
        · simp (maxSteps := 4000000) only [go_sem, ↓reduceIte, reduceCtorEq, Nat.reduceEqDiff, Nat.reduceBEq, Nat.reduceAdd, Nat.reduceSub, Nat.reduceMul, Nat.reduceLT, Nat.reduceLeDiff, Nat.reduceBNe, Int.reduceBEq, Int.reduceBNe, Int.reduceLT, Int.reduceLE, evW, retM, edA, t4]
        · simp (maxSteps := 4000000) only [go_sem, ↓reduceIte, reduceCtorEq, Nat.reduceEqDiff, Nat.reduceBEq, Nat.reduceAdd, Nat.reduceSub, Nat.reduceMul, Nat.reduceLT, Nat.reduceLeDiff, Nat.reduceBNe, Int.reduceBEq, Int.reduceBNe, Int.reduceLT, Int.reduceLE, evW, retM, edA, hw]
        · refine ⟨fun q hq => ?_, ?_⟩
          · have := hH.1 q hq
            simp (maxSteps := 4000000) only [go_sem, ↓reduceIte, reduceCtorEq, Nat.reduceEqDiff, Nat.reduceBEq, Nat.reduceAdd, Nat.reduceSub, Nat.reduceMul, Nat.reduceLT, Nat.reduceLeDiff, Nat.reduceBNe, Int.reduceBEq, Int.reduceBNe, Int.reduceLT, Int.reduceLE, evW, retM, edA, this]
          · have := hH.2
            simp (maxSteps := 4000000) only [go_sem, ↓reduceIte, reduceCtorEq, Nat.reduceEqDiff, Nat.reduceBEq, Nat.reduceAdd, Nat.reduceSub, Nat.reduceMul, Nat.reduceLT, Nat.reduceLeDiff, Nat.reduceBNe, Int.reduceBEq, Int.reduceBNe, Int.reduceLT, Int.reduceLE, evW, retM, edA, this]
      all_goals
        have hne : ¬ y2 = x2 := fun e => by subst e; simp at q1 q2
        rw [if_neg hne] at hct
        simp (maxSteps := 4000000) only [go_sem, ↓reduceIte, reduceCtorEq, Nat.reduceEqDiff, Nat.reduceBEq, Nat.reduceAdd, Nat.reduceSub, Nat.reduceMul, Nat.reduceLT, Nat.reduceLeDiff, Nat.reduceBNe, Int.reduceBEq, Int.reduceBNe, Int.reduceLT, Int.reduceLE, evW, retM, edA, t0, t3, t4, t5, hpe', hpp', hpe2, hpp2, hX2, hgx, hgx', hgy, hwm, hw, hwi, z0, hXl, hxl0, hxl1, hset, hgi, hi', hii, q1, q2, Int.toNat_natCast, List.length_map]
      all_goals
        refine ⟨l.length - (m + 1 + (p + 1) + 1), by omega, p + 1, i + 1, X.set i x2, by omega, by omega, by rw [List.length_set]; exact hXl, ?_, ?_, ?_, rfl, ?_, ?_, ?_, ?_, ?_⟩
        · rw [List.take_add_one, List.take_set_of_le (Nat.le_refl i), List.getElem?_set_self (by omega), hXt]
          exact hct.symm
        · rw [show m + 1 + (p + 1) + 1 = m + 1 + p + 2 from rfl, hct, List.length_append, hXc]; rfl
        · rw [List.drop_set_of_lt (by omega)]
          have := congrArg (List.drop 1) hXd
          rwa [List.drop_drop, List.drop_drop] at this
        · simp (maxSteps := 4000000) only [go_sem, ↓reduceIte, reduceCtorEq, Nat.reduceEqDiff, Nat.reduceBEq, Nat.reduceAdd, Nat.reduceSub, Nat.reduceMul, Nat.reduceLT, Nat.reduceLeDiff, Nat.reduceBNe, Int.reduceBEq, Int.reduceBNe, Int.reduceLT, Int.reduceLE, evW, retM, edA, t0]
        · simp (maxSteps := 4000000) only [go_sem, ↓reduceIte, reduceCtorEq, Nat.reduceEqDiff, Nat.reduceBEq, Nat.reduceAdd, Nat.reduceSub, Nat.reduceMul, Nat.reduceLT, Nat.reduceLeDiff, Nat.reduceBNe, Int.reduceBEq, Int.reduceBNe, Int.reduceLT, Int.reduceLE, evW, retM, edA, hwi]
        · simp (maxSteps := 4000000) only [go_sem, ↓reduceIte, reduceCtorEq, Nat.reduceEqDiff, Nat.reduceBEq, Nat.reduceAdd, Nat.reduceSub, Nat.reduceMul, Nat.reduceLT, Nat.reduceLeDiff, Nat.reduceBNe, Int.reduceBEq, Int.reduceBNe, Int.reduceLT, Int.reduceLE, evW, retM, edA, t4]
        · simp (maxSteps := 4000000) only [go_sem, ↓reduceIte, reduceCtorEq, Nat.reduceEqDiff, Nat.reduceBEq, Nat.reduceAdd, Nat.reduceSub, Nat.reduceMul, Nat.reduceLT, Nat.reduceLeDiff, Nat.reduceBNe, Int.reduceBEq, Int.reduceBNe, Int.reduceLT, Int.reduceLE, evW, retM, edA, hw]
        · refine ⟨fun q hq => ?_, ?_⟩
          · have := hH.1 q hq
            have qr : ¬ q = r := hq
            simp (maxSteps := 4000000) only [go_sem, ↓reduceIte, reduceCtorEq, Nat.reduceEqDiff, Nat.reduceBEq, Nat.reduceAdd, Nat.reduceSub, Nat.reduceMul, Nat.reduceLT, Nat.reduceLeDiff, Nat.reduceBNe, Int.reduceBEq, Int.reduceBNe, Int.reduceLT, Int.reduceLE, evW, retM, edA, qr, this]
          · unfold ObjE
            simp (maxSteps := 4000000) only [go_sem, ↓reduceIte, reduceCtorEq, Nat.reduceEqDiff, Nat.reduceBEq, Nat.reduceAdd, Nat.reduceSub, Nat.reduceMul, Nat.reduceLT, Nat.reduceLeDiff, Nat.reduceBNe, Int.reduceBEq, Int.reduceBNe, Int.reduceLT, Int.reduceLE, evW, retM, edA, hX2, hset, hgi]
    have hne : y ≠ x := fun e => hmin m (by omega) ⟨by omega, by rw [hy, hx, e]⟩
    cases q1 : x.1 == y.1 <;> cases q2 : x.2 == y.2
    case true.true =>
      exact absurd (edge_ext (by simpa using q1) (by simpa using q2)).symm hne
    all_goals
      simp (maxSteps := 4000000) only [go_sem, ↓reduceIte, reduceCtorEq, Nat.reduceEqDiff, Nat.reduceBEq, Nat.reduceAdd, Nat.reduceSub, Nat.reduceMul, Nat.reduceLT, Nat.reduceLeDiff, Nat.reduceBNe, Int.reduceBEq, Int.reduceBNe, Int.reduceLT, Int.reduceLE, evW, retM, edA, t0, t3, hlt', hX2, hgx, hgy, hwm, hw, z0, z1, hlt, hml, hml', q1, q2, Int.toNat_natCast, List.length_map]
      refine ⟨l.length - (m + 1 + 1), by omega, m + 1 + 1, by omega, hlt, fun j x' y' hj hy' hx' => ?_, rfl, ?_, ?_, ?_⟩
      · by_cases hjm : j + 1 < m + 1
        · exact hno j x' y' hjm hy' hx'
        · have : j = m := by omega
          subst this
          rw [hy] at hy'; rw [hx] at hx'
          cases hy'; cases hx'; exact hne
      · simp (maxSteps := 4000000) only [go_sem, ↓reduceIte, reduceCtorEq, Nat.reduceEqDiff, Nat.reduceBEq, Nat.reduceAdd, Nat.reduceSub, Nat.reduceMul, Nat.reduceLT, Nat.reduceLeDiff, Nat.reduceBNe, Int.reduceBEq, Int.reduceBNe, Int.reduceLT, Int.reduceLE, evW, retM, edA, t0]
      · simp (maxSteps := 4000000) only [go_sem, ↓reduceIte, reduceCtorEq, Nat.reduceEqDiff, Nat.reduceBEq, Nat.reduceAdd, Nat.reduceSub, Nat.reduceMul, Nat.reduceLT, Nat.reduceLeDiff, Nat.reduceBNe, Int.reduceBEq, Int.reduceBNe, Int.reduceLT, Int.reduceLE, evW, retM, edA, hw]
      · refine ⟨fun q hq => ?_, ?_⟩
        · have := hH.1 q hq
          simp (maxSteps := 4000000) only [go_sem, ↓reduceIte, reduceCtorEq, Nat.reduceEqDiff, Nat.reduceBEq, Nat.reduceAdd, Nat.reduceSub, Nat.reduceMul, Nat.reduceLT, Nat.reduceLeDiff, Nat.reduceBNe, Int.reduceBEq, Int.reduceBNe, Int.reduceLT, Int.reduceLE, evW, retM, edA, this]
        · have := hH.2
          simp (maxSteps := 4000000) only [go_sem, ↓reduceIte, reduceCtorEq, Nat.reduceEqDiff, Nat.reduceBEq, Nat.reduceAdd, Nat.reduceSub, Nat.reduceMul, Nat.reduceLT, Nat.reduceLeDiff, Nat.reduceBNe, Int.reduceBEq, Int.reduceBNe, Int.reduceLT, Int.reduceLE, evW, retM, edA, this]
  · have hall : ∀ (j : Nat) (x y : Edge), j + 1 < l.length → l[j]? = some y → l[j + 1]? = some x → y ≠ x := fun j x y hj hy hx e => hex ⟨j, hj, by rw [hy, hx, e]⟩
    have hc : comE l = l := by
      have := comE_all (l := l) l.length hall
      rwa [List.take_length] at this
    rw [hc]
    refine ⟨upd H r (some ⟨2, 30, l.map edA, l.length⟩), fnm_cpt rfl ?_⟩
    simp (maxSteps := 4000000) only [go_sem, ↓reduceIte, reduceCtorEq, Nat.reduceEqDiff, Nat.reduceBEq, Nat.reduceAdd, Nat.reduceSub, Nat.reduceMul, Nat.reduceLT, Nat.reduceLeDiff, Nat.reduceBNe, Int.reduceBEq, Int.reduceBNe, Int.reduceLT, Int.reduceLE, evW, retM, edA, sh, hs, hl2']
    refine run_loop (cOut H r l) (k := l.length - 1) ⟨1, Nat.le_refl _, by omega, fun j x y hj => by omega, rfl, ?_, ?_, ?_⟩ ?_
    · (simp (maxSteps := 4000000) only [go_sem, ↓reduceIte, reduceCtorEq, Nat.reduceEqDiff, Nat.reduceBEq, Nat.reduceAdd, Nat.reduceSub, Nat.reduceMul, Nat.reduceLT, Nat.reduceLeDiff, Nat.reduceBNe, Int.reduceBEq, Int.reduceBNe, Int.reduceLT, Int.reduceLE, evW, retM, edA, sh])
    · (simp (maxSteps := 4000000) only [go_sem, ↓reduceIte, reduceCtorEq, Nat.reduceEqDiff, Nat.reduceBEq, Nat.reduceAdd, Nat.reduceSub, Nat.reduceMul, Nat.reduceLT, Nat.reduceLeDiff, Nat.reduceBNe, Int.reduceBEq, Int.reduceBNe, Int.reduceLT, Int.reduceLE, evW, retM, edA, sh]) <;> rfl
    · refine ⟨fun q hq => ?_, ?_⟩
      · simp (maxSteps := 4000000) only [go_sem, ↓reduceIte, reduceCtorEq, Nat.reduceEqDiff, Nat.reduceBEq, Nat.reduceAdd, Nat.reduceSub, Nat.reduceMul, Nat.reduceLT, Nat.reduceLeDiff, Nat.reduceBNe, Int.reduceBEq, Int.reduceBNe, Int.reduceLT, Int.reduceLE, evW, retM, edA]
      · simp (maxSteps := 4000000) only [go_sem, ↓reduceIte, reduceCtorEq, Nat.reduceEqDiff, Nat.reduceBEq, Nat.reduceAdd, Nat.reduceSub, Nat.reduceMul, Nat.reduceLT, Nat.reduceLeDiff, Nat.reduceBNe, Int.reduceBEq, Int.reduceBNe, Int.reduceLT, Int.reduceLE, evW, retM, edA, hr]
    rintro k σ ⟨i, hi1, hil, hno, rfl, t0, t3, hH⟩
    simp only [r_cpt_l17]
    have hX2 := hH.2
    unfold ObjE at hX2
    by_cases hlt : i < l.length
    case neg =>
      have hlt' : ¬ (i : Int) < (l.length : Int) := by omega
      simp (maxSteps := 4000000) only [go_sem, ↓reduceIte, reduceCtorEq, Nat.reduceEqDiff, Nat.reduceBEq, Nat.reduceAdd, Nat.reduceSub, Nat.reduceMul, Nat.reduceLT, Nat.reduceLeDiff, Nat.reduceBNe, Int.reduceBEq, Int.reduceBNe, Int.reduceLT, Int.reduceLE, evW, retM, edA, t0, t3, hlt', hX2]
      refine ⟨(List.take_of_length_le (by rw [List.length_map]; exact Nat.le_refl _)).symm, fun q => ?_⟩
      by_cases hq : q = r
      · rw [if_pos hq, if_pos hq, List.length_map]
      · rw [if_neg hq, if_neg hq]; exact hH.1 q hq
    have hlt' : (i : Int) < (l.length : Int) := by omega
    obtain ⟨m, rfl⟩ : ∃ m, i = m + 1 := ⟨i - 1, by omega⟩
    obtain ⟨x, hx⟩ := getW hlt
    obtain ⟨y, hy⟩ := getW (show m < l.length by omega)
    have hne := hall m x y (by omega) hy hx
    have hgx := atE hx
    have hgy := atE hy
    have hwm := wrapM m (by omega)
    have hw := wrapW (j := m + 1) (by omega)
    have z0 : (0 : Int) ≤ (m : Int) := Int.natCast_nonneg _
    have z1 : (0 : Int) ≤ ((m + 1 : Nat) : Int) := Int.natCast_nonneg _
    have hml : m < l.length := by omega
    have hml' : (m : Int) < (l.length : Int) := by omega
    cases q1 : x.1 == y.1 <;> cases q2 : x.2 == y.2
    case true.true =>
      exact absurd (edge_ext (by simpa using q1) (by simpa using q2)).symm hne
    all_goals
      simp (maxSteps := 4000000) only [go_sem, ↓reduceIte, reduceCtorEq, Nat.reduceEqDiff, Nat.reduceBEq, Nat.reduceAdd, Nat.reduceSub, Nat.reduceMul, Nat.reduceLT, Nat.reduceLeDiff, Nat.reduceBNe, Int.reduceBEq, Int.reduceBNe, Int.reduceLT, Int.reduceLE, evW, retM, edA, t0, t3, hlt', hX2, hgx, hgy, hwm, hw, z0, z1, hlt, hml, hml', q1, q2, Int.toNat_natCast, List.length_map]
      refine ⟨l.length - (m + 1 + 1), by omega, m + 1 + 1, by omega, hlt, fun j x' y' hj hy' hx' => ?_, rfl, ?_, ?_, ?_⟩
      · by_cases hjm : j + 1 < m + 1
        · exact hno j x' y' hjm hy' hx'
        · have : j = m := by omega
          subst this
          rw [hy] at hy'; rw [hx] at hx'
          cases hy'; cases hx'; exact hne
      · simp (maxSteps := 4000000) only [go_sem, ↓reduceIte, reduceCtorEq, Nat.reduceEqDiff, Nat.reduceBEq, Nat.reduceAdd, Nat.reduceSub, Nat.reduceMul, Nat.reduceLT, Nat.reduceLeDiff, Nat.reduceBNe, Int.reduceBEq, Int.reduceBNe, Int.reduceLT, Int.reduceLE, evW, retM, edA, t0]
      · simp (maxSteps := 4000000) only [go_sem, ↓reduceIte, reduceCtorEq, Nat.reduceEqDiff, Nat.reduceBEq, Nat.reduceAdd, Nat.reduceSub, Nat.reduceMul, Nat.reduceLT, Nat.reduceLeDiff, Nat.reduceBNe, Int.reduceBEq, Int.reduceBNe, Int.reduceLT, Int.reduceLE, evW, retM, edA, hw]
      · refine ⟨fun q hq => ?_, ?_⟩
        · have := hH.1 q hq
          simp (maxSteps := 4000000) only [go_sem, ↓reduceIte, reduceCtorEq, Nat.reduceEqDiff, Nat.reduceBEq, Nat.reduceAdd, Nat.reduceSub, Nat.reduceMul, Nat.reduceLT, Nat.reduceLeDiff, Nat.reduceBNe, Int.reduceBEq, Int.reduceBNe, Int.reduceLT, Int.reduceLE, evW, retM, edA, this]
        · have := hH.2
          simp (maxSteps := 4000000) only [go_sem, ↓reduceIte, reduceCtorEq, Nat.reduceEqDiff, Nat.reduceBEq, Nat.reduceAdd, Nat.reduceSub, Nat.reduceMul, Nat.reduceLT, Nat.reduceLeDiff, Nat.reduceBNe, Int.reduceBEq, Int.reduceBNe, Int.reduceLT, Int.reduceLE, evW, retM, edA, this]
end
section
/-
  The data of the trees: messages, pairs, nodes, latches; and that what came in of their types is such.
-/
open Go.RowKit
set_option linter.unusedVariables false
set_option linter.unusedSimpArgs false
set_option maxRecDepth 100000
theorem st_cons {T : Ty} {fs : List Ty} {ds : List AV} (h : TypedC (.st (T :: fs)) ds) : ∃ c r, ds = c ++ r ∧ TypedC T c ∧ TypedC (.st fs) r := by
  cases h with
  | cons h1 h2 => exact ⟨_, _, rfl, h1, h2⟩
theorem st_nil {ds : List AV} (h : TypedC (.st []) ds) : ds = [] := by cases h; rfl
theorem int_inv {ds : List AV} (h : TypedC (.int .i64) ds) : ∃ n, ds = [.int .i64 n] ∧ -9223372036854775808 ≤ n ∧ n ≤ 9223372036854775807 := by
  cases h with
  | int k n h => exact ⟨n, rfl, bounds_i64 h⟩
theorem str_inv {ds : List AV} (h : TypedC .str ds) : ∃ s, ds = [.str s] ∧ s.size ≤ 281474976710656 := by
  cases h with
  | str s h => exact ⟨s, rfl, h⟩
theorem bool_inv {ds : List AV} (h : TypedC .bool ds) : ∃ b, ds = [.bool b] := by
  cases h with
  | bool b => exact ⟨b, rfl⟩
theorem sl_of {α : Type} (f : α → AV) (ok : α → Prop) {T : Ty} {ds : List AV} (h : TypedC (.sl T) ds) (hel : ∀ c, TypedC T c → ∃ a, packT T c = f a ∧ ok a) : ∃ l : List α, ds = [.sl (l.map f)] ∧ l.length ≤ 281474976710656 ∧ ∀ a, a ∈ l → ok a := by
  cases h with
  | sl T ls hlen h =>
    have : ∃ l : List α, ls.map (packT T) = l.map f ∧ l.length = ls.length ∧ ∀ a, a ∈ l → ok a := by
      clear hlen
      induction ls with
      | nil => exact ⟨[], rfl, rfl, fun a ha => by cases ha⟩
      | cons c ls ih =>
        obtain ⟨l, h1, h2, h3⟩ := ih fun x hx => h x (List.mem_cons_of_mem _ hx)
        obtain ⟨a, ha, hok⟩ := hel c (h c (List.mem_cons_self ..))
        refine ⟨a :: l, by rw [List.map_cons, List.map_cons, h1, ha], by rw [List.length_cons, List.length_cons, h2], fun b hb => ?_⟩
        rcases List.mem_cons.1 hb with rfl | hb
        · exact hok
        · exact h3 b hb
    obtain ⟨l, h1, h2, h3⟩ := this
    exact ⟨l, by rw [h1], by omega, h3⟩
structure Msg where
  stamp : Int
  kind : Int
  key : ByteArray
  hi : ByteArray
  op : Bool
  val : ByteArray
def Msg.a (x : Msg) : AV := .agg [.int .i64 x.stamp, .int .i64 x.kind, .str x.key, .str x.hi, .bool x.op, .str x.val]
structure Msg.ok (x : Msg) : Prop where
  stamp : (-9223372036854775808 ≤ x.stamp ∧ x.stamp ≤ 9223372036854775807)
  kind : (-9223372036854775808 ≤ x.kind ∧ x.kind ≤ 9223372036854775807)
  key : x.key.size ≤ 281474976710656
  hi : x.hi.size ≤ 281474976710656
  op : True
  val : x.val.size ≤ 281474976710656
def MsgT : Ty := .st [.int .i64, .int .i64, .str, .str, .bool, .str]
theorem Msg.of {c : List AV} (h : TypedC MsgT c) : ∃ x : Msg, AV.agg c = x.a ∧ x.ok := by
  obtain ⟨c0, r0, rfl, h0, h⟩ := st_cons h
  obtain ⟨c1, r1, rfl, h1, h⟩ := st_cons h
  obtain ⟨c2, r2, rfl, h2, h⟩ := st_cons h
  obtain ⟨c3, r3, rfl, h3, h⟩ := st_cons h
  obtain ⟨c4, r4, rfl, h4, h⟩ := st_cons h
  obtain ⟨c5, r5, rfl, h5, h⟩ := st_cons h
  obtain rfl := st_nil h
  obtain ⟨v0, rfl, b0⟩ := int_inv h0
  obtain ⟨v1, rfl, b1⟩ := int_inv h1
  obtain ⟨v2, rfl, b2⟩ := str_inv h2
  obtain ⟨v3, rfl, b3⟩ := str_inv h3
  obtain ⟨v4, rfl⟩ := bool_inv h4
  have b4 := True.intro
  obtain ⟨v5, rfl, b5⟩ := str_inv h5
  exact ⟨⟨v0, v1, v2, v3, v4, v5⟩, rfl, ⟨b0, b1, b2, b3, b4, b5⟩⟩
structure Par where
  key : ByteArray
  val : ByteArray
def Par.a (x : Par) : AV := .agg [.str x.key, .str x.val]
structure Par.ok (x : Par) : Prop where
  key : x.key.size ≤ 281474976710656
  val : x.val.size ≤ 281474976710656
def ParT : Ty := .st [.str, .str]
theorem Par.of {c : List AV} (h : TypedC ParT c) : ∃ x : Par, AV.agg c = x.a ∧ x.ok := by
  obtain ⟨c0, r0, rfl, h0, h⟩ := st_cons h
  obtain ⟨c1, r1, rfl, h1, h⟩ := st_cons h
  obtain rfl := st_nil h
  obtain ⟨v0, rfl, b0⟩ := str_inv h0
  obtain ⟨v1, rfl, b1⟩ := str_inv h1
  exact ⟨⟨v0, v1⟩, rfl, ⟨b0, b1⟩⟩
structure Nd where
  slot : Int
  level : Int
  pivots : List ByteArray
  kids : List Int
  high : ByteArray
  top : Bool
  right : Int
  seen : Int
  msgs : List Msg
  rows : List Par
def Nd.a (x : Nd) : AV := .agg [.int .i64 x.slot, .int .i64 x.level, .sl (x.pivots.map AV.str), .sl (x.kids.map (AV.int .i64)), .str x.high, .bool x.top, .int .i64 x.right, .int .i64 x.seen, .sl (x.msgs.map Msg.a), .sl (x.rows.map Par.a)]
structure Nd.ok (x : Nd) : Prop where
  slot : (-9223372036854775808 ≤ x.slot ∧ x.slot ≤ 9223372036854775807)
  level : (-9223372036854775808 ≤ x.level ∧ x.level ≤ 9223372036854775807)
  pivots : (x.pivots.length ≤ 281474976710656 ∧ ∀ z, z ∈ x.pivots → z.size ≤ 281474976710656)
  kids : (x.kids.length ≤ 281474976710656 ∧ ∀ z, z ∈ x.kids → (-9223372036854775808 ≤ z ∧ z ≤ 9223372036854775807))
  high : x.high.size ≤ 281474976710656
  top : True
  right : (-9223372036854775808 ≤ x.right ∧ x.right ≤ 9223372036854775807)
  seen : (-9223372036854775808 ≤ x.seen ∧ x.seen ≤ 9223372036854775807)
  msgs : (x.msgs.length ≤ 281474976710656 ∧ ∀ z, z ∈ x.msgs → z.ok)
  rows : (x.rows.length ≤ 281474976710656 ∧ ∀ z, z ∈ x.rows → z.ok)
def NdT : Ty := .st [.int .i64, .int .i64, .sl (.str), .sl (.int .i64), .str, .bool, .int .i64, .int .i64, .sl MsgT, .sl ParT]
theorem Nd.of {c : List AV} (h : TypedC NdT c) : ∃ x : Nd, AV.agg c = x.a ∧ x.ok := by
  obtain ⟨c0, r0, rfl, h0, h⟩ := st_cons h
  obtain ⟨c1, r1, rfl, h1, h⟩ := st_cons h
  obtain ⟨c2, r2, rfl, h2, h⟩ := st_cons h
  obtain ⟨c3, r3, rfl, h3, h⟩ := st_cons h
  obtain ⟨c4, r4, rfl, h4, h⟩ := st_cons h
  obtain ⟨c5, r5, rfl, h5, h⟩ := st_cons h
  obtain ⟨c6, r6, rfl, h6, h⟩ := st_cons h
  obtain ⟨c7, r7, rfl, h7, h⟩ := st_cons h
  obtain ⟨c8, r8, rfl, h8, h⟩ := st_cons h
  obtain ⟨c9, r9, rfl, h9, h⟩ := st_cons h
  obtain rfl := st_nil h
  obtain ⟨v0, rfl, b0⟩ := int_inv h0
  obtain ⟨v1, rfl, b1⟩ := int_inv h1
  obtain ⟨v2, rfl, b2⟩ := sl_of AV.str (fun z : ByteArray => z.size ≤ 281474976710656) h2 (fun c hc => by obtain ⟨v, rfl, b⟩ := str_inv hc; exact ⟨v, rfl, b⟩)
  obtain ⟨v3, rfl, b3⟩ := sl_of (AV.int .i64) (fun z : Int => -9223372036854775808 ≤ z ∧ z ≤ 9223372036854775807) h3 (fun c hc => by obtain ⟨v, rfl, b⟩ := int_inv hc; exact ⟨v, rfl, b⟩)
  obtain ⟨v4, rfl, b4⟩ := str_inv h4
  obtain ⟨v5, rfl⟩ := bool_inv h5
  have b5 := True.intro
  obtain ⟨v6, rfl, b6⟩ := int_inv h6
  obtain ⟨v7, rfl, b7⟩ := int_inv h7
  obtain ⟨v8, rfl, b8⟩ := sl_of Msg.a Msg.ok h8 (fun c hc => Msg.of hc)
  obtain ⟨v9, rfl, b9⟩ := sl_of Par.a Par.ok h9 (fun c hc => Par.of hc)
  exact ⟨⟨v0, v1, v2, v3, v4, v5, v6, v7, v8, v9⟩, rfl, ⟨b0, b1, b2, b3, b4, b5, b6, b7, b8, b9⟩⟩
structure Hld where
  thread : Int
  slot : Int
  wr : Bool
def Hld.a (x : Hld) : AV := .agg [.int .i64 x.thread, .int .i64 x.slot, .bool x.wr]
structure Hld.ok (x : Hld) : Prop where
  thread : (-9223372036854775808 ≤ x.thread ∧ x.thread ≤ 9223372036854775807)
  slot : (-9223372036854775808 ≤ x.slot ∧ x.slot ≤ 9223372036854775807)
  wr : True
def HldT : Ty := .st [.int .i64, .int .i64, .bool]
theorem Hld.of {c : List AV} (h : TypedC HldT c) : ∃ x : Hld, AV.agg c = x.a ∧ x.ok := by
  obtain ⟨c0, r0, rfl, h0, h⟩ := st_cons h
  obtain ⟨c1, r1, rfl, h1, h⟩ := st_cons h
  obtain ⟨c2, r2, rfl, h2, h⟩ := st_cons h
  obtain rfl := st_nil h
  obtain ⟨v0, rfl, b0⟩ := int_inv h0
  obtain ⟨v1, rfl, b1⟩ := int_inv h1
  obtain ⟨v2, rfl⟩ := bool_inv h2
  have b2 := True.intro
  exact ⟨⟨v0, v1, v2⟩, rfl, ⟨b0, b1, b2⟩⟩
structure Cfg where
  fanout : Int
  leaf : Int
  budget : Int
  slots : Int
  restarts : Int
def Cfg.a (x : Cfg) : AV := .agg [.int .i64 x.fanout, .int .i64 x.leaf, .int .i64 x.budget, .int .i64 x.slots, .int .i64 x.restarts]
structure Cfg.ok (x : Cfg) : Prop where
  fanout : (-9223372036854775808 ≤ x.fanout ∧ x.fanout ≤ 9223372036854775807)
  leaf : (-9223372036854775808 ≤ x.leaf ∧ x.leaf ≤ 9223372036854775807)
  budget : (-9223372036854775808 ≤ x.budget ∧ x.budget ≤ 9223372036854775807)
  slots : (-9223372036854775808 ≤ x.slots ∧ x.slots ≤ 9223372036854775807)
  restarts : (-9223372036854775808 ≤ x.restarts ∧ x.restarts ≤ 9223372036854775807)
def CfgT : Ty := .st [.int .i64, .int .i64, .int .i64, .int .i64, .int .i64]
theorem Cfg.of {c : List AV} (h : TypedC CfgT c) : ∃ x : Cfg, AV.agg c = x.a ∧ x.ok := by
  obtain ⟨c0, r0, rfl, h0, h⟩ := st_cons h
  obtain ⟨c1, r1, rfl, h1, h⟩ := st_cons h
  obtain ⟨c2, r2, rfl, h2, h⟩ := st_cons h
  obtain ⟨c3, r3, rfl, h3, h⟩ := st_cons h
  obtain ⟨c4, r4, rfl, h4, h⟩ := st_cons h
  obtain rfl := st_nil h
  obtain ⟨v0, rfl, b0⟩ := int_inv h0
  obtain ⟨v1, rfl, b1⟩ := int_inv h1
  obtain ⟨v2, rfl, b2⟩ := int_inv h2
  obtain ⟨v3, rfl, b3⟩ := int_inv h3
  obtain ⟨v4, rfl, b4⟩ := int_inv h4
  exact ⟨⟨v0, v1, v2, v3, v4⟩, rfl, ⟨b0, b1, b2, b3, b4⟩⟩
structure Gau where
  nodes : Int
  leaves : Int
  height : Int
  rows : Int
  msgs : Int
  bytes : Int
  empty : Int
  levels : List Int
  waits : List Int
def Gau.a (x : Gau) : AV := .agg [.int .i64 x.nodes, .int .i64 x.leaves, .int .i64 x.height, .int .i64 x.rows, .int .i64 x.msgs, .int .i64 x.bytes, .int .i64 x.empty, .sl (x.levels.map (AV.int .i64)), .sl (x.waits.map (AV.int .i64))]
structure Gau.ok (x : Gau) : Prop where
  nodes : (-9223372036854775808 ≤ x.nodes ∧ x.nodes ≤ 9223372036854775807)
  leaves : (-9223372036854775808 ≤ x.leaves ∧ x.leaves ≤ 9223372036854775807)
  height : (-9223372036854775808 ≤ x.height ∧ x.height ≤ 9223372036854775807)
  rows : (-9223372036854775808 ≤ x.rows ∧ x.rows ≤ 9223372036854775807)
  msgs : (-9223372036854775808 ≤ x.msgs ∧ x.msgs ≤ 9223372036854775807)
  bytes : (-9223372036854775808 ≤ x.bytes ∧ x.bytes ≤ 9223372036854775807)
  empty : (-9223372036854775808 ≤ x.empty ∧ x.empty ≤ 9223372036854775807)
  levels : (x.levels.length ≤ 281474976710656 ∧ ∀ z, z ∈ x.levels → (-9223372036854775808 ≤ z ∧ z ≤ 9223372036854775807))
  waits : (x.waits.length ≤ 281474976710656 ∧ ∀ z, z ∈ x.waits → (-9223372036854775808 ≤ z ∧ z ≤ 9223372036854775807))
def GauT : Ty := .st [.int .i64, .int .i64, .int .i64, .int .i64, .int .i64, .int .i64, .int .i64, .sl (.int .i64), .sl (.int .i64)]
theorem Gau.of {c : List AV} (h : TypedC GauT c) : ∃ x : Gau, AV.agg c = x.a ∧ x.ok := by
  obtain ⟨c0, r0, rfl, h0, h⟩ := st_cons h
  obtain ⟨c1, r1, rfl, h1, h⟩ := st_cons h
  obtain ⟨c2, r2, rfl, h2, h⟩ := st_cons h
  obtain ⟨c3, r3, rfl, h3, h⟩ := st_cons h
  obtain ⟨c4, r4, rfl, h4, h⟩ := st_cons h
  obtain ⟨c5, r5, rfl, h5, h⟩ := st_cons h
  obtain ⟨c6, r6, rfl, h6, h⟩ := st_cons h
  obtain ⟨c7, r7, rfl, h7, h⟩ := st_cons h
  obtain ⟨c8, r8, rfl, h8, h⟩ := st_cons h
  obtain rfl := st_nil h
  obtain ⟨v0, rfl, b0⟩ := int_inv h0
  obtain ⟨v1, rfl, b1⟩ := int_inv h1
  obtain ⟨v2, rfl, b2⟩ := int_inv h2
  obtain ⟨v3, rfl, b3⟩ := int_inv h3
  obtain ⟨v4, rfl, b4⟩ := int_inv h4
  obtain ⟨v5, rfl, b5⟩ := int_inv h5
  obtain ⟨v6, rfl, b6⟩ := int_inv h6
  obtain ⟨v7, rfl, b7⟩ := sl_of (AV.int .i64) (fun z : Int => -9223372036854775808 ≤ z ∧ z ≤ 9223372036854775807) h7 (fun c hc => by obtain ⟨v, rfl, b⟩ := int_inv hc; exact ⟨v, rfl, b⟩)
  obtain ⟨v8, rfl, b8⟩ := sl_of (AV.int .i64) (fun z : Int => -9223372036854775808 ≤ z ∧ z ≤ 9223372036854775807) h8 (fun c hc => by obtain ⟨v, rfl, b⟩ := int_inv hc; exact ⟨v, rfl, b⟩)
  exact ⟨⟨v0, v1, v2, v3, v4, v5, v6, v7, v8⟩, rfl, ⟨b0, b1, b2, b3, b4, b5, b6, b7, b8⟩⟩
end
end Go.Proofs.Ytcpendbmohfjcaa
