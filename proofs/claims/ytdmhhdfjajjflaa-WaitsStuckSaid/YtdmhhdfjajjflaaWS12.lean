/-
  Part 12 of a proof: WaK, WaL, WaM, WaN.
-/
import Derived.Test.YtdmhhdfjajjflaaWS11
namespace Go.Proofs.Ytdmhhdfjajjflaa
attribute [local go_sem] ev0 ev1 ev2 ev3 ev4 evA stHOk.eq_1 stHOk.eq_2 stHSt.eq_1 stHSt.eq_2 okV valV fzV okF valF okBld valBld mxOk.eq_1 mxOk.eq_2 mxVal.eq_1 mxVal.eq_2 cellFit.eq_1 cellFit.eq_2 cellFit.eq_3 cellEq.eq_1 cellEq.eq_2 cellEq.eq_3 upd_at AV.flatB AV.flatBs binIok binIV binSok binSV cellsOk.eq_1 cellsOk.eq_2 cellsVal.eq_1 cellsVal.eq_2 objCells.eq_1 objCells.eq_2 objZ.eq_1 objZ.eq_2 objProt.eq_1 objProt.eq_2 oneObj ptrOk.eq_1 ptrOk.eq_2 ptrOk.eq_3 ptrCells.eq_1 ptrCells.eq_2 ptrCells.eq_3 lenOk.eq_1 lenOk.eq_2 lenOk.eq_3 lenOk.eq_4 lenVal.eq_1 lenVal.eq_2 lenVal.eq_3 lenVal.eq_4 faOk.eq_1 faOk.eq_2 faOk.eq_3 faVal.eq_1 faVal.eq_2 faVal.eq_3 iaOk.eq_1 iaOk.eq_2 iaOk.eq_3 iaVal.eq_1 iaVal.eq_2 iaVal.eq_3 slcLen.eq_1 slcLen.eq_2 slcLen.eq_3 slcLen.eq_4 bdOk.eq_1 bdOk.eq_2 bdVal.eq_1 bdVal.eq_2 slcOk.eq_1 slcOk.eq_2 slcOk.eq_3 slcOk.eq_4 slcOk.eq_5 slcKV.eq_1 slcKV.eq_2 slcKV.eq_3 slcVal.eq_1 slcVal.eq_2 slcVal.eq_3 slcVal.eq_4 slcFz.eq_1 slcFz.eq_2 loK.eq_1 loK.eq_2 loK.eq_3 rsVal.eq_1 rsVal.eq_2 rsVal.eq_3 byOk.eq_1 byOk.eq_2 byOk.eq_3 byOk.eq_4 byOk.eq_5 byOk.eq_6 byOk.eq_7 byOk.eq_8 byVal.eq_1 byVal.eq_2 byVal.eq_3 byFz.eq_1 byFz.eq_2 byFz.eq_3 byOks byVals byFzs allOne resSt.eq_1 resSt.eq_2 resName.eq_1 resName.eq_2 stOk.eq_1 stOk.eq_2 stArr.eq_1 stArr.eq_2 stSt.eq_1 stSt.eq_2 AV.patch nameOk_none gB.eq_1 gB.eq_2 gB.eq_3 gIs.eq_1 gIs.eq_2 gIs.eq_3 retV resV resVs evalV cellsV St.byval List.getD_cons_zero List.getD_cons_succ List.getD_nil List.map_cons List.map_nil List.length_cons List.length_nil List.take_succ_cons List.take_zero List.drop_succ_cons List.drop_zero List.headD_cons List.set_cons_zero List.append_nil List.nil_append List.cons_append List.contains_cons List.contains_nil List.elem_cons List.elem_nil List.all_cons List.all_nil List.getElem?_cons_zero List.getElem?_cons_succ List.filterMap_cons List.filterMap_nil Option.isSome_some Option.isSome_none Option.map_some Option.map_none Option.some.injEq AV.int.injEq AV.bool.injEq AV.str.injEq AV.tup.injEq AV.agg.injEq AV.sl.injEq List.cons.injEq Bool.false_eq_true Bool.true_eq_false Bool.not_true Bool.not_false Bool.and_true Bool.true_and Bool.or_false Bool.or_true Bool.false_or Bool.true_or Bool.or_self Bool.and_self Bool.not_eq_true' Bool.not_eq_false' Bool.not_not beq_self_eq_true true_and and_true false_and and_false and_self not_true_eq_false not_false_eq_true forall_const true_implies false_implies implies_true imp_self Nat.lt_add_one Nat.le_refl Nat.zero_le Nat.add_zero Nat.zero_add decide_true decide_false decide_eq_true_eq decide_eq_false_iff_not exists_eq_left exists_eq_left' ge_iff_le gt_iff_lt ite_branch ite_branch' nilOk.eq_1 nilOk.eq_2 nilMay.eq_1 nilMay.eq_2 AV.isSl.eq_1 objTy'.eq_1 objTy'.eq_2 apSt.eq_1 apArr.eq_1 apArr.eq_2 apTwo.eq_1 apTwo.eq_2 apSt2.eq_1 apArr2.eq_1 apArr2.eq_2 slOf.eq_1 fitsV List.mem_cons List.not_mem_nil Bool.false_and Bool.and_false primOk.eq_1 primOk.eq_2 primOk.eq_3 primOk.eq_4 primOk.eq_5 primVal.eq_1 primVal.eq_2 primVal.eq_3 primVal.eq_4 primVal.eq_5 mOk.eq_1 mOk.eq_2 mVal.eq_1 mVal.eq_2 mFz.eq_1 mFz.eq_2 mOks mVals mFzs mCalOk.eq_1 mCalOk.eq_2 mFn.eq_1 mFn.eq_2 mArgs.eq_1 mArgs.eq_2 ckOk.eq_1 ckOk.eq_2 cloOk.eq_1 ptrAt.eq_1 sh.eq_1 sh.eq_2 sh.eq_3 sh.eq_4 sh.eq_5 sh.eq_6 retM shH_small evM entOk.eq_1 entOk.eq_2 ents.eq_1 ents.eq_2 kI.eq_1 mpOk.eq_1 mpR.eq_1 lkV.eq_1 lkV.eq_2 remp.eq_2 evP pvOk.eq_1 pvOk.eq_2 pvVal.eq_1 pvVal.eq_2 plOk.eq_1 plOk.eq_2 plOk.eq_3 plV.eq_1 plV.eq_2 plF.eq_1 plF.eq_2 plVal.eq_1 plVal.eq_2 plFz.eq_1 plFz.eq_2 lpOk.eq_1 lpOk.eq_2 lpVal.eq_1 lpVal.eq_2 lpFz.eq_1 lpFz.eq_2 stpOk.eq_1 stpOk.eq_2 stpSt.eq_1 stpSt.eq_2 stpArr.eq_1 keepS.eq_1 keepS.eq_2 evCl
section
/-
  Where one comes to; who waits for themselves: the code whole.
-/
open Go.RowKit Go.MapKept
set_option linter.unusedVariables false
set_option linter.unusedSimpArgs false
set_option maxRecDepth 100000
attribute [local go_sem ↓] runOp headOp
/-! ### percolate/waits.Stuck$1 -/
def r_stu1_0 : Reg := ⟨[], [⟨(.mv (.c (.bool false))), (some 3), none, [], []⟩], [], [], false⟩
def r_stu1_1 : List XOp := [(.op [] ⟨(.load 1 false (.t 1)), (some 4), none, [], []⟩), (.op [] ⟨(.mv (.t 0)), (some 5), none, [], []⟩), (.op [6] ⟨(.callv (.c (.clo 14 [] [])) [(.t 4), (.t 5)]), (some 6), none, [], []⟩), (.op [] ⟨(.mv (.t 0)), (some 7), none, [], []⟩), (.mlook 8 false (.t 6) (.t 7) (.bool false) none), (.op [] ⟨(.un .not (.t 8)), (some 9), none, [], []⟩), (.op [] ⟨(.mv (.t 9)), (some 3), none, [], []⟩)]
def ir_stu1 (P : Program) : IR := (.seq (.reg r_stu1_0)
  (.seq (.regx P r_stu1_1)
  .ret))
def res_stu1 : List RDesc := [(.tmp 3)]
theorem e_stu1_0 (C : FuncId → List AV → AV → Prop) (σ : St) (K : St → Prop) : runReg C r_stu1_0 σ K = runOps C [⟨(.mv (.c (.bool false))), (some 3), none, [], []⟩] (σ.kills []) K := rfl
theorem fn_stu1 {args : List AV} {r : AV} (ha : args.length.ble Try.f20.ntmps = true) (h : run (AFn Try.prog) (ir_stu1 Try.prog) (endQ res_stu1 r) (initSt args)) : AFn Try.prog 20 args r :=
  AFn.of_code (pv := false) (hint := fun _ => []) (c := Try.f20.body.getD .skip) (by kernel_rfl) (by kernel_rfl) Try.func20 (by kernel_rfl) (by kernel_rfl) (by kernel_rfl) (of_decide_eq_true (by kernel_rfl)) (Nat.le_of_ble_eq_true ha) (Nat.le_of_ble_eq_true (by kernel_rfl)) (run_ok h)
attribute [local go_sem ↓] ir_stu1
attribute [local go_sem] res_stu1 e_stu1_0 r_stu1_1
theorem stu1_ok (l : List Edge) (hl : l.length ≤ 400000) (n : Int) : AFn Try.prog 20 [.int .i64 n, .rp [.mv (avE (grL l))]] (.bool (!decide (n ∈ seenL l n))) := by
  refine fn_stu1 rfl ?_
  have c := rch_ok l n hl
  have hsk : lkV false (.bool false) (lkp (seenE (seenL l n)) n) = .bool (decide (n ∈ seenL l n)) := seen_look
  (repeat (first | simp (maxSteps := 4000000) only [go_sem, ↓reduceIte, reduceCtorEq, Nat.reduceEqDiff, Nat.reduceBEq, Nat.reduceAdd, Nat.reduceSub, Nat.reduceMul, Nat.reduceLT, Nat.reduceLeDiff, Nat.reduceBNe, Int.reduceBEq, Int.reduceBNe, Int.reduceLT, Int.reduceLE, hsk] | refine calling (c) ?_ | refine callingH (c) ?_ | refine And.intro (by omega) ?_ | refine And.intro (fun d hd => by (repeat (rcases hd with rfl | hd; · exact ⟨rfl, rfl⟩)); cases hd) ?_))
def wideP (w : World) : Nat → Nat → Prop := fun b _ => b < w.heap.size
theorem VR.wide {Pr : Nat → Nat → Prop} {w : World} {d : AV} {v : Value} (h : VR Pr w d v) : VR (wideP w) w d v :=
  h.kept ⟨Nat.le_refl _, fun _ _ hb _ => hb, fun _ _ _ _ => rfl, fun _ _ _ _ _ e => e⟩
theorem EdAt.kept {w w' : World} {A : Option Addr} {l : List Edge} (h : EdAt w A l) (hb : Below w.heap.size w w') : EdAt w' A l := fun i e he => by
  obtain ⟨b, off, h1, h2, h3, h4⟩ := h i e he
  exact ⟨b, off, h1, Nat.lt_of_lt_of_le h2 hb.size, (hb.cell (p := ⟨b, _, none⟩) h2).trans h3, (hb.cell (p := ⟨b, _, none⟩) h2).trans h4⟩
theorem mem_seen_out {l : List Edge} {a b : Int} (h : TC l a b) : b ∈ l.map (·.2) := by
  cases h with
  | one h => exact List.mem_map.2 ⟨_, h, rfl⟩
  | step _ h => exact List.mem_map.2 ⟨_, h, rfl⟩
/-- waits.reach, over the model -/
theorem reach_calls (l : List Edge) (a : Int) (hl : l.length ≤ 400000) (hin : ∀ e, e ∈ l → I64 e.2) {W : World} (hG : Glob W) {gm base : Nat} {ms : Array MapEntry} {c : Nat} (hg : Grp W base gm (grL l) ms c) (hs : (seenL l a).length ≤ 1000000) :
    Calls Try.prog 14 #[.map (some gm), .int .i64 a] W fun e w' => ∃ (g : Nat) (D : DataW Unit), e = .returned (.map (some g)) ∧ Below W.heap.size W w' ∧ w'.ownsMap Try.prog 3 R1 g (seenE (seenL l a)).length D ∧ Kys (seenE (seenL l a)) D := by
  have hv : VR (wideP W) W (.mv (avE (grL l))) (.map (some gm)) := VR.wide (hg.out (Pr := fun _ _ => True) fun _ _ _ => trivial)
  have h := (rch_ok l a hl).calls W (wideP W) [.map (some gm), .int .i64 a] hG (fun _ _ h => h) rfl (fun j d v h1 h2 => by
    match j with
    | 0 => cases h1; cases h2; exact hv
    | 1 => cases h1; cases h2; exact .int _ _
    | j + 2 => simp at h1)
  refine h.mono ?_
  rintro e w' ⟨v, rfl, hB, hR⟩
  cases hR with
  | mv _ g ms c hg hp hb hl2 hst hk hv2 =>
    obtain ⟨D, h1, h2⟩ := own_map hb hst hl2 hk (fun n hn => by
      have e1 : (seenE (seenL l a)).map (·.1) = seenL l a := by simp [seenE, List.map_map, Function.comp_def]
      rw [e1, mem_seenL] at hn
      obtain ⟨e, he, rfl⟩ := List.mem_map.1 (mem_seen_out hn)
      exact hin e he) (by unfold seenE; rw [List.length_map]; exact hs)
    exact ⟨g, D, rfl, hB, h1, h2⟩
theorem seenL_len {l : List Edge} {a : Int} (hn : (seenL l a).Nodup) : (seenL l a).length ≤ l.length := by
  have := sub_len hn (b := l.map (·.2)) fun b hb => mem_seen_out (mem_seenL.1 hb)
  rwa [List.length_map] at this
theorem seenL_nodup {l : List Edge} {a : Int} : (seenL l a).Nodup := by
  have key : ∀ (j : Nat) (seen todo : List Int), Dfs l a seen todo → dfsM l seen todo < j → (dfsF l j seen todo).Nodup := by
    intro j
    induction j with
    | zero => intro seen todo _ h; exact absurd h (Nat.not_lt_zero _)
    | succ j ih =>
      intro seen todo hD hj
      rcases List.eq_nil_or_concat todo with e | ⟨t, n, e⟩
      · subst e
        rw [dfsF_nil]
        exact hD.nodup
      · rw [List.concat_eq_append] at e
        subst e
        by_cases hn : n ∈ seen
        · have hs := dfs_skip (l := l) (n := n) (seen := seen) (t := t)
          rw [dfsF_skip hn]
          exact ih _ _ (hD.skip hn) (by omega)
        · have hs := dfs_less (l := l) (t := t) hn
          rw [dfsF_mark hn]
          exact ih _ _ (hD.mark hn) (by omega)
  exact key _ _ _ (Dfs.start l a) (Nat.lt_succ_self _)
theorem sortedA_at {w : World} {g : Nat} {es : List (Int × AV)} {D : DataW Unit} (ho : w.ownsMap Try.prog 3 R1 g es.length D) (hk : Kys es D) {s : List Int} (hs : s.length ≤ 1000000) (he : es = seenE s := by rfl) :
    Calls Try.prog 12 #[.func (.func 23) #[] #[.pointer (some ⟨w.heap.size, 0, none⟩)]] (w.alloc (.cells #[.map (some g)] 38)) fun e w' => ∃ (v : Value) (r : List Int), e = .returned v ∧ Rise r ∧ (∀ x, x ∈ r ↔ x ∈ es.map (·.1)) ∧
      w'.ownsRow (w.alloc (.cells #[.map (some g)] 38)).heap.size 3 1 v r.length (r.map (Value.int .i64)) ∧ Below (w.alloc (.cells #[.map (some g)] 38)).heap.size (w.alloc (.cells #[.map (some g)] 38)) w' :=
  sorted_keysA (by simp) (by rw [cell_row (heap_alloc w _).1]; rfl) (ho.alloc _) hk (by rw [he]; unfold seenE; rw [List.length_map]; exact hs)
theorem sortedB_at {w : World} {g : Nat} {es : List (Int × AV)} {D : DataW Unit} (ho : w.ownsMap Try.prog 3 R1 g es.length D) (hk : Kys es D) (hs : es.length ≤ 1000000) :
    Calls Try.prog 12 #[.func (.func 26) #[] #[.pointer (some ⟨w.heap.size, 0, none⟩)]] (w.alloc (.cells #[.map (some g)] 40)) fun e w' => ∃ (v : Value) (r : List Int), e = .returned v ∧ Rise r ∧ (∀ x, x ∈ r ↔ x ∈ es.map (·.1)) ∧
      w'.ownsRow (w.alloc (.cells #[.map (some g)] 40)).heap.size 3 1 v r.length (r.map (Value.int .i64)) ∧ Below (w.alloc (.cells #[.map (some g)] 40)).heap.size (w.alloc (.cells #[.map (some g)] 40)) w' :=
  sorted_keysB (by simp) (by rw [cell_row (heap_alloc w _).1]; rfl) (ho.alloc _) hk hs
set_option maxHeartbeats 4000000 in
theorem Reach_any (l : List Edge) (a : Int) (hl : l.length ≤ 400000) (hin : ∀ e, e ∈ l → I64 e.2) (A : Option Addr) (cap : Nat) (w : World) (hG : Glob w) (hE : EdAt w A l) :
    Calls Try.prog 7 #[.slice A l.length cap, .int .i64 a] w fun e w' => ∃ v, e = .returned v ∧ Below w.heap.size w w' ∧ w'.ownsRow w.heap.size 3 1 v (reachL l a).length ((reachL l a).map (Value.int .i64)) := by
  have hs : (seenL l a).length ≤ 1000000 := by have := seenL_len (l := l) (a := a) seenL_nodup; omega
  have cG : ∀ W : World, W.heap = w.heap → Calls Try.prog 15 #[.slice A l.length cap] W fun e w' => ∃ ms c, e = .returned (.map (some w.heap.size)) ∧ Below w.heap.size W w' ∧ Grp w' (w.heap.size + 1) w.heap.size (grL l) ms c := fun W hW => by
    rw [← hW]
    exact graph_any l (by omega) A cap W fun i e he => by
      obtain ⟨b, off, h1, h2, h3, h4⟩ := hE i e he
      exact ⟨b, off, h1, by rw [hW]; exact h2, by rw [← h3]; unfold World.cell?; rw [hW], by rw [← h4]; unfold World.cell?; rw [hW]⟩
  go_enter Try.func7, Try.ntmps7
  go_wp2_with (first
    | (go_at_call 15; refine (cG _ rfl).mono ?_; rintro e w1 ⟨ms, c, rfl, hB1, hGr⟩)
    | (go_at_call 14; refine (reach_calls l a hl hin (Glob.below hG hB1) hGr hs).mono ?_; rintro e w2 ⟨g, D, rfl, hB2, hO, hK⟩)
    | (go_at_call 13; refine (keysA_ok _ _).mono ?_; rintro e w3 ⟨rfl, rfl⟩)
    | (go_at_call 12; refine (sortedA_at hO hK hs).mono ?_; rintro e w4 ⟨v, r, rfl, hri, hmem, hrow, hB4⟩))
  go_ret
  have e1 : (seenE (seenL l a)).map (·.1) = seenL l a := by simp [seenE, List.map_map, Function.comp_def]
  obtain rfl : r = reachL l a := reach_unique hri fun b => by rw [hmem b, e1]; exact mem_seenL
  have hB : Below w.heap.size w w4 := hB1.trans ((hB2.mono hB1.size).trans (((Below.refl _ w2).alloc (Nat.le_refl _) _).mono (Nat.le_trans hB1.size hB2.size) |>.trans (hB4.mono (by simp; exact Nat.le_trans hB1.size (Nat.le_trans hB2.size (by omega))))))
  exact ⟨v, rfl, hB, ownsRow_base_a hrow (by simp; exact Nat.le_trans hB1.size (Nat.le_trans hB2.size (by omega)))⟩
end
section
/-
  Who waits for themselves: the code whole.
-/
open Go.RowKit Go.MapKept
set_option linter.unusedVariables false
set_option linter.unusedSimpArgs false
set_option maxRecDepth 100000
/-- slices.DeleteFunc at a row that the call has made -/
theorem del_calls (s : Tst) (hs0 : s.ok) {w0 W : World} {base : Nat} (hb : base ≤ w0.heap.size) (hG : Glob w0) (hW : Below w0.heap.size w0 W) {v c : Value} {r : List Int} (hr : r.length ≤ 1000000)
    (hrow : W.ownsRow w0.heap.size 3 1 v r.length (r.map (Value.int .i64))) (hc : VR (fun b _ => base ≤ b) w0 (clI s) c) :
    Calls Try.prog 18 #[v, c] W fun e w' => ∃ v', e = .returned v' ∧ Below w0.heap.size w0 w' ∧ VR (fun b _ => base ≤ b) w' (.sl ((keepF s r).map (AV.int .i64))) v' := by
  obtain ⟨μ, hμ⟩ : ∃ μ : Nat → Option Nat, μ = fun k => if k = 0 then v.ownBlock else none := ⟨_, rfl⟩
  obtain ⟨H, hH⟩ : ∃ H : Nat → Option Arr, H = fun k => if k = 0 then ObjI r else none := ⟨_, rfl⟩
  have hμs : ∀ k g, μ k = some g → k = 0 ∧ v.ownBlock = some g ∧ w0.heap.size ≤ g ∧ g < W.heap.size := fun k g h => by
    subst hμ
    dsimp only at h
    by_cases hk : k = 0
    · rw [if_pos hk] at h
      refine ⟨hk, h, ?_⟩
      rcases hrow.2 with ⟨q1, _⟩ | ⟨g', cap, cur, q1, q2, q3, _⟩
      · rw [q1] at h; cases h
      · rw [q1] at h
        cases h
        exact ⟨q2, block_lt q3⟩
    · rw [if_neg hk] at h; cases h
  have kept : Kept (fun b _ => base ≤ b) (PrOf ⟨w0, fun _ _ => False⟩ (fun b _ => base ≤ b) μ H) w0 W :=
    ⟨hW.size, fun b o hb2 hp => ⟨fun _ => hp, fun k hk => by have := (hμs k b hk).2.2.1; omega⟩, fun b o h _ => hW.cell (p := ⟨b, o, none⟩) h, fun b ms c h _ e => by rw [hW.block b h]; exact e⟩
  have hSR : SR ⟨w0, fun _ _ => False⟩ (fun b _ => base ≤ b) 0 μ ⟨fun _ => .und, H⟩ ⟨#[], []⟩ W := by
    refine ⟨hW, fun a b g h1 h2 => by rw [(hμs a g h1).1, (hμs b g h2).1], fun a g h => (hμs a g h).2.2, fun a g h => ?_, rfl, fun t => trivial, fun a arr h => ?_, rfl, hG, by omega, fun d v h => h.elim⟩
    · have := (hμs a g h).1
      subst hH; subst this; rfl
    · subst hH
      dsimp only at h
      by_cases ha : a = 0
      · rw [if_pos ha] at h
        subst ha
        unfold ObjI at h
        cases h
        refine ⟨Nat.zero_lt_one, Nat.zero_le _, fun d hd => ?_, ?_⟩
        · obtain ⟨x, _, rfl⟩ := List.mem_map.1 hd
          exact ⟨rfl, fun c hc => by
            have : c = .int .i64 x := by simpa [AV.cells] using hc
            subst this; rfl⟩
        · subst hμ
          dsimp only
          rw [if_pos rfl]
          rcases hrow.2 with ⟨q1, q2⟩ | ⟨g, cap, cur, q1, q2, q3, q4, q5, q6, q7⟩
          · have : r = [] := List.length_eq_zero_iff.1 q2
            rw [q1, this]; rfl
          · rw [q1]
            refine .inr ⟨cur, q3, by rw [List.length_map]; omega, fun i d j c hi hj => ?_⟩
            rw [List.getElem?_map] at hi
            obtain ⟨x, hx, rfl⟩ := Option.map_eq_some_iff.1 hi
            have hi' := (List.getElem?_eq_some_iff.1 hx).1
            match j, hj with
            | 0, hj =>
              cases hj
              have h1 : (cur.toList.take (r.length * 1))[i]? = (r.map (Value.int .i64))[i]? := by rw [q7]
              rw [List.getElem?_take, if_pos (by omega), Array.getElem?_toList, List.getElem?_map, hx] at h1
              exact ⟨_, by rw [show i * 1 + 0 = i by omega]; exact h1, .int _ _⟩
      · rw [if_neg ha] at h; cases h
  obtain ⟨H', hM⟩ := dI_ok s hs0 H 0 r hr (by rw [hH]; rfl)
  refine (hM.calls ⟨w0, fun _ _ => False⟩ _ 0 μ (fun _ => .und) ⟨#[], []⟩ W [v, c] hSR rfl fun j d u h1 h2 => ?_).mono ?_
  · match j with
    | 0 =>
      cases h1; cases h2
      intro arr ha
      have ha' : arr = ⟨1, 3, r.map (AV.int .i64), 0⟩ := by
        subst hH
        dsimp only at ha
        rw [if_pos rfl] at ha
        unfold ObjI at ha
        cases ha; rfl
      subst ha'
      rcases hrow.2 with ⟨q1, q2⟩ | ⟨g, cap, cur, q1, q2, q3, q4, q5, q6, q7⟩
      · exact .inl ⟨by subst hμ; dsimp only; rw [if_pos rfl, q1]; rfl, q1, rfl, q2⟩
      · exact .inr ⟨g, cap, cur, by subst hμ; dsimp only; rw [if_pos rfl, q1]; rfl, .inl (by rw [q1]; simp), q3, by simpa using q6.symm, by simp, q4, q5⟩
    | 1 =>
      cases h1; cases h2
      exact hc.kept kept
    | j + 2 => simp at h1
  · rintro e w' ⟨v', μ', rfl, hS, hV⟩
    refine ⟨v', rfl, hS.below, hV.kept ⟨Nat.le_refl _, fun b o _ hp => ?_, fun _ _ _ _ => rfl, fun _ _ _ _ _ e => e⟩⟩
    by_cases h : b < w0.heap.size
    · exact hp.1 h
    · omega
def stuT (l : List Edge) : Tst := ⟨20, [.rp [.mv (avE (grL l))]], fun n => !decide (n ∈ seenL l n)⟩
theorem stuT_ok (l : List Edge) (hl : l.length ≤ 400000) : (stuT l).ok := ⟨fun n => stu1_ok l hl n⟩
theorem keep_stuck {l : List Edge} {r : List Int} (hr : Rise r) (hm : ∀ x, x ∈ r ↔ x ∈ (avE (grL l)).map (·.1)) : keepF (stuT l) r = stuckL l := by
  refine stuck_unique (List.Pairwise.filter _ hr) fun n => ?_
  unfold keepF
  rw [List.mem_filter, hm n, keys_avE, (grL_ok l).keys]
  have : (stuT l).has n = !decide (n ∈ seenL l n) := rfl
  rw [this, Bool.not_not, decide_eq_true_eq, mem_seenL]
theorem grL_len (l : List Edge) : (grL l).length ≤ l.length := by
  have := sub_len (grL_ok l).nodup (b := l.map (·.1)) fun b hb => ((grL_ok l).keys b).1 hb
  rwa [List.length_map, List.length_map] at this
theorem grp_own {w : World} {base gm : Nat} {l : List Edge} {ms : Array MapEntry} {c : Nat} (hG : Grp w base gm (grL l) ms c) (hin : ∀ e, e ∈ l → I64 e.1) (hl : l.length ≤ 1000000) :
    ∃ D, w.ownsMap Try.prog 3 R1 gm (avE (grL l)).length D ∧ Kys (avE (grL l)) D := by
  have hlen : (avE (grL l)).length = (grL l).length := by simp [avE]
  have hg := grL_len l
  refine own_map hG.map hG.st (by rw [hlen]; exact hG.len) (fun i e m he hm => ?_) (fun n hn => ?_) (by omega)
  · simp only [avE, List.getElem?_map] at he
    obtain ⟨e', h3, rfl⟩ := Option.map_eq_some_iff.1 he
    exact hG.key i e' m h3 hm
  · rw [keys_avE, (grL_ok l).keys] at hn
    obtain ⟨e, he, rfl⟩ := List.mem_map.1 hn
    exact hin e he
abbrev w2Of (w1 : World) (gm : Nat) : World := w1.alloc (.cells #[.map (some gm)] 40)
abbrev w3Of (w1 : World) (gm : Nat) : World := (w2Of w1 gm).alloc (.cells #[.map (some gm)] 40)
theorem sortedG_at {w1 : World} {base gm : Nat} {l : List Edge} {ms : Array MapEntry} {c : Nat} (hG : Grp w1 base gm (grL l) ms c) (hin : ∀ e, e ∈ l → I64 e.1) (hl : l.length ≤ 400000) :
    Calls Try.prog 12 #[.func (.func 26) #[] #[.pointer (some ⟨w1.heap.size + 1, 0, none⟩)]] (w3Of w1 gm) fun e w' => ∃ (v : Value) (r : List Int), e = .returned v ∧ Rise r ∧ (∀ x, x ∈ r ↔ x ∈ (avE (grL l)).map (·.1)) ∧
      w'.ownsRow (w3Of w1 gm).heap.size 3 1 v r.length (r.map (Value.int .i64)) ∧ Below (w3Of w1 gm).heap.size (w3Of w1 gm) w' := by
  obtain ⟨D, h1, h2⟩ := grp_own (hG.alloc (.cells #[.map (some gm)] 40)) hin (by omega)
  rw [show w1.heap.size + 1 = (w2Of w1 gm).heap.size from by simp]
  exact sortedB_at h1 h2 (by have := grL_len l; simp [avE]; omega)
theorem delG_at {w w1 w4 : World} {base : Nat} {l : List Edge} {ms : Array MapEntry} {c : Nat} (hg : Glob w) (hbase : w.heap.size = base) (hB1 : Below base w w1) (hG : Grp w1 (base + 1) base (grL l) ms c) (hl : l.length ≤ 400000) {v : Value} {r : List Int} (hr : Rise r)
    (hm : ∀ x, x ∈ r ↔ x ∈ (avE (grL l)).map (·.1)) (hrow : w4.ownsRow (w3Of w1 base).heap.size 3 1 v r.length (r.map (Value.int .i64))) (hB : Below (w3Of w1 base).heap.size (w3Of w1 base) w4) :
    Calls Try.prog 18 #[v, .func (.func 20) #[] #[.pointer (some ⟨w1.heap.size, 0, none⟩)]] w4 fun e w' => ∃ v', e = .returned v' ∧ Below base w w' ∧ VR (fun b _ => base ≤ b) w' (.sl ((stuckL l).map (AV.int .i64))) v' := by
  have hs1 : base ≤ w1.heap.size := Nat.le_trans (Nat.le_of_eq hbase.symm) hB1.size
  have hs3 : (w3Of w1 base).heap.size = w1.heap.size + 2 := by unfold w3Of w2Of; simp
  have hB3 : Below base w (w3Of w1 base) := (hB1.alloc hs1 _).alloc (by simp; omega) _
  have hG3 : Grp (w3Of w1 base) (base + 1) base (grL l) ms c := (hG.alloc _).alloc _
  have hrl : r.length ≤ 1000000 := by
    have h1 : r.Nodup := hr.imp fun h => by omega
    have := sub_len h1 fun b hb => (hm b).1 hb
    rw [List.length_map] at this
    have := grL_len l
    simp [avE] at *
    omega
  have hcell : (w3Of w1 base).cell? ⟨w1.heap.size, 0, none⟩ = some (.map (some base)) := by
    unfold w3Of
    rw [cell_row ((Below.heap_alloc (w2Of w1 base) _ w1.heap.size (by unfold w2Of; simp)).trans (heap_alloc w1 _).1)]
    rfl
  have hc : VR (fun b _ => base ≤ b) (w3Of w1 base) (clI (stuT l)) (.func (.func 20) #[] #[.pointer (some ⟨w1.heap.size, 0, none⟩)]) := by
    refine .clo _ [] [.rp [.mv (avE (grL l))]] [] [.pointer (some ⟨w1.heap.size, 0, none⟩)] rfl rfl (fun j c v h => by simp at h) (fun j c v h1 h2 => ?_)
    match j with
    | 0 =>
      cases h1; cases h2
      refine .rp _ _ _ (fun _ => .map (some base)) (by omega) (fun j hj => ?_) (fun j c h => ?_)
      · have : j = 0 := by simp at hj; omega
        subst this
        exact ⟨hs1, hcell⟩
      · match j with
        | 0 => cases h; exact hG3.out fun b o h => h
        | j + 1 => simp at h
    | j + 1 => simp at h1
  have h := del_calls (stuT l) (stuT_ok l hl) (by omega : base ≤ (w3Of w1 base).heap.size) (Glob.below hg (by rw [hbase]; exact hB3)) hB hrl hrow hc
  rw [keep_stuck hr hm] at h
  refine h.mono ?_
  rintro e w' ⟨v', rfl, hB', hV⟩
  exact ⟨v', rfl, hB3.trans (hB'.mono (by omega)), hV⟩
set_option maxHeartbeats 4000000 in
theorem Stuck_any (l : List Edge) (hl : l.length ≤ 400000) (hin : ∀ e, e ∈ l → I64 e.1) (A : Option Addr) (cap : Nat) (w : World) (hG : Glob w) (hE : EdAt w A l) :
    Calls Try.prog 9 #[.slice A l.length cap] w fun e w' => ∃ v, e = .returned v ∧ Below w.heap.size w w' ∧ VR (fun b _ => w.heap.size ≤ b) w' (.sl ((stuckL l).map (AV.int .i64))) v := by
  have cG : ∀ W : World, W.heap = w.heap → Calls Try.prog 15 #[.slice A l.length cap] W fun e w' => ∃ ms c, e = .returned (.map (some w.heap.size)) ∧ Below w.heap.size W w' ∧ Grp w' (w.heap.size + 1) w.heap.size (grL l) ms c := fun W hW => by
    rw [← hW]
    exact graph_any l (by omega) A cap W fun i e he => by
      obtain ⟨b, off, h1, h2, h3, h4⟩ := hE i e he
      exact ⟨b, off, h1, by rw [hW]; exact h2, by rw [← h3]; unfold World.cell?; rw [hW], by rw [← h4]; unfold World.cell?; rw [hW]⟩
  have hlen : (avE (grL l)).length ≤ 1000000 := by have := grL_len l; simp [avE]; omega
  obtain ⟨base, hbase⟩ : ∃ base, w.heap.size = base := ⟨_, rfl⟩
  rw [hbase] at cG
  go_enter Try.func9, Try.ntmps9
  go_wp2_with (first
    | (go_at_call 15; refine (cG _ rfl).mono ?_; rintro e w1 ⟨ms, c, rfl, hB1, hGr⟩)
    | (go_at_call 19; refine (keysB_ok _ _).mono ?_; rintro e w3 ⟨rfl, rfl⟩)
    | (go_at_call 12; refine (sortedG_at hGr hin hl).mono ?_; rintro e w4 ⟨v, r, rfl, hri, hmem, hrow, hB4⟩)
    | (go_at_call 18; refine (delG_at hG hbase hB1 hGr hl hri hmem hrow hB4).mono ?_; rintro e w5 ⟨v', rfl, hB5, hV⟩))
  go_ret
  exact ⟨v', rfl, by rw [hbase]; exact hB5, by rw [hbase]; exact hV⟩
end
section
/-
  The document's lists of numbers: in, sorted; whether two are one. Walked.
-/
open Go.RowKit
set_option linter.unusedVariables false
set_option linter.unusedSimpArgs false
set_option maxRecDepth 100000
attribute [local go_sem ↓] runOp headOp
/-! ### percolate/percolateref13.in -/
def r_rin_0 : Reg := ⟨[], [⟨(.mv (.c (.bool false))), (some 4), none, [], []⟩], [], [], false⟩
def r_rin_1 : Reg := ⟨[], [⟨(.mv (.c (.int .i64 0))), (some 5), none, [], []⟩], [], [], false⟩
def t_rin_2 : List ROp := [⟨(.mv (.t 5)), (some 6), none, [], []⟩, ⟨(.mv (.t 0)), (some 7), none, [], []⟩, ⟨(.len false (.t 7)), (some 8), none, [], []⟩, ⟨(.bin .lss (.t 6) (.t 8)), (some 9), none, [], []⟩]
def r_rin_2 : Reg := ⟨[], t_rin_2, [], [], false⟩
def t_rin_3 : List ROp := [⟨(.mv (.t 0)), (some 12), none, [], []⟩, ⟨(.mv (.t 5)), (some 13), none, [], []⟩, ⟨(.iaddr 1 (.t 12) (.t 13)), (some 14), none, [], []⟩, ⟨(.load 1 false (.t 14)), (some 15), none, [], []⟩, ⟨(.mv (.t 1)), (some 16), none, [], []⟩, ⟨(.bin .eql (.t 15) (.t 16)), (some 17), none, [], []⟩]
def r_rin_3 : Reg := ⟨[], t_rin_3, [], [], false⟩
def r_rin_4 : Reg := ⟨[], [⟨(.mv (.c (.bool true))), (some 4), none, [], []⟩], [], [], false⟩
def t_rin_5 : List ROp := [⟨(.mv (.t 5)), (some 10), none, [], []⟩, ⟨(.bin .add (.t 10) (.c (.int .i64 1))), (some 11), none, [], []⟩, ⟨(.mv (.t 11)), (some 5), none, [], []⟩]
def r_rin_5 : Reg := ⟨[], t_rin_5, [], [], false⟩
def r_rin_l6 : IR := (.seq (.seq (.reg r_rin_2)
  (.cond (.t 9) .skip
  (.exit 0)))
  (.seq (.block 1 (.seq (.reg r_rin_3)
  (.cond (.t 17) (.seq (.reg r_rin_4)
  .ret)
  .skip)))
  (.reg r_rin_5)))
def r_rin_7 : Reg := ⟨[], [⟨(.mv (.c (.bool false))), (some 4), none, [], []⟩], [], [], false⟩
def ir_rin : IR := (.seq (.reg r_rin_0)
  (.seq (.seq (.reg r_rin_1)
  (.block 0 (.loop r_rin_l6)))
  (.seq (.reg r_rin_7)
  .ret)))
def res_rin : List RDesc := [(.tmp 4)]
theorem e_rin_0 (C : FuncId → List AV → AV → Prop) (σ : St) (K : St → Prop) : runReg C r_rin_0 σ K = runOps C [⟨(.mv (.c (.bool false))), (some 4), none, [], []⟩] (σ.kills []) K := rfl
theorem e_rin_1 (C : FuncId → List AV → AV → Prop) (σ : St) (K : St → Prop) : runReg C r_rin_1 σ K = runOps C [⟨(.mv (.c (.int .i64 0))), (some 5), none, [], []⟩] (σ.kills []) K := rfl
theorem e_rin_2 (C : FuncId → List AV → AV → Prop) (σ : St) (K : St → Prop) : runReg C r_rin_2 σ K = runOps C t_rin_2 (σ.kills []) K := rfl
theorem e_rin_3 (C : FuncId → List AV → AV → Prop) (σ : St) (K : St → Prop) : runReg C r_rin_3 σ K = runOps C t_rin_3 (σ.kills []) K := rfl
theorem e_rin_4 (C : FuncId → List AV → AV → Prop) (σ : St) (K : St → Prop) : runReg C r_rin_4 σ K = runOps C [⟨(.mv (.c (.bool true))), (some 4), none, [], []⟩] (σ.kills []) K := rfl
theorem e_rin_5 (C : FuncId → List AV → AV → Prop) (σ : St) (K : St → Prop) : runReg C r_rin_5 σ K = runOps C t_rin_5 (σ.kills []) K := rfl
theorem e_rin_7 (C : FuncId → List AV → AV → Prop) (σ : St) (K : St → Prop) : runReg C r_rin_7 σ K = runOps C [⟨(.mv (.c (.bool false))), (some 4), none, [], []⟩] (σ.kills []) K := rfl
theorem fn_rin {args : List AV} {r : AV} (ha : args.length.ble Try.f16.ntmps = true) (h : run (AFn Try.prog) ir_rin (endQ res_rin r) (initSt args)) : AFn Try.prog 16 args r :=
  AFn.of_code (pv := false) (hint := fun _ => []) (c := Try.f16.body.getD .skip) (by kernel_rfl) (by kernel_rfl) Try.func16 (by kernel_rfl) (by kernel_rfl) (by kernel_rfl) (of_decide_eq_true (by kernel_rfl)) (Nat.le_of_ble_eq_true ha) (Nat.le_of_ble_eq_true (by kernel_rfl)) (run_ok h)
/-! ### percolate/percolateref13.sorted -/
def r_rso_0 : Reg := ⟨[], [⟨(.mknil 1 3), (some 2), none, [], []⟩], [2], [], false⟩
def r_rso_1 : Reg := ⟨[], [⟨(.mknil 1 3), (some 3), none, [], []⟩], [3], [], false⟩
def t_rso_2 : List ROp := [⟨(.mv (.t 3)), (some 6), none, [], []⟩, ⟨(.len false (.t 6)), (some 7), none, [], []⟩, ⟨(.mv (.t 0)), (some 8), none, [], []⟩, ⟨(.len false (.t 8)), (some 9), none, [], []⟩, ⟨(.bin .lss (.t 7) (.t 9)), (some 10), none, [], []⟩]
def r_rso_2 : Reg := ⟨[], t_rso_2, [], [], false⟩
def r_rso_3 : Reg := ⟨[], [⟨(.mv (.c (.int .i64 (-1)))), (some 4), none, [], []⟩], [], [], false⟩
def r_rso_4 : Reg := ⟨[], [⟨(.mv (.c (.int .i64 0))), (some 5), none, [], []⟩], [], [], false⟩
def t_rso_5 : List ROp := [⟨(.mv (.t 5)), (some 11), none, [], []⟩, ⟨(.mv (.t 0)), (some 12), none, [], []⟩, ⟨(.len false (.t 12)), (some 13), none, [], []⟩, ⟨(.bin .lss (.t 11) (.t 13)), (some 14), none, [], []⟩]
def r_rso_5 : Reg := ⟨[], t_rso_5, [], [], false⟩
def t_rso_6 : List ROp := [⟨(.bin .lss (.t 31) (.t 35)), (some 36), (some (27, false)), [], []⟩, ⟨(.pick (.t 27) (.c (.bool true)) (.t 36)), (some 37), (some (24, true)), [], []⟩, ⟨(.pick (.t 24) (.t 37) (.c (.bool false))), (some 38), none, [], []⟩]
def h_rso_6 : List ROp := [⟨(.mv (.t 3)), (some 17), none, [22], []⟩, ⟨(.mv (.t 0)), (some 18), none, [22], []⟩, ⟨(.mv (.t 5)), (some 19), none, [22], []⟩, ⟨(.iaddr 1 (.t 18) (.t 19)), (some 20), none, [22], []⟩, ⟨(.load 1 false (.t 20)), (some 21), none, [22], []⟩, ⟨(.callv (.c (.clo 16 [] [])) [(.t 17), (.t 21)]), (some 22), none, [], []⟩, ⟨(.un .not (.t 22)), (some 23), none, [], []⟩, ⟨(.mv (.t 23)), (some 24), none, [], []⟩, ⟨(.mv (.t 4)), (some 25), (some (24, true)), [], []⟩, ⟨(.bin .lss (.t 25) (.c (.int .i64 0))), (some 26), (some (24, true)), [], []⟩, ⟨(.mv (.t 26)), (some 27), (some (24, true)), [], []⟩, ⟨(.mv (.t 0)), (some 28), (some (27, false)), [], []⟩, ⟨(.mv (.t 5)), (some 29), (some (27, false)), [], []⟩, ⟨(.iaddr 1 (.t 28) (.t 29)), (some 30), (some (27, false)), [], []⟩, ⟨(.load 1 false (.t 30)), (some 31), (some (27, false)), [], []⟩, ⟨(.mv (.t 0)), (some 32), (some (27, false)), [], []⟩, ⟨(.mv (.t 4)), (some 33), (some (27, false)), [], []⟩, ⟨(.iaddr 1 (.t 32) (.t 33)), (some 34), (some (27, false)), [], []⟩, ⟨(.load 1 false (.t 34)), (some 35), (some (27, false)), [], []⟩]
def r_rso_6 : Reg := ⟨h_rso_6, t_rso_6, [22], [], true⟩
def r_rso_7 : Reg := ⟨[], [⟨(.mv (.t 5)), (some 39), none, [], []⟩, ⟨(.mv (.t 39)), (some 4), none, [], []⟩], [], [], false⟩
def t_rso_8 : List ROp := [⟨(.mv (.t 5)), (some 15), none, [], []⟩, ⟨(.bin .add (.t 15) (.c (.int .i64 1))), (some 16), none, [], []⟩, ⟨(.mv (.t 16)), (some 5), none, [], []⟩]
def r_rso_8 : Reg := ⟨[], t_rso_8, [], [], false⟩
def r_rso_l9 : IR := (.seq (.seq (.reg r_rso_5)
  (.cond (.t 14) .skip
  (.exit 2)))
  (.seq (.block 3 (.seq (.reg r_rso_6)
  (.cond (.t 38) (.reg r_rso_7)
  .skip)))
  (.reg r_rso_8)))
def r_rso_10 : Reg := ⟨[], [⟨(.mv (.t 4)), (some 40), none, [], []⟩, ⟨(.bin .lss (.t 40) (.c (.int .i64 0))), (some 41), none, [], []⟩], [], [], false⟩
def r_rso_11 : Reg := ⟨[], [⟨(.mv (.t 3)), (some 42), none, [], []⟩, ⟨(.mv (.t 42)), (some 2), none, [], []⟩], [], [], false⟩
def t_rso_12 : List ROp := [⟨(.mv (.t 3)), (some 43), none, [48], []⟩, ⟨(.mv (.t 0)), (some 44), none, [48], []⟩, ⟨(.mv (.t 4)), (some 45), none, [48], []⟩, ⟨(.iaddr 1 (.t 44) (.t 45)), (some 46), none, [48], []⟩, ⟨(.load 1 false (.t 46)), (some 47), none, [48], []⟩, ⟨(.bsl 1 3 [(.t 47)]), (some 48), none, [], []⟩, ⟨(.append 1 3 8 (.t 43) (.t 48)), (some 49), none, [], []⟩, ⟨(.mv (.t 49)), (some 3), none, [], []⟩]
def r_rso_12 : Reg := ⟨[], t_rso_12, [48], [], false⟩
def r_rso_l13 : IR := (.seq (.seq (.reg r_rso_2)
  (.cond (.t 10) .skip
  (.exit 0)))
  (.block 1 (.seq (.reg r_rso_3)
  (.seq (.seq (.reg r_rso_4)
  (.block 2 (.loop r_rso_l9)))
  (.seq (.seq (.reg r_rso_10)
  (.cond (.t 41) (.seq (.reg r_rso_11)
  .ret)
  .skip))
  (.reg r_rso_12))))))
def r_rso_14 : Reg := ⟨[], [⟨(.mv (.t 3)), (some 50), none, [], []⟩, ⟨(.mv (.t 50)), (some 2), none, [], []⟩], [], [], false⟩
def ir_rso : IR := (.seq (.reg r_rso_0)
  (.seq (.reg r_rso_1)
  (.seq (.block 0 (.loop r_rso_l13))
  (.seq (.reg r_rso_14)
  .ret))))
def res_rso : List RDesc := [(.tmp 2)]
theorem e_rso_0 (C : FuncId → List AV → AV → Prop) (σ : St) (K : St → Prop) : runReg C r_rso_0 σ K = runOps C [⟨(.mknil 1 3), (some 2), none, [], []⟩] (σ.kills [2]) K := rfl
theorem e_rso_1 (C : FuncId → List AV → AV → Prop) (σ : St) (K : St → Prop) : runReg C r_rso_1 σ K = runOps C [⟨(.mknil 1 3), (some 3), none, [], []⟩] (σ.kills [3]) K := rfl
theorem e_rso_2 (C : FuncId → List AV → AV → Prop) (σ : St) (K : St → Prop) : runReg C r_rso_2 σ K = runOps C t_rso_2 (σ.kills []) K := rfl
theorem e_rso_3 (C : FuncId → List AV → AV → Prop) (σ : St) (K : St → Prop) : runReg C r_rso_3 σ K = runOps C [⟨(.mv (.c (.int .i64 (-1)))), (some 4), none, [], []⟩] (σ.kills []) K := rfl
theorem e_rso_4 (C : FuncId → List AV → AV → Prop) (σ : St) (K : St → Prop) : runReg C r_rso_4 σ K = runOps C [⟨(.mv (.c (.int .i64 0))), (some 5), none, [], []⟩] (σ.kills []) K := rfl
theorem e_rso_5 (C : FuncId → List AV → AV → Prop) (σ : St) (K : St → Prop) : runReg C r_rso_5 σ K = runOps C t_rso_5 (σ.kills []) K := rfl
theorem e_rso_6 (C : FuncId → List AV → AV → Prop) (σ : St) (K : St → Prop) : runReg C r_rso_6 σ K = runHead C [] t_rso_6 h_rso_6 (σ.kills [22]) K := rfl
theorem e_rso_7 (C : FuncId → List AV → AV → Prop) (σ : St) (K : St → Prop) : runReg C r_rso_7 σ K = runOps C [⟨(.mv (.t 5)), (some 39), none, [], []⟩, ⟨(.mv (.t 39)), (some 4), none, [], []⟩] (σ.kills []) K := rfl
theorem e_rso_8 (C : FuncId → List AV → AV → Prop) (σ : St) (K : St → Prop) : runReg C r_rso_8 σ K = runOps C t_rso_8 (σ.kills []) K := rfl
theorem e_rso_10 (C : FuncId → List AV → AV → Prop) (σ : St) (K : St → Prop) : runReg C r_rso_10 σ K = runOps C [⟨(.mv (.t 4)), (some 40), none, [], []⟩, ⟨(.bin .lss (.t 40) (.c (.int .i64 0))), (some 41), none, [], []⟩] (σ.kills []) K := rfl
theorem e_rso_11 (C : FuncId → List AV → AV → Prop) (σ : St) (K : St → Prop) : runReg C r_rso_11 σ K = runOps C [⟨(.mv (.t 3)), (some 42), none, [], []⟩, ⟨(.mv (.t 42)), (some 2), none, [], []⟩] (σ.kills []) K := rfl
theorem e_rso_12 (C : FuncId → List AV → AV → Prop) (σ : St) (K : St → Prop) : runReg C r_rso_12 σ K = runOps C t_rso_12 (σ.kills [48]) K := rfl
theorem e_rso_14 (C : FuncId → List AV → AV → Prop) (σ : St) (K : St → Prop) : runReg C r_rso_14 σ K = runOps C [⟨(.mv (.t 3)), (some 50), none, [], []⟩, ⟨(.mv (.t 50)), (some 2), none, [], []⟩] (σ.kills []) K := rfl
theorem fn_rso {args : List AV} {r : AV} (ha : args.length.ble Try.f17.ntmps = true) (h : run (AFn Try.prog) ir_rso (endQ res_rso r) (initSt args)) : AFn Try.prog 17 args r :=
  AFn.of_code (pv := false) (hint := fun _ => []) (c := Try.f17.body.getD .skip) (by kernel_rfl) (by kernel_rfl) Try.func17 (by kernel_rfl) (by kernel_rfl) (by kernel_rfl) (of_decide_eq_true (by kernel_rfl)) (Nat.le_of_ble_eq_true ha) (Nat.le_of_ble_eq_true (by kernel_rfl)) (run_ok h)
/-! ### percolate/percolateref11.Ints -/
def r_wints_0 : Reg := ⟨[], [⟨(.mv (.c (.bool false))), (some 4), none, [], []⟩], [], [], false⟩
def t_wints_1 : List ROp := [⟨(.mv (.t 0)), (some 6), none, [], []⟩, ⟨(.len false (.t 6)), (some 7), none, [], []⟩, ⟨(.mv (.t 1)), (some 8), none, [], []⟩, ⟨(.len false (.t 8)), (some 9), none, [], []⟩, ⟨(.bin .neq (.t 7) (.t 9)), (some 10), none, [], []⟩]
def r_wints_1 : Reg := ⟨[], t_wints_1, [], [], false⟩
def r_wints_2 : Reg := ⟨[], [⟨(.mv (.c (.bool false))), (some 4), none, [], []⟩], [], [], false⟩
def r_wints_3 : Reg := ⟨[], [⟨(.mv (.c (.int .i64 0))), (some 5), none, [], []⟩], [], [], false⟩
def t_wints_4 : List ROp := [⟨(.mv (.t 5)), (some 11), none, [], []⟩, ⟨(.mv (.t 0)), (some 12), none, [], []⟩, ⟨(.len false (.t 12)), (some 13), none, [], []⟩, ⟨(.bin .lss (.t 11) (.t 13)), (some 14), none, [], []⟩]
def r_wints_4 : Reg := ⟨[], t_wints_4, [], [], false⟩
def h_wints_5 : List ROp := [⟨(.mv (.t 0)), (some 17), none, [], []⟩, ⟨(.mv (.t 5)), (some 18), none, [], []⟩, ⟨(.iaddr 1 (.t 17) (.t 18)), (some 19), none, [], []⟩, ⟨(.load 1 false (.t 19)), (some 20), none, [], []⟩, ⟨(.mv (.t 1)), (some 21), none, [], []⟩, ⟨(.mv (.t 5)), (some 22), none, [], []⟩, ⟨(.iaddr 1 (.t 21) (.t 22)), (some 23), none, [], []⟩, ⟨(.load 1 false (.t 23)), (some 24), none, [], []⟩]
def r_wints_5 : Reg := ⟨h_wints_5, [⟨(.bin .neq (.t 20) (.t 24)), (some 25), none, [], []⟩], [], [], true⟩
def r_wints_6 : Reg := ⟨[], [⟨(.mv (.c (.bool false))), (some 4), none, [], []⟩], [], [], false⟩
def t_wints_7 : List ROp := [⟨(.mv (.t 5)), (some 15), none, [], []⟩, ⟨(.bin .add (.t 15) (.c (.int .i64 1))), (some 16), none, [], []⟩, ⟨(.mv (.t 16)), (some 5), none, [], []⟩]
def r_wints_7 : Reg := ⟨[], t_wints_7, [], [], false⟩
def r_wints_l8 : IR := (.seq (.seq (.reg r_wints_4)
  (.cond (.t 14) .skip
  (.exit 0)))
  (.seq (.block 1 (.seq (.reg r_wints_5)
  (.cond (.t 25) (.seq (.reg r_wints_6)
  .ret)
  .skip)))
  (.reg r_wints_7)))
def r_wints_9 : Reg := ⟨[], [⟨(.mv (.c (.bool true))), (some 4), none, [], []⟩], [], [], false⟩
def ir_wints : IR := (.seq (.reg r_wints_0)
  (.seq (.seq (.reg r_wints_1)
  (.cond (.t 10) (.seq (.reg r_wints_2)
  .ret)
  .skip))
  (.seq (.seq (.reg r_wints_3)
  (.block 0 (.loop r_wints_l8)))
  (.seq (.reg r_wints_9)
  .ret))))
def res_wints : List RDesc := [(.tmp 4)]
theorem e_wints_0 (C : FuncId → List AV → AV → Prop) (σ : St) (K : St → Prop) : runReg C r_wints_0 σ K = runOps C [⟨(.mv (.c (.bool false))), (some 4), none, [], []⟩] (σ.kills []) K := rfl
theorem e_wints_1 (C : FuncId → List AV → AV → Prop) (σ : St) (K : St → Prop) : runReg C r_wints_1 σ K = runOps C t_wints_1 (σ.kills []) K := rfl
theorem e_wints_2 (C : FuncId → List AV → AV → Prop) (σ : St) (K : St → Prop) : runReg C r_wints_2 σ K = runOps C [⟨(.mv (.c (.bool false))), (some 4), none, [], []⟩] (σ.kills []) K := rfl
theorem e_wints_3 (C : FuncId → List AV → AV → Prop) (σ : St) (K : St → Prop) : runReg C r_wints_3 σ K = runOps C [⟨(.mv (.c (.int .i64 0))), (some 5), none, [], []⟩] (σ.kills []) K := rfl
theorem e_wints_4 (C : FuncId → List AV → AV → Prop) (σ : St) (K : St → Prop) : runReg C r_wints_4 σ K = runOps C t_wints_4 (σ.kills []) K := rfl
theorem e_wints_5 (C : FuncId → List AV → AV → Prop) (σ : St) (K : St → Prop) : runReg C r_wints_5 σ K = runHead C [] [⟨(.bin .neq (.t 20) (.t 24)), (some 25), none, [], []⟩] h_wints_5 (σ.kills []) K := rfl
theorem e_wints_6 (C : FuncId → List AV → AV → Prop) (σ : St) (K : St → Prop) : runReg C r_wints_6 σ K = runOps C [⟨(.mv (.c (.bool false))), (some 4), none, [], []⟩] (σ.kills []) K := rfl
theorem e_wints_7 (C : FuncId → List AV → AV → Prop) (σ : St) (K : St → Prop) : runReg C r_wints_7 σ K = runOps C t_wints_7 (σ.kills []) K := rfl
theorem e_wints_9 (C : FuncId → List AV → AV → Prop) (σ : St) (K : St → Prop) : runReg C r_wints_9 σ K = runOps C [⟨(.mv (.c (.bool true))), (some 4), none, [], []⟩] (σ.kills []) K := rfl
theorem fn_wints {args : List AV} {r : AV} (ha : args.length.ble Try.f6.ntmps = true) (h : run (AFn Try.prog) ir_wints (endQ res_wints r) (initSt args)) : AFn Try.prog 6 args r :=
  AFn.of_code (pv := false) (hint := fun _ => []) (c := Try.f6.body.getD .skip) (by kernel_rfl) (by kernel_rfl) Try.func6 (by kernel_rfl) (by kernel_rfl) (by kernel_rfl) (of_decide_eq_true (by kernel_rfl)) (Nat.le_of_ble_eq_true ha) (Nat.le_of_ble_eq_true (by kernel_rfl)) (run_ok h)
attribute [local go_sem ↓] ir_rin
attribute [local go_sem] res_rin e_rin_0 e_rin_1 e_rin_2 t_rin_2 e_rin_3 t_rin_3 e_rin_4 e_rin_5 t_rin_5 e_rin_7
attribute [local go_sem ↓] ir_rso
attribute [local go_sem] res_rso e_rso_0 e_rso_1 e_rso_2 t_rso_2 e_rso_3 e_rso_4 e_rso_5 t_rso_5 e_rso_6 t_rso_6 h_rso_6 e_rso_7 e_rso_8 t_rso_8 e_rso_10 e_rso_11 e_rso_12 t_rso_12 e_rso_14
attribute [local go_sem ↓] ir_wints
attribute [local go_sem] res_wints e_wints_0 e_wints_1 t_wints_1 e_wints_2 e_wints_3 e_wints_4 t_wints_4 e_wints_5 h_wints_5 e_wints_6 e_wints_7 t_wints_7 e_wints_9
theorem getW {α : Type} {l : List α} {j : Nat} (h : j < l.length) : ∃ x, l[j]? = some x := ⟨_, List.getElem?_eq_getElem h⟩
theorem wrapW {j : Nat} (h : j ≤ 1000000000000000) : IntKind.i64.wrap ((j : Int) + 1) = ((j + 1 : Nat) : Int) := by rw [IntWalk.i64_in _ (by omega)]; rfl
theorem takeW {α : Type} {l : List α} {j : Nat} {x : α} (h : l[j]? = some x) : l.take (j + 1) = l.take j ++ [x] := by rw [List.take_add_one, h]; rfl
theorem dropW {α : Type} {l : List α} {j : Nat} {x : α} (h : l[j]? = some x) : l.drop j = x :: l.drop (j + 1) := by
  obtain ⟨hlt, e⟩ := List.getElem?_eq_some_iff.1 h
  rw [List.drop_eq_getElem_cons hlt, e]
/-! ### two lists of numbers -/
def eqW : List Int → List Int → Bool
  | [], [] => true
  | x :: a, y :: b => (x == y) && eqW a b
  | _, _ => false
theorem eqW_self : ∀ l : List Int, eqW l l = true
  | [] => rfl
  | x :: l => by rw [eqW, eqW_self l, beq_self_eq_true]; rfl
theorem eqW_len : ∀ (a b : List Int), a.length ≠ b.length → eqW a b = false
  | [], [], h => absurd rfl h
  | [], y :: b, _ => rfl
  | x :: a, [], _ => rfl
  | x :: a, y :: b, h => by
    rw [eqW, eqW_len a b (fun e => h (by rw [List.length_cons, List.length_cons, e])), Bool.and_false]
def wintsInv (a b : List Int) (R : Bool) (k : Nat) (σ : St) : Prop :=
  ∃ j : Nat, j ≤ a.length ∧ k = a.length - j ∧ σ.T 0 = .sl (a.map (AV.int .i64)) ∧ σ.T 1 = .sl (b.map (AV.int .i64)) ∧ σ.T 5 = .int .i64 j ∧ eqW (a.drop j) (b.drop j) = R
set_option maxHeartbeats 1000000 in
theorem wints_ok (a b : List Int) (ha : a.length ≤ 1000000) (hb : b.length ≤ 1000000) : AFn Try.prog 6 [.sl (a.map (AV.int .i64)), .sl (b.map (AV.int .i64))] (.bool (eqW a b)) := by
  refine fn_wints rfl ?_
  by_cases hl : a.length = b.length
  case neg =>
    have hl' : (((a.length : Nat) : Int) != ((b.length : Nat) : Int)) = true := by simp; omega
    rw [eqW_len a b hl]
    simp (maxSteps := 4000000) only [go_sem, ↓reduceIte, reduceCtorEq, Nat.reduceEqDiff, Nat.reduceBEq, Nat.reduceAdd, Nat.reduceSub, Nat.reduceMul, Nat.reduceLT, Nat.reduceLeDiff, Nat.reduceBNe, Int.reduceBEq, Int.reduceBNe, Int.reduceLT, Int.reduceLE, hl', List.length_map]
  have hl' : (((a.length : Nat) : Int) != ((b.length : Nat) : Int)) = false := by simp; omega
  obtain ⟨R, hR⟩ : ∃ R, eqW a b = R := ⟨_, rfl⟩
  rw [hR]
  simp (maxSteps := 4000000) only [go_sem, ↓reduceIte, reduceCtorEq, Nat.reduceEqDiff, Nat.reduceBEq, Nat.reduceAdd, Nat.reduceSub, Nat.reduceMul, Nat.reduceLT, Nat.reduceLeDiff, Nat.reduceBNe, Int.reduceBEq, Int.reduceBNe, Int.reduceLT, Int.reduceLE, hl', List.length_map]
  refine run_loop (wintsInv a b R) (k := a.length) ⟨0, by omega, rfl, ?_, ?_, ?_, hR⟩ ?_
  · (simp (maxSteps := 4000000) only [go_sem, ↓reduceIte, reduceCtorEq, Nat.reduceEqDiff, Nat.reduceBEq, Nat.reduceAdd, Nat.reduceSub, Nat.reduceMul, Nat.reduceLT, Nat.reduceLeDiff, Nat.reduceBNe, Int.reduceBEq, Int.reduceBNe, Int.reduceLT, Int.reduceLE]) <;> rfl
  · (simp (maxSteps := 4000000) only [go_sem, ↓reduceIte, reduceCtorEq, Nat.reduceEqDiff, Nat.reduceBEq, Nat.reduceAdd, Nat.reduceSub, Nat.reduceMul, Nat.reduceLT, Nat.reduceLeDiff, Nat.reduceBNe, Int.reduceBEq, Int.reduceBNe, Int.reduceLT, Int.reduceLE]) <;> rfl
  · (simp (maxSteps := 4000000) only [go_sem, ↓reduceIte, reduceCtorEq, Nat.reduceEqDiff, Nat.reduceBEq, Nat.reduceAdd, Nat.reduceSub, Nat.reduceMul, Nat.reduceLT, Nat.reduceLeDiff, Nat.reduceBNe, Int.reduceBEq, Int.reduceBNe, Int.reduceLT, Int.reduceLE]) <;> rfl
  clear hR
  rintro k σ ⟨j, hj, rfl, t0, t1, t5, hr⟩
  simp only [r_wints_l8]
  by_cases hlt : j < a.length
  case neg =>
    have hlt' : ¬ (j : Int) < (a.length : Int) := by omega
    rw [List.drop_eq_nil_of_le (by omega), List.drop_eq_nil_of_le (by omega), eqW] at hr
    subst hr
    simp (maxSteps := 4000000) only [go_sem, ↓reduceIte, reduceCtorEq, Nat.reduceEqDiff, Nat.reduceBEq, Nat.reduceAdd, Nat.reduceSub, Nat.reduceMul, Nat.reduceLT, Nat.reduceLeDiff, Nat.reduceBNe, Int.reduceBEq, Int.reduceBNe, Int.reduceLT, Int.reduceLE, t0, t1, t5, hlt', List.length_map]
  have hlt' : (j : Int) < (a.length : Int) := by omega
  have hlt2 : j < b.length := by omega
  obtain ⟨x, hx⟩ := getW hlt
  obtain ⟨y, hy⟩ := getW hlt2
  have hgx := atI hx
  have hgy := atI hy
  have hw := wrapW (j := j) (by omega)
  rw [dropW hx, dropW hy, eqW] at hr
  by_cases hs : x = y
  · have hs' : (x != y) = false := by simp [hs]
    rw [show (x == y) = true by simp [hs], Bool.true_and] at hr
    simp (maxSteps := 4000000) only [go_sem, ↓reduceIte, reduceCtorEq, Nat.reduceEqDiff, Nat.reduceBEq, Nat.reduceAdd, Nat.reduceSub, Nat.reduceMul, Nat.reduceLT, Nat.reduceLeDiff, Nat.reduceBNe, Int.reduceBEq, Int.reduceBNe, Int.reduceLT, Int.reduceLE, t0, t1, t5, hlt', hgx, hgy, hs', hw, hlt, hlt2, List.length_map, Int.toNat_natCast]
    (repeat refine And.intro (by omega) ?_)
    refine ⟨a.length - (j + 1), by omega, j + 1, by omega, rfl, ?_, ?_, ?_, hr⟩
    · simp (maxSteps := 4000000) only [go_sem, ↓reduceIte, reduceCtorEq, Nat.reduceEqDiff, Nat.reduceBEq, Nat.reduceAdd, Nat.reduceSub, Nat.reduceMul, Nat.reduceLT, Nat.reduceLeDiff, Nat.reduceBNe, Int.reduceBEq, Int.reduceBNe, Int.reduceLT, Int.reduceLE, t0]
    · simp (maxSteps := 4000000) only [go_sem, ↓reduceIte, reduceCtorEq, Nat.reduceEqDiff, Nat.reduceBEq, Nat.reduceAdd, Nat.reduceSub, Nat.reduceMul, Nat.reduceLT, Nat.reduceLeDiff, Nat.reduceBNe, Int.reduceBEq, Int.reduceBNe, Int.reduceLT, Int.reduceLE, t1]
    · simp (maxSteps := 4000000) only [go_sem, ↓reduceIte, reduceCtorEq, Nat.reduceEqDiff, Nat.reduceBEq, Nat.reduceAdd, Nat.reduceSub, Nat.reduceMul, Nat.reduceLT, Nat.reduceLeDiff, Nat.reduceBNe, Int.reduceBEq, Int.reduceBNe, Int.reduceLT, Int.reduceLE, hw]
  · have hs' : (x != y) = true := by simp [hs]
    rw [show (x == y) = false by simp [hs], Bool.false_and] at hr
    subst hr
    simp (maxSteps := 4000000) only [go_sem, ↓reduceIte, reduceCtorEq, Nat.reduceEqDiff, Nat.reduceBEq, Nat.reduceAdd, Nat.reduceSub, Nat.reduceMul, Nat.reduceLT, Nat.reduceLeDiff, Nat.reduceBNe, Int.reduceBEq, Int.reduceBNe, Int.reduceLT, Int.reduceLE, t0, t1, t5, hlt', hgx, hgy, hs', hlt, hlt2, List.length_map, Int.toNat_natCast]
    all_goals omega
/-! ### in -/
def rinInv (l : List Int) (n : Int) (R : Bool) (k : Nat) (σ : St) : Prop :=
  ∃ j : Nat, j ≤ l.length ∧ k = l.length - j ∧ σ.T 0 = .sl (l.map (AV.int .i64)) ∧ σ.T 1 = .int .i64 n ∧ σ.T 5 = .int .i64 j ∧ (l.drop j).contains n = R
set_option maxHeartbeats 1000000 in
theorem rin_ok (l : List Int) (n : Int) (hl : l.length ≤ 1000000) : AFn Try.prog 16 [.sl (l.map (AV.int .i64)), .int .i64 n] (.bool (l.contains n)) := by
  refine fn_rin rfl ?_
  obtain ⟨R, hR⟩ : ∃ R, l.contains n = R := ⟨_, rfl⟩
  rw [hR]
  simp (maxSteps := 4000000) only [go_sem, ↓reduceIte, reduceCtorEq, Nat.reduceEqDiff, Nat.reduceBEq, Nat.reduceAdd, Nat.reduceSub, Nat.reduceMul, Nat.reduceLT, Nat.reduceLeDiff, Nat.reduceBNe, Int.reduceBEq, Int.reduceBNe, Int.reduceLT, Int.reduceLE]
  refine run_loop (rinInv l n R) (k := l.length) ⟨0, by omega, rfl, ?_, ?_, ?_, hR⟩ ?_
  · (simp (maxSteps := 4000000) only [go_sem, ↓reduceIte, reduceCtorEq, Nat.reduceEqDiff, Nat.reduceBEq, Nat.reduceAdd, Nat.reduceSub, Nat.reduceMul, Nat.reduceLT, Nat.reduceLeDiff, Nat.reduceBNe, Int.reduceBEq, Int.reduceBNe, Int.reduceLT, Int.reduceLE]) <;> rfl
  · (simp (maxSteps := 4000000) only [go_sem, ↓reduceIte, reduceCtorEq, Nat.reduceEqDiff, Nat.reduceBEq, Nat.reduceAdd, Nat.reduceSub, Nat.reduceMul, Nat.reduceLT, Nat.reduceLeDiff, Nat.reduceBNe, Int.reduceBEq, Int.reduceBNe, Int.reduceLT, Int.reduceLE]) <;> rfl
  · (simp (maxSteps := 4000000) only [go_sem, ↓reduceIte, reduceCtorEq, Nat.reduceEqDiff, Nat.reduceBEq, Nat.reduceAdd, Nat.reduceSub, Nat.reduceMul, Nat.reduceLT, Nat.reduceLeDiff, Nat.reduceBNe, Int.reduceBEq, Int.reduceBNe, Int.reduceLT, Int.reduceLE]) <;> rfl
  clear hR
  rintro k σ ⟨j, hj, rfl, t0, t1, t5, hr⟩
  simp only [r_rin_l6]
  by_cases hlt : j < l.length
  case neg =>
    have hlt' : ¬ (j : Int) < (l.length : Int) := by omega
    rw [List.drop_eq_nil_of_le (by omega)] at hr
    simp at hr
    subst hr
    simp (maxSteps := 4000000) only [go_sem, ↓reduceIte, reduceCtorEq, Nat.reduceEqDiff, Nat.reduceBEq, Nat.reduceAdd, Nat.reduceSub, Nat.reduceMul, Nat.reduceLT, Nat.reduceLeDiff, Nat.reduceBNe, Int.reduceBEq, Int.reduceBNe, Int.reduceLT, Int.reduceLE, t0, t1, t5, hlt', List.length_map]
  have hlt' : (j : Int) < (l.length : Int) := by omega
  obtain ⟨x, hx⟩ := getW hlt
  have hgx := atI hx
  have hw := wrapW (j := j) (by omega)
  rw [dropW hx, List.contains_cons] at hr
  by_cases hs : x = n
  · have hs' : (x == n) = true := by simp [hs]
    rw [show (n == x) = true by simp [hs], Bool.true_or] at hr
    subst hr
    simp (maxSteps := 4000000) only [go_sem, ↓reduceIte, reduceCtorEq, Nat.reduceEqDiff, Nat.reduceBEq, Nat.reduceAdd, Nat.reduceSub, Nat.reduceMul, Nat.reduceLT, Nat.reduceLeDiff, Nat.reduceBNe, Int.reduceBEq, Int.reduceBNe, Int.reduceLT, Int.reduceLE, t0, t1, t5, hlt', hgx, hs', hlt, List.length_map, Int.toNat_natCast]
    all_goals omega
  · have hs' : (x == n) = false := by simp [hs]
    rw [show (n == x) = false by simpa using fun e : n = x => hs e.symm, Bool.false_or] at hr
    simp (maxSteps := 4000000) only [go_sem, ↓reduceIte, reduceCtorEq, Nat.reduceEqDiff, Nat.reduceBEq, Nat.reduceAdd, Nat.reduceSub, Nat.reduceMul, Nat.reduceLT, Nat.reduceLeDiff, Nat.reduceBNe, Int.reduceBEq, Int.reduceBNe, Int.reduceLT, Int.reduceLE, t0, t1, t5, hlt', hgx, hs', hw, hlt, List.length_map, Int.toNat_natCast]
    (repeat refine And.intro (by omega) ?_)
    refine ⟨l.length - (j + 1), by omega, j + 1, by omega, rfl, ?_, ?_, ?_, hr⟩
    · simp (maxSteps := 4000000) only [go_sem, ↓reduceIte, reduceCtorEq, Nat.reduceEqDiff, Nat.reduceBEq, Nat.reduceAdd, Nat.reduceSub, Nat.reduceMul, Nat.reduceLT, Nat.reduceLeDiff, Nat.reduceBNe, Int.reduceBEq, Int.reduceBNe, Int.reduceLT, Int.reduceLE, t0]
    · simp (maxSteps := 4000000) only [go_sem, ↓reduceIte, reduceCtorEq, Nat.reduceEqDiff, Nat.reduceBEq, Nat.reduceAdd, Nat.reduceSub, Nat.reduceMul, Nat.reduceLT, Nat.reduceLeDiff, Nat.reduceBNe, Int.reduceBEq, Int.reduceBNe, Int.reduceLT, Int.reduceLE, t1]
    · simp (maxSteps := 4000000) only [go_sem, ↓reduceIte, reduceCtorEq, Nat.reduceEqDiff, Nat.reduceBEq, Nat.reduceAdd, Nat.reduceSub, Nat.reduceMul, Nat.reduceLT, Nat.reduceLeDiff, Nat.reduceBNe, Int.reduceBEq, Int.reduceBNe, Int.reduceLT, Int.reduceLE, hw]
/-! ### sorted -/
/-- how far it is sorted -/
structure Srt (l out : List Int) : Prop where
  rise : Rise out
  sub : ∀ x, x ∈ out → x ∈ l
  low : ∀ y, y ∈ l → y ∉ out → ∀ x, x ∈ out → x < y
theorem Srt.nil (l : List Int) : Srt l [] := ⟨List.Pairwise.nil, fun x h => by simp at h, fun y _ _ x h => by simp at h⟩
theorem Srt.len {l out : List Int} (h : Srt l out) : out.length ≤ l.length := sub_len (h.rise.imp fun h => by omega) h.sub
theorem Srt.add {l out : List Int} (h : Srt l out) {x : Int} (hx : x ∈ l) (hn : x ∉ out) (hm : ∀ y, y ∈ l → y ∉ out → x ≤ y) : Srt l (out ++ [x]) := by
  refine ⟨List.pairwise_append.2 ⟨h.rise, by simp, fun a ha b hb => ?_⟩, fun y hy => ?_, fun y hy hny z hz => ?_⟩
  · have : b = x := by simpa using hb
    subst this
    exact h.low _ hx hn a ha
  · rcases List.mem_append.1 hy with hy | hy
    · exact h.sub y hy
    · have : y = x := by simpa using hy
      subst this; exact hx
  · have h1 : y ∉ out := fun e => hny (List.mem_append_left _ e)
    have h2 : y ≠ x := fun e => hny (by simp [e])
    rcases List.mem_append.1 hz with hz | hz
    · exact h.low y hy h1 z hz
    · have : z = x := by simpa using hz
      subst this
      have := hm y hy h1
      omega
theorem Srt.all {l out : List Int} (h : Srt l out) (ha : ∀ y, y ∈ l → y ∈ out) : out = srtI l :=
  rise_unique h.rise (rise_srtI l) fun x => by rw [mem_srtI]; exact ⟨h.sub x, ha x⟩
theorem Srt.full {l out : List Int} (h : Srt l out) (hl : l.length ≤ out.length) : out = srtI l := by
  refine h.all fun y hy => Classical.byContradiction fun hn => ?_
  have hd : out.Nodup := h.rise.imp fun h => by omega
  have := sub_len (List.nodup_cons.2 ⟨hn, hd⟩) (b := l) fun x hx => by
    rcases List.mem_cons.1 hx with e | e
    · rw [e]; exact hy
    · exact h.sub x e
  rw [List.length_cons] at this
  omega
/-- the best so far -/
def Bst (l out : List Int) (i : Nat) (b : Int) : Prop := (b = -1 ∧ ∀ x, x ∈ l.take i → x ∈ out) ∨ ∃ (j : Nat) (x : Int), b = (j : Int) ∧ j < i ∧ l[j]? = some x ∧ x ∉ out ∧ ∀ y, y ∈ l.take i → y ∉ out → x ≤ y
theorem Bst.skip {l out : List Int} {i : Nat} {b x : Int} (h : Bst l out i b) (hx : l[i]? = some x) (hn : x ∈ out) : Bst l out (i + 1) b := by
  rcases h with ⟨h1, h2⟩ | ⟨j, y, h1, h2, h3, h4, h5⟩
  · refine .inl ⟨h1, fun z hz => ?_⟩
    rw [takeW hx] at hz
    rcases List.mem_append.1 hz with hz | hz
    · exact h2 z hz
    · have : z = x := by simpa using hz
      subst this; exact hn
  · refine .inr ⟨j, y, h1, by omega, h3, h4, fun z hz hnz => ?_⟩
    rw [takeW hx] at hz
    rcases List.mem_append.1 hz with hz | hz
    · exact h5 z hz hnz
    · have : z = x := by simpa using hz
      subst this; exact absurd hn hnz
theorem Bst.keep {l out : List Int} {i j : Nat} {x y : Int} (h : Bst l out i (j : Int)) (hx : l[i]? = some x) (hj : l[j]? = some y) (hle : ¬ x < y) : Bst l out (i + 1) (j : Int) := by
  rcases h with ⟨h1, h2⟩ | ⟨j', y', h1, h2, h3, h4, h5⟩
  · omega
  · have : j' = j := by omega
    subst this
    rw [hj] at h3
    cases h3
    refine .inr ⟨j', y, rfl, by omega, hj, h4, fun z hz hnz => ?_⟩
    rw [takeW hx] at hz
    rcases List.mem_append.1 hz with hz | hz
    · exact h5 z hz hnz
    · have : z = x := by simpa using hz
      subst this; omega
theorem Bst.new {l out : List Int} {i : Nat} {b x : Int} (h : Bst l out i b) (hx : l[i]? = some x) (hn : x ∉ out) (hlt : ∀ (j : Nat) (y : Int), b = (j : Int) → l[j]? = some y → x < y) : Bst l out (i + 1) (i : Int) := by
  refine .inr ⟨i, x, rfl, by omega, hx, hn, fun z hz hnz => ?_⟩
  rw [takeW hx] at hz
  rcases List.mem_append.1 hz with hz | hz
  · rcases h with ⟨h1, h2⟩ | ⟨j, y, h1, h2, h3, h4, h5⟩
    · exact absurd (h2 z hz) hnz
    · have := hlt j y h1 h3
      have := h5 z hz hnz
      omega
  · have : z = x := by simpa using hz
    subst this; omega
def rsoI (l out : List Int) (p : Nat) (k : Nat) (σ : St) : Prop :=
  ∃ (i : Nat) (b : Int) (p' : Nat), i ≤ l.length ∧ k = l.length - i ∧ Bst l out i b ∧ p' ≤ out.length ∧ σ.T 0 = .sl (l.map (AV.int .i64)) ∧ σ.T 3 = .rs 3 0 out.length ∧ σ.H 3 = some ⟨1, 3, out.map (AV.int .i64), p'⟩ ∧ σ.T 4 = .int .i64 b ∧ σ.T 5 = .int .i64 i
def rsoEnd (l out : List Int) (σ : St) : Prop :=
  ∃ (b : Int) (p' : Nat), Bst l out l.length b ∧ p' ≤ out.length ∧ σ.T 0 = .sl (l.map (AV.int .i64)) ∧ σ.T 3 = .rs 3 0 out.length ∧ σ.H 3 = some ⟨1, 3, out.map (AV.int .i64), p'⟩ ∧ σ.T 4 = .int .i64 b
set_option maxHeartbeats 8000000 in
theorem best_loop (l out : List Int) (p : Nat) (hl : l.length ≤ 1000000) (ho : out.length ≤ 1000000) (Q : XK → St → Prop) (hEnd : ∀ σ, rsoEnd l out σ → Q (.exit 2) σ) (k : Nat) (σ : St) (hI : rsoI l out p k σ) :
    run (AFn Try.prog) r_rso_l9 (thenQ (fun σ' => ∃ m, m < k ∧ rsoI l out p m σ') Q) σ := by
  obtain ⟨i, b, p', hi, rfl, hB, hp, t0, t3, h3, t4, t5⟩ := hI
  simp only [r_rso_l9]
  by_cases hlt : i < l.length
  case neg =>
    have hlt' : ¬ (i : Int) < (l.length : Int) := by omega
    have e : i = l.length := by omega
    subst e
    simp (maxSteps := 4000000) only [go_sem, ↓reduceIte, reduceCtorEq, Nat.reduceEqDiff, Nat.reduceBEq, Nat.reduceAdd, Nat.reduceSub, Nat.reduceMul, Nat.reduceLT, Nat.reduceLeDiff, Nat.reduceBNe, Int.reduceBEq, Int.reduceBNe, Int.reduceLT, Int.reduceLE, t0, t5, hlt', List.length_map]
    refine hEnd _ ⟨b, p', hB, hp, ?_, ?_, ?_, ?_⟩
    · simp (maxSteps := 4000000) only [go_sem, ↓reduceIte, reduceCtorEq, Nat.reduceEqDiff, Nat.reduceBEq, Nat.reduceAdd, Nat.reduceSub, Nat.reduceMul, Nat.reduceLT, Nat.reduceLeDiff, Nat.reduceBNe, Int.reduceBEq, Int.reduceBNe, Int.reduceLT, Int.reduceLE, t0]
    · simp (maxSteps := 4000000) only [go_sem, ↓reduceIte, reduceCtorEq, Nat.reduceEqDiff, Nat.reduceBEq, Nat.reduceAdd, Nat.reduceSub, Nat.reduceMul, Nat.reduceLT, Nat.reduceLeDiff, Nat.reduceBNe, Int.reduceBEq, Int.reduceBNe, Int.reduceLT, Int.reduceLE, t3]
    · simp (maxSteps := 4000000) only [go_sem, ↓reduceIte, reduceCtorEq, Nat.reduceEqDiff, Nat.reduceBEq, Nat.reduceAdd, Nat.reduceSub, Nat.reduceMul, Nat.reduceLT, Nat.reduceLeDiff, Nat.reduceBNe, Int.reduceBEq, Int.reduceBNe, Int.reduceLT, Int.reduceLE, h3]
    · simp (maxSteps := 4000000) only [go_sem, ↓reduceIte, reduceCtorEq, Nat.reduceEqDiff, Nat.reduceBEq, Nat.reduceAdd, Nat.reduceSub, Nat.reduceMul, Nat.reduceLT, Nat.reduceLeDiff, Nat.reduceBNe, Int.reduceBEq, Int.reduceBNe, Int.reduceLT, Int.reduceLE, t4]
  have hlt' : (i : Int) < (l.length : Int) := by omega
  obtain ⟨x, hx⟩ := getW hlt
  have hgx := atI hx
  have hw := wrapW (j := i) (by omega)
  have cI := rin_ok out x ho
  have tk : List.take out.length (out.map (AV.int .i64)) = out.map (AV.int .i64) := List.take_of_length_le (by simp)
  have z0 : (0 : Int) ≤ (i : Int) := Int.natCast_nonneg _
  cases hc : out.contains x with
  | true =>
    have hm : x ∈ out := by simpa using hc
    rw [hc] at cI
    (repeat (first | simp (maxSteps := 4000000) only [go_sem, ↓reduceIte, reduceCtorEq, Nat.reduceEqDiff, Nat.reduceBEq, Nat.reduceAdd, Nat.reduceSub, Nat.reduceMul, Nat.reduceLT, Nat.reduceLeDiff, Nat.reduceBNe, Int.reduceBEq, Int.reduceBNe, Int.reduceLT, Int.reduceLE, t0, t3, h3, t4, t5, hlt', hgx, hw, tk, hlt, z0, Int.toNat_natCast, List.length_map, Nat.zero_add] | refine calling (cI) ?_ | refine callingH (cI) ?_ | refine And.intro (by omega) ?_ | refine And.intro (fun d hd => by (repeat (rcases hd with rfl | hd; · exact ⟨rfl, rfl⟩)); cases hd) ?_))
    (repeat refine And.intro (by omega) ?_)
    refine ⟨l.length - (i + 1), by omega, i + 1, b, p', by omega, rfl, hB.skip hx hm, hp, ?_, ?_, ?_, ?_, ?_⟩
    · simp (maxSteps := 4000000) only [go_sem, ↓reduceIte, reduceCtorEq, Nat.reduceEqDiff, Nat.reduceBEq, Nat.reduceAdd, Nat.reduceSub, Nat.reduceMul, Nat.reduceLT, Nat.reduceLeDiff, Nat.reduceBNe, Int.reduceBEq, Int.reduceBNe, Int.reduceLT, Int.reduceLE, t0]
    · simp (maxSteps := 4000000) only [go_sem, ↓reduceIte, reduceCtorEq, Nat.reduceEqDiff, Nat.reduceBEq, Nat.reduceAdd, Nat.reduceSub, Nat.reduceMul, Nat.reduceLT, Nat.reduceLeDiff, Nat.reduceBNe, Int.reduceBEq, Int.reduceBNe, Int.reduceLT, Int.reduceLE, t3]
    · simp (maxSteps := 4000000) only [go_sem, ↓reduceIte, reduceCtorEq, Nat.reduceEqDiff, Nat.reduceBEq, Nat.reduceAdd, Nat.reduceSub, Nat.reduceMul, Nat.reduceLT, Nat.reduceLeDiff, Nat.reduceBNe, Int.reduceBEq, Int.reduceBNe, Int.reduceLT, Int.reduceLE, h3]
    · simp (maxSteps := 4000000) only [go_sem, ↓reduceIte, reduceCtorEq, Nat.reduceEqDiff, Nat.reduceBEq, Nat.reduceAdd, Nat.reduceSub, Nat.reduceMul, Nat.reduceLT, Nat.reduceLeDiff, Nat.reduceBNe, Int.reduceBEq, Int.reduceBNe, Int.reduceLT, Int.reduceLE, t4]
    · simp (maxSteps := 4000000) only [go_sem, ↓reduceIte, reduceCtorEq, Nat.reduceEqDiff, Nat.reduceBEq, Nat.reduceAdd, Nat.reduceSub, Nat.reduceMul, Nat.reduceLT, Nat.reduceLeDiff, Nat.reduceBNe, Int.reduceBEq, Int.reduceBNe, Int.reduceLT, Int.reduceLE, hw]
  | false =>
    have hm : x ∉ out := by simpa using hc
    rw [hc] at cI
    by_cases hb : b < 0
    · (repeat (first | simp (maxSteps := 4000000) only [go_sem, ↓reduceIte, reduceCtorEq, Nat.reduceEqDiff, Nat.reduceBEq, Nat.reduceAdd, Nat.reduceSub, Nat.reduceMul, Nat.reduceLT, Nat.reduceLeDiff, Nat.reduceBNe, Int.reduceBEq, Int.reduceBNe, Int.reduceLT, Int.reduceLE, t0, t3, h3, t4, t5, hlt', hgx, hw, tk, hlt, z0, hb, Int.toNat_natCast, List.length_map, Nat.zero_add] | refine calling (cI) ?_ | refine callingH (cI) ?_ | refine And.intro (by omega) ?_ | refine And.intro (fun d hd => by (repeat (rcases hd with rfl | hd; · exact ⟨rfl, rfl⟩)); cases hd) ?_))
      (repeat refine And.intro (by omega) ?_)
      refine ⟨l.length - (i + 1), by omega, i + 1, i, p', by omega, rfl, hB.new hx hm fun j y e _ => by omega, hp, ?_, ?_, ?_, ?_, ?_⟩
      · simp (maxSteps := 4000000) only [go_sem, ↓reduceIte, reduceCtorEq, Nat.reduceEqDiff, Nat.reduceBEq, Nat.reduceAdd, Nat.reduceSub, Nat.reduceMul, Nat.reduceLT, Nat.reduceLeDiff, Nat.reduceBNe, Int.reduceBEq, Int.reduceBNe, Int.reduceLT, Int.reduceLE, t0]
      · simp (maxSteps := 4000000) only [go_sem, ↓reduceIte, reduceCtorEq, Nat.reduceEqDiff, Nat.reduceBEq, Nat.reduceAdd, Nat.reduceSub, Nat.reduceMul, Nat.reduceLT, Nat.reduceLeDiff, Nat.reduceBNe, Int.reduceBEq, Int.reduceBNe, Int.reduceLT, Int.reduceLE, t3]
      · simp (maxSteps := 4000000) only [go_sem, ↓reduceIte, reduceCtorEq, Nat.reduceEqDiff, Nat.reduceBEq, Nat.reduceAdd, Nat.reduceSub, Nat.reduceMul, Nat.reduceLT, Nat.reduceLeDiff, Nat.reduceBNe, Int.reduceBEq, Int.reduceBNe, Int.reduceLT, Int.reduceLE, h3]
      · simp (maxSteps := 4000000) only [go_sem, ↓reduceIte, reduceCtorEq, Nat.reduceEqDiff, Nat.reduceBEq, Nat.reduceAdd, Nat.reduceSub, Nat.reduceMul, Nat.reduceLT, Nat.reduceLeDiff, Nat.reduceBNe, Int.reduceBEq, Int.reduceBNe, Int.reduceLT, Int.reduceLE, t4]
      · simp (maxSteps := 4000000) only [go_sem, ↓reduceIte, reduceCtorEq, Nat.reduceEqDiff, Nat.reduceBEq, Nat.reduceAdd, Nat.reduceSub, Nat.reduceMul, Nat.reduceLT, Nat.reduceLeDiff, Nat.reduceBNe, Int.reduceBEq, Int.reduceBNe, Int.reduceLT, Int.reduceLE, hw]
    · obtain ⟨j, y, rfl, hy, hji⟩ : ∃ (j : Nat) (y : Int), b = (j : Int) ∧ l[j]? = some y ∧ j < i := by
        rcases hB with ⟨rfl, _⟩ | ⟨j, y, rfl, h2, hy, h4, h5⟩
        · omega
        · exact ⟨j, y, rfl, hy, h2⟩
      have hgy := atI hy
      have hjl : j < l.length := by omega
      have hjl' : (j : Int) < (l.length : Int) := by omega
      have zj : (0 : Int) ≤ (j : Int) := Int.natCast_nonneg _
      by_cases hxy : x < y
      · (repeat (first | simp (maxSteps := 4000000) only [go_sem, ↓reduceIte, reduceCtorEq, Nat.reduceEqDiff, Nat.reduceBEq, Nat.reduceAdd, Nat.reduceSub, Nat.reduceMul, Nat.reduceLT, Nat.reduceLeDiff, Nat.reduceBNe, Int.reduceBEq, Int.reduceBNe, Int.reduceLT, Int.reduceLE, t0, t3, h3, t4, t5, hlt', hgx, hgy, hw, tk, hlt, z0, hb, hjl, hjl', zj, hxy, Int.toNat_natCast, List.length_map, Nat.zero_add] | refine calling (cI) ?_ | refine callingH (cI) ?_ | refine And.intro (by omega) ?_ | refine And.intro (fun d hd => by (repeat (rcases hd with rfl | hd; · exact ⟨rfl, rfl⟩)); cases hd) ?_))
        (repeat refine And.intro (by omega) ?_)
        refine ⟨l.length - (i + 1), by omega, i + 1, i, p', by omega, rfl, hB.new hx hm fun j' y' e h => by
            have : j' = j := by omega
            subst this
            rw [hy] at h
            cases h; exact hxy, hp, ?_, ?_, ?_, ?_, ?_⟩
        · simp (maxSteps := 4000000) only [go_sem, ↓reduceIte, reduceCtorEq, Nat.reduceEqDiff, Nat.reduceBEq, Nat.reduceAdd, Nat.reduceSub, Nat.reduceMul, Nat.reduceLT, Nat.reduceLeDiff, Nat.reduceBNe, Int.reduceBEq, Int.reduceBNe, Int.reduceLT, Int.reduceLE, t0]
        · simp (maxSteps := 4000000) only [go_sem, ↓reduceIte, reduceCtorEq, Nat.reduceEqDiff, Nat.reduceBEq, Nat.reduceAdd, Nat.reduceSub, Nat.reduceMul, Nat.reduceLT, Nat.reduceLeDiff, Nat.reduceBNe, Int.reduceBEq, Int.reduceBNe, Int.reduceLT, Int.reduceLE, t3]
        · simp (maxSteps := 4000000) only [go_sem, ↓reduceIte, reduceCtorEq, Nat.reduceEqDiff, Nat.reduceBEq, Nat.reduceAdd, Nat.reduceSub, Nat.reduceMul, Nat.reduceLT, Nat.reduceLeDiff, Nat.reduceBNe, Int.reduceBEq, Int.reduceBNe, Int.reduceLT, Int.reduceLE, h3]
        · simp (maxSteps := 4000000) only [go_sem, ↓reduceIte, reduceCtorEq, Nat.reduceEqDiff, Nat.reduceBEq, Nat.reduceAdd, Nat.reduceSub, Nat.reduceMul, Nat.reduceLT, Nat.reduceLeDiff, Nat.reduceBNe, Int.reduceBEq, Int.reduceBNe, Int.reduceLT, Int.reduceLE, t4]
        · simp (maxSteps := 4000000) only [go_sem, ↓reduceIte, reduceCtorEq, Nat.reduceEqDiff, Nat.reduceBEq, Nat.reduceAdd, Nat.reduceSub, Nat.reduceMul, Nat.reduceLT, Nat.reduceLeDiff, Nat.reduceBNe, Int.reduceBEq, Int.reduceBNe, Int.reduceLT, Int.reduceLE, hw]
      · (repeat (first | simp (maxSteps := 4000000) only [go_sem, ↓reduceIte, reduceCtorEq, Nat.reduceEqDiff, Nat.reduceBEq, Nat.reduceAdd, Nat.reduceSub, Nat.reduceMul, Nat.reduceLT, Nat.reduceLeDiff, Nat.reduceBNe, Int.reduceBEq, Int.reduceBNe, Int.reduceLT, Int.reduceLE, t0, t3, h3, t4, t5, hlt', hgx, hgy, hw, tk, hlt, z0, hb, hjl, hjl', zj, hxy, Int.toNat_natCast, List.length_map, Nat.zero_add] | refine calling (cI) ?_ | refine callingH (cI) ?_ | refine And.intro (by omega) ?_ | refine And.intro (fun d hd => by (repeat (rcases hd with rfl | hd; · exact ⟨rfl, rfl⟩)); cases hd) ?_))
        (repeat refine And.intro (by omega) ?_)
        refine ⟨l.length - (i + 1), by omega, i + 1, j, p', by omega, rfl, hB.keep hx hy hxy, hp, ?_, ?_, ?_, ?_, ?_⟩
        · simp (maxSteps := 4000000) only [go_sem, ↓reduceIte, reduceCtorEq, Nat.reduceEqDiff, Nat.reduceBEq, Nat.reduceAdd, Nat.reduceSub, Nat.reduceMul, Nat.reduceLT, Nat.reduceLeDiff, Nat.reduceBNe, Int.reduceBEq, Int.reduceBNe, Int.reduceLT, Int.reduceLE, t0]
        · simp (maxSteps := 4000000) only [go_sem, ↓reduceIte, reduceCtorEq, Nat.reduceEqDiff, Nat.reduceBEq, Nat.reduceAdd, Nat.reduceSub, Nat.reduceMul, Nat.reduceLT, Nat.reduceLeDiff, Nat.reduceBNe, Int.reduceBEq, Int.reduceBNe, Int.reduceLT, Int.reduceLE, t3]
        · simp (maxSteps := 4000000) only [go_sem, ↓reduceIte, reduceCtorEq, Nat.reduceEqDiff, Nat.reduceBEq, Nat.reduceAdd, Nat.reduceSub, Nat.reduceMul, Nat.reduceLT, Nat.reduceLeDiff, Nat.reduceBNe, Int.reduceBEq, Int.reduceBNe, Int.reduceLT, Int.reduceLE, h3]
        · simp (maxSteps := 4000000) only [go_sem, ↓reduceIte, reduceCtorEq, Nat.reduceEqDiff, Nat.reduceBEq, Nat.reduceAdd, Nat.reduceSub, Nat.reduceMul, Nat.reduceLT, Nat.reduceLeDiff, Nat.reduceBNe, Int.reduceBEq, Int.reduceBNe, Int.reduceLT, Int.reduceLE, t4]
        · simp (maxSteps := 4000000) only [go_sem, ↓reduceIte, reduceCtorEq, Nat.reduceEqDiff, Nat.reduceBEq, Nat.reduceAdd, Nat.reduceSub, Nat.reduceMul, Nat.reduceLT, Nat.reduceLeDiff, Nat.reduceBNe, Int.reduceBEq, Int.reduceBNe, Int.reduceLT, Int.reduceLE, hw]
def rsoInv (l : List Int) (k : Nat) (σ : St) : Prop :=
  ∃ (out : List Int) (p : Nat), Srt l out ∧ k = l.length - out.length ∧ p ≤ out.length ∧ σ.T 0 = .sl (l.map (AV.int .i64)) ∧ σ.T 3 = .rs 3 0 out.length ∧ σ.H 3 = some ⟨1, 3, out.map (AV.int .i64), p⟩
set_option maxHeartbeats 8000000 in
theorem rso_ok (l : List Int) (hl : l.length ≤ 1000000) : AFn Try.prog 17 [.sl (l.map (AV.int .i64))] (.sl ((srtI l).map (AV.int .i64))) := by
  refine fn_rso rfl ?_
  simp (maxSteps := 4000000) only [go_sem, ↓reduceIte, reduceCtorEq, Nat.reduceEqDiff, Nat.reduceBEq, Nat.reduceAdd, Nat.reduceSub, Nat.reduceMul, Nat.reduceLT, Nat.reduceLeDiff, Nat.reduceBNe, Int.reduceBEq, Int.reduceBNe, Int.reduceLT, Int.reduceLE]
  refine run_loop (rsoInv l) (k := l.length) ⟨[], 0, Srt.nil l, rfl, Nat.le_refl _, ?_, ?_, ?_⟩ ?_
  · (simp (maxSteps := 4000000) only [go_sem, ↓reduceIte, reduceCtorEq, Nat.reduceEqDiff, Nat.reduceBEq, Nat.reduceAdd, Nat.reduceSub, Nat.reduceMul, Nat.reduceLT, Nat.reduceLeDiff, Nat.reduceBNe, Int.reduceBEq, Int.reduceBNe, Int.reduceLT, Int.reduceLE]) <;> rfl
  · (simp (maxSteps := 4000000) only [go_sem, ↓reduceIte, reduceCtorEq, Nat.reduceEqDiff, Nat.reduceBEq, Nat.reduceAdd, Nat.reduceSub, Nat.reduceMul, Nat.reduceLT, Nat.reduceLeDiff, Nat.reduceBNe, Int.reduceBEq, Int.reduceBNe, Int.reduceLT, Int.reduceLE]) <;> rfl
  · (simp (maxSteps := 4000000) only [go_sem, ↓reduceIte, reduceCtorEq, Nat.reduceEqDiff, Nat.reduceBEq, Nat.reduceAdd, Nat.reduceSub, Nat.reduceMul, Nat.reduceLT, Nat.reduceLeDiff, Nat.reduceBNe, Int.reduceBEq, Int.reduceBNe, Int.reduceLT, Int.reduceLE]) <;> rfl
  rintro k σ ⟨out, p, hS, rfl, hp, t0, t3, h3⟩
  simp only [r_rso_l13]
  have hol := hS.len
  have tk : List.take out.length (out.map (AV.int .i64)) = out.map (AV.int .i64) := List.take_of_length_le (by simp)
  by_cases hlt : out.length < l.length
  case neg =>
    have hlt' : ¬ (out.length : Int) < (l.length : Int) := by omega
    rw [← hS.full (by omega)]
    simp (maxSteps := 4000000) only [go_sem, ↓reduceIte, reduceCtorEq, Nat.reduceEqDiff, Nat.reduceBEq, Nat.reduceAdd, Nat.reduceSub, Nat.reduceMul, Nat.reduceLT, Nat.reduceLeDiff, Nat.reduceBNe, Int.reduceBEq, Int.reduceBNe, Int.reduceLT, Int.reduceLE, t0, t3, h3, hlt', tk, List.length_map]
  have hlt' : (out.length : Int) < (l.length : Int) := by omega
  simp (maxSteps := 4000000) only [go_sem, ↓reduceIte, reduceCtorEq, Nat.reduceEqDiff, Nat.reduceBEq, Nat.reduceAdd, Nat.reduceSub, Nat.reduceMul, Nat.reduceLT, Nat.reduceLeDiff, Nat.reduceBNe, Int.reduceBEq, Int.reduceBNe, Int.reduceLT, Int.reduceLE, t0, t3, h3, hlt', List.length_map]
  refine run_loop (rsoI l out p) (k := l.length) ⟨0, -1, p, Nat.zero_le _, rfl, .inl ⟨rfl, fun x h => by simp at h⟩, hp, ?_, ?_, ?_, ?_, ?_⟩ ?_
  · simp (maxSteps := 4000000) only [go_sem, ↓reduceIte, reduceCtorEq, Nat.reduceEqDiff, Nat.reduceBEq, Nat.reduceAdd, Nat.reduceSub, Nat.reduceMul, Nat.reduceLT, Nat.reduceLeDiff, Nat.reduceBNe, Int.reduceBEq, Int.reduceBNe, Int.reduceLT, Int.reduceLE, t0]
  · simp (maxSteps := 4000000) only [go_sem, ↓reduceIte, reduceCtorEq, Nat.reduceEqDiff, Nat.reduceBEq, Nat.reduceAdd, Nat.reduceSub, Nat.reduceMul, Nat.reduceLT, Nat.reduceLeDiff, Nat.reduceBNe, Int.reduceBEq, Int.reduceBNe, Int.reduceLT, Int.reduceLE, t3]
  · simp (maxSteps := 4000000) only [go_sem, ↓reduceIte, reduceCtorEq, Nat.reduceEqDiff, Nat.reduceBEq, Nat.reduceAdd, Nat.reduceSub, Nat.reduceMul, Nat.reduceLT, Nat.reduceLeDiff, Nat.reduceBNe, Int.reduceBEq, Int.reduceBNe, Int.reduceLT, Int.reduceLE, h3]
  · simp (maxSteps := 4000000) only [go_sem, ↓reduceIte, reduceCtorEq, Nat.reduceEqDiff, Nat.reduceBEq, Nat.reduceAdd, Nat.reduceSub, Nat.reduceMul, Nat.reduceLT, Nat.reduceLeDiff, Nat.reduceBNe, Int.reduceBEq, Int.reduceBNe, Int.reduceLT, Int.reduceLE]
  · (simp (maxSteps := 4000000) only [go_sem, ↓reduceIte, reduceCtorEq, Nat.reduceEqDiff, Nat.reduceBEq, Nat.reduceAdd, Nat.reduceSub, Nat.reduceMul, Nat.reduceLT, Nat.reduceLeDiff, Nat.reduceBNe, Int.reduceBEq, Int.reduceBNe, Int.reduceLT, Int.reduceLE]) <;> rfl
  intro k σ hI
  refine best_loop l out p hl (by omega) _ ?_ k σ hI
  rintro σ ⟨b, p', hB, hp', t0, t3, h3, t4⟩
  rcases hB with ⟨rfl, hall⟩ | ⟨j, x, rfl, h2, hx, h4, h5⟩
  · rw [List.take_length] at hall
    rw [← hS.all hall]
    simp (maxSteps := 4000000) only [go_sem, ↓reduceIte, reduceCtorEq, Nat.reduceEqDiff, Nat.reduceBEq, Nat.reduceAdd, Nat.reduceSub, Nat.reduceMul, Nat.reduceLT, Nat.reduceLeDiff, Nat.reduceBNe, Int.reduceBEq, Int.reduceBNe, Int.reduceLT, Int.reduceLE, t0, t3, h3, t4, tk, List.length_map]
  · rw [List.take_length] at h5
    have hgx := atI hx
    have hj' : (j : Int) < (l.length : Int) := by omega
    have zj : (0 : Int) ≤ (j : Int) := Int.natCast_nonneg _
    have hnz : ¬ (j : Int) < 0 := by omega
    have hml : (out ++ [x]).length = out.length + 1 := List.length_append
    have hmm : (out ++ [x]).map (AV.int .i64) = out.map (AV.int .i64) ++ [.int .i64 x] := List.map_append
    have one : ∀ d : AV, d = .int .i64 x ∨ False → d.cells.length = 1 ∧ d.cells.all AV.one = true := fun d hd => by
      rcases hd with rfl | hd
      · exact ⟨rfl, rfl⟩
      · cases hd
    simp (maxSteps := 4000000) only [go_sem, ↓reduceIte, reduceCtorEq, Nat.reduceEqDiff, Nat.reduceBEq, Nat.reduceAdd, Nat.reduceSub, Nat.reduceMul, Nat.reduceLT, Nat.reduceLeDiff, Nat.reduceBNe, Int.reduceBEq, Int.reduceBNe, Int.reduceLT, Int.reduceLE, t0, t3, h3, t4, tk, hgx, hj', zj, hnz, h2, Int.toNat_natCast, List.length_map]
    refine ⟨⟨hp', ⟨by omega, by omega⟩, one⟩, l.length - (out ++ [x]).length, by rw [hml]; omega, out ++ [x], p', hS.add (List.mem_of_getElem? hx) h4 h5, rfl, by rw [hml]; omega, ?_, ?_, ?_⟩
    · simp (maxSteps := 4000000) only [go_sem, ↓reduceIte, reduceCtorEq, Nat.reduceEqDiff, Nat.reduceBEq, Nat.reduceAdd, Nat.reduceSub, Nat.reduceMul, Nat.reduceLT, Nat.reduceLeDiff, Nat.reduceBNe, Int.reduceBEq, Int.reduceBNe, Int.reduceLT, Int.reduceLE, t0]
    · simp (maxSteps := 4000000) only [go_sem, ↓reduceIte, reduceCtorEq, Nat.reduceEqDiff, Nat.reduceBEq, Nat.reduceAdd, Nat.reduceSub, Nat.reduceMul, Nat.reduceLT, Nat.reduceLeDiff, Nat.reduceBNe, Int.reduceBEq, Int.reduceBNe, Int.reduceLT, Int.reduceLE, hml]
    · simp (maxSteps := 4000000) only [go_sem, ↓reduceIte, reduceCtorEq, Nat.reduceEqDiff, Nat.reduceBEq, Nat.reduceAdd, Nat.reduceSub, Nat.reduceMul, Nat.reduceLT, Nat.reduceLeDiff, Nat.reduceBNe, Int.reduceBEq, Int.reduceBNe, Int.reduceLT, Int.reduceLE, h3, hmm, tk]
end
section
/-
  The document's Reach and Stuck, walked.
-/
open Go.RowKit
set_option linter.unusedVariables false
set_option linter.unusedSimpArgs false
set_option maxRecDepth 100000
attribute [local go_sem ↓] runOp headOp
/-! ### percolate/percolateref13.Reach -/
def r_rrc_0 : Reg := ⟨[], [⟨(.mknil 1 3), (some 4), none, [], []⟩], [4], [], false⟩
def r_rrc_1 : Reg := ⟨[], [⟨(.mknil 1 3), (some 5), none, [], []⟩], [5], [], false⟩
def r_rrc_2 : Reg := ⟨[], [⟨(.mv (.c (.bool true))), (some 6), none, [], []⟩], [], [], false⟩
def r_rrc_3 : Reg := ⟨[], [⟨(.mv (.t 6)), (some 8), none, [], []⟩], [], [], false⟩
def r_rrc_4 : Reg := ⟨[], [⟨(.mv (.c (.bool false))), (some 6), none, [], []⟩], [], [], false⟩
def r_rrc_5 : Reg := ⟨[], [⟨(.mv (.c (.int .i64 0))), (some 7), none, [], []⟩], [], [], false⟩
def t_rrc_6 : List ROp := [⟨(.mv (.t 7)), (some 9), none, [], []⟩, ⟨(.mv (.t 0)), (some 10), none, [], []⟩, ⟨(.len false (.t 10)), (some 11), none, [], []⟩, ⟨(.bin .lss (.t 9) (.t 11)), (some 12), none, [], []⟩]
def r_rrc_6 : Reg := ⟨[], t_rrc_6, [], [], false⟩
def t_rrc_7 : List ROp := [⟨(.mv (.t 0)), (some 15), none, [29, 38], []⟩, ⟨(.mv (.t 7)), (some 16), none, [29, 38], []⟩, ⟨(.iaddr 2 (.t 15) (.t 16)), (some 17), none, [29, 38], []⟩, ⟨(.faddr 0 (.t 17)), (some 18), none, [29, 38], []⟩, ⟨(.load 1 false (.t 18)), (some 19), none, [29, 38], []⟩, ⟨(.mv (.t 1)), (some 20), none, [29, 38], []⟩, ⟨(.bin .eql (.t 19) (.t 20)), (some 21), none, [29, 38], []⟩, ⟨(.mv (.t 21)), (some 22), none, [29, 38], []⟩, ⟨(.mv (.t 5)), (some 23), (some (22, false)), [29, 38], []⟩, ⟨(.mv (.t 0)), (some 24), (some (22, false)), [29, 38], []⟩, ⟨(.mv (.t 7)), (some 25), (some (22, false)), [29, 38], []⟩, ⟨(.iaddr 2 (.t 24) (.t 25)), (some 26), (some (22, false)), [29, 38], []⟩, ⟨(.faddr 0 (.t 26)), (some 27), (some (22, false)), [29, 38], []⟩, ⟨(.load 1 false (.t 27)), (some 28), (some (22, false)), [29, 38], []⟩, ⟨(.callv (.c (.clo 16 [] [])) [(.t 23), (.t 28)]), (some 29), (some (22, false)), [38], []⟩, ⟨(.pick (.t 22) (.c (.bool true)) (.t 29)), (some 30), none, [38], []⟩, ⟨(.mv (.t 30)), (some 31), none, [38], []⟩, ⟨(.mv (.t 5)), (some 32), (some (31, true)), [38], []⟩, ⟨(.mv (.t 0)), (some 33), (some (31, true)), [38], []⟩, ⟨(.mv (.t 7)), (some 34), (some (31, true)), [38], []⟩, ⟨(.iaddr 2 (.t 33) (.t 34)), (some 35), (some (31, true)), [38], []⟩, ⟨(.faddr 1 (.t 35)), (some 36), (some (31, true)), [38], []⟩, ⟨(.load 1 false (.t 36)), (some 37), (some (31, true)), [38], []⟩, ⟨(.callv (.c (.clo 16 [] [])) [(.t 32), (.t 37)]), (some 38), (some (31, true)), [], []⟩, ⟨(.un .not (.t 38)), (some 39), (some (31, true)), [], []⟩, ⟨(.pick (.t 31) (.t 39) (.c (.bool false))), (some 40), none, [], []⟩]
def r_rrc_7 : Reg := ⟨[], t_rrc_7, [29, 38], [], false⟩
def t_rrc_8 : List ROp := [⟨(.mv (.t 5)), (some 41), none, [47], []⟩, ⟨(.mv (.t 0)), (some 42), none, [47], []⟩, ⟨(.mv (.t 7)), (some 43), none, [47], []⟩, ⟨(.iaddr 2 (.t 42) (.t 43)), (some 44), none, [47], []⟩, ⟨(.faddr 1 (.t 44)), (some 45), none, [47], []⟩, ⟨(.load 1 false (.t 45)), (some 46), none, [47], []⟩, ⟨(.bsl 1 3 [(.t 46)]), (some 47), none, [], []⟩, ⟨(.append 1 3 8 (.t 41) (.t 47)), (some 48), none, [], []⟩, ⟨(.mv (.t 48)), (some 5), none, [], []⟩]
def r_rrc_8 : Reg := ⟨[], t_rrc_8, [47], [], false⟩
def r_rrc_9 : Reg := ⟨[], [⟨(.mv (.c (.bool true))), (some 6), none, [], []⟩], [], [], false⟩
def t_rrc_10 : List ROp := [⟨(.mv (.t 7)), (some 13), none, [], []⟩, ⟨(.bin .add (.t 13) (.c (.int .i64 1))), (some 14), none, [], []⟩, ⟨(.mv (.t 14)), (some 7), none, [], []⟩]
def r_rrc_10 : Reg := ⟨[], t_rrc_10, [], [], false⟩
def r_rrc_l11 : IR := (.seq (.seq (.reg r_rrc_6)
  (.cond (.t 12) .skip
  (.exit 2)))
  (.seq (.block 3 (.seq (.reg r_rrc_7)
  (.cond (.t 40) (.seq (.reg r_rrc_8)
  (.reg r_rrc_9))
  .skip)))
  (.reg r_rrc_10)))
def r_rrc_l12 : IR := (.seq (.seq (.reg r_rrc_3)
  (.cond (.t 8) .skip
  (.exit 0)))
  (.block 1 (.seq (.reg r_rrc_4)
  (.seq (.reg r_rrc_5)
  (.block 2 (.loop r_rrc_l11))))))
def t_rrc_13 : List ROp := [⟨(.mv (.t 5)), (some 49), none, [50], []⟩, ⟨(.callv (.c (.clo 17 [] [])) [(.t 49)]), (some 50), none, [], []⟩, ⟨(.mv (.t 50)), (some 4), none, [], []⟩]
def r_rrc_13 : Reg := ⟨[], t_rrc_13, [50], [], false⟩
def ir_rrc : IR := (.seq (.reg r_rrc_0)
  (.seq (.reg r_rrc_1)
  (.seq (.seq (.reg r_rrc_2)
  (.block 0 (.loop r_rrc_l12)))
  (.seq (.reg r_rrc_13)
  .ret))))
def res_rrc : List RDesc := [(.tmp 4)]
theorem e_rrc_0 (C : FuncId → List AV → AV → Prop) (σ : St) (K : St → Prop) : runReg C r_rrc_0 σ K = runOps C [⟨(.mknil 1 3), (some 4), none, [], []⟩] (σ.kills [4]) K := rfl
theorem e_rrc_1 (C : FuncId → List AV → AV → Prop) (σ : St) (K : St → Prop) : runReg C r_rrc_1 σ K = runOps C [⟨(.mknil 1 3), (some 5), none, [], []⟩] (σ.kills [5]) K := rfl
theorem e_rrc_2 (C : FuncId → List AV → AV → Prop) (σ : St) (K : St → Prop) : runReg C r_rrc_2 σ K = runOps C [⟨(.mv (.c (.bool true))), (some 6), none, [], []⟩] (σ.kills []) K := rfl
theorem e_rrc_3 (C : FuncId → List AV → AV → Prop) (σ : St) (K : St → Prop) : runReg C r_rrc_3 σ K = runOps C [⟨(.mv (.t 6)), (some 8), none, [], []⟩] (σ.kills []) K := rfl
theorem e_rrc_4 (C : FuncId → List AV → AV → Prop) (σ : St) (K : St → Prop) : runReg C r_rrc_4 σ K = runOps C [⟨(.mv (.c (.bool false))), (some 6), none, [], []⟩] (σ.kills []) K := rfl
theorem e_rrc_5 (C : FuncId → List AV → AV → Prop) (σ : St) (K : St → Prop) : runReg C r_rrc_5 σ K = runOps C [⟨(.mv (.c (.int .i64 0))), (some 7), none, [], []⟩] (σ.kills []) K := rfl
theorem e_rrc_6 (C : FuncId → List AV → AV → Prop) (σ : St) (K : St → Prop) : runReg C r_rrc_6 σ K = runOps C t_rrc_6 (σ.kills []) K := rfl
theorem e_rrc_7 (C : FuncId → List AV → AV → Prop) (σ : St) (K : St → Prop) : runReg C r_rrc_7 σ K = runOps C t_rrc_7 (σ.kills [29, 38]) K := rfl
theorem e_rrc_8 (C : FuncId → List AV → AV → Prop) (σ : St) (K : St → Prop) : runReg C r_rrc_8 σ K = runOps C t_rrc_8 (σ.kills [47]) K := rfl
theorem e_rrc_9 (C : FuncId → List AV → AV → Prop) (σ : St) (K : St → Prop) : runReg C r_rrc_9 σ K = runOps C [⟨(.mv (.c (.bool true))), (some 6), none, [], []⟩] (σ.kills []) K := rfl
theorem e_rrc_10 (C : FuncId → List AV → AV → Prop) (σ : St) (K : St → Prop) : runReg C r_rrc_10 σ K = runOps C t_rrc_10 (σ.kills []) K := rfl
theorem e_rrc_13 (C : FuncId → List AV → AV → Prop) (σ : St) (K : St → Prop) : runReg C r_rrc_13 σ K = runOps C t_rrc_13 (σ.kills [50]) K := rfl
theorem fn_rrc {args : List AV} {r : AV} (ha : args.length.ble Try.f8.ntmps = true) (h : run (AFn Try.prog) ir_rrc (endQ res_rrc r) (initSt args)) : AFn Try.prog 8 args r :=
  AFn.of_code (pv := false) (hint := fun _ => []) (c := Try.f8.body.getD .skip) (by kernel_rfl) (by kernel_rfl) Try.func8 (by kernel_rfl) (by kernel_rfl) (by kernel_rfl) (of_decide_eq_true (by kernel_rfl)) (Nat.le_of_ble_eq_true ha) (Nat.le_of_ble_eq_true (by kernel_rfl)) (run_ok h)
/-! ### percolate/percolateref13.Stuck -/
def r_rst_0 : Reg := ⟨[], [⟨(.mknil 1 3), (some 2), none, [], []⟩], [2], [], false⟩
def r_rst_1 : Reg := ⟨[], [⟨(.mknil 1 3), (some 3), none, [], []⟩], [3], [], false⟩
def r_rst_2 : Reg := ⟨[], [⟨(.mv (.c (.int .i64 0))), (some 4), none, [], []⟩], [], [], false⟩
def t_rst_3 : List ROp := [⟨(.mv (.t 4)), (some 5), none, [], []⟩, ⟨(.mv (.t 0)), (some 6), none, [], []⟩, ⟨(.len false (.t 6)), (some 7), none, [], []⟩, ⟨(.bin .lss (.t 5) (.t 7)), (some 8), none, [], []⟩]
def r_rst_3 : Reg := ⟨[], t_rst_3, [], [], false⟩
def t_rst_4 : List ROp := [⟨(.callv (.c (.clo 16 [] [])) [(.t 26), (.t 31)]), (some 32), (some (19, true)), [], []⟩, ⟨(.pick (.t 19) (.t 32) (.c (.bool false))), (some 33), none, [], []⟩]
def h_rst_4 : List ROp := [⟨(.mv (.t 3)), (some 11), none, [17, 26, 32], []⟩, ⟨(.mv (.t 0)), (some 12), none, [17, 26, 32], []⟩, ⟨(.mv (.t 4)), (some 13), none, [17, 26, 32], []⟩, ⟨(.iaddr 2 (.t 12) (.t 13)), (some 14), none, [17, 26, 32], []⟩, ⟨(.faddr 0 (.t 14)), (some 15), none, [17, 26, 32], []⟩, ⟨(.load 1 false (.t 15)), (some 16), none, [17, 26, 32], []⟩, ⟨(.callv (.c (.clo 16 [] [])) [(.t 11), (.t 16)]), (some 17), none, [26, 32], []⟩, ⟨(.un .not (.t 17)), (some 18), none, [26, 32], []⟩, ⟨(.mv (.t 18)), (some 19), none, [26, 32], []⟩, ⟨(.mv (.t 0)), (some 20), (some (19, true)), [26, 32], []⟩, ⟨(.mv (.t 0)), (some 21), (some (19, true)), [26, 32], []⟩, ⟨(.mv (.t 4)), (some 22), (some (19, true)), [26, 32], []⟩, ⟨(.iaddr 2 (.t 21) (.t 22)), (some 23), (some (19, true)), [26, 32], []⟩, ⟨(.faddr 0 (.t 23)), (some 24), (some (19, true)), [26, 32], []⟩, ⟨(.load 1 false (.t 24)), (some 25), (some (19, true)), [26, 32], []⟩, ⟨(.callv (.c (.clo 8 [] [])) [(.t 20), (.t 25)]), (some 26), (some (19, true)), [32], []⟩, ⟨(.mv (.t 0)), (some 27), (some (19, true)), [26, 32], []⟩, ⟨(.mv (.t 4)), (some 28), (some (19, true)), [26, 32], []⟩, ⟨(.iaddr 2 (.t 27) (.t 28)), (some 29), (some (19, true)), [26, 32], []⟩, ⟨(.faddr 0 (.t 29)), (some 30), (some (19, true)), [26, 32], []⟩, ⟨(.load 1 false (.t 30)), (some 31), (some (19, true)), [26, 32], []⟩]
def r_rst_4 : Reg := ⟨h_rst_4, t_rst_4, [17, 26, 32], [], true⟩
def t_rst_5 : List ROp := [⟨(.mv (.t 3)), (some 34), none, [40], []⟩, ⟨(.mv (.t 0)), (some 35), none, [40], []⟩, ⟨(.mv (.t 4)), (some 36), none, [40], []⟩, ⟨(.iaddr 2 (.t 35) (.t 36)), (some 37), none, [40], []⟩, ⟨(.faddr 0 (.t 37)), (some 38), none, [40], []⟩, ⟨(.load 1 false (.t 38)), (some 39), none, [40], []⟩, ⟨(.bsl 1 3 [(.t 39)]), (some 40), none, [], []⟩, ⟨(.append 1 3 8 (.t 34) (.t 40)), (some 41), none, [], []⟩, ⟨(.mv (.t 41)), (some 3), none, [], []⟩]
def r_rst_5 : Reg := ⟨[], t_rst_5, [40], [], false⟩
def t_rst_6 : List ROp := [⟨(.mv (.t 4)), (some 9), none, [], []⟩, ⟨(.bin .add (.t 9) (.c (.int .i64 1))), (some 10), none, [], []⟩, ⟨(.mv (.t 10)), (some 4), none, [], []⟩]
def r_rst_6 : Reg := ⟨[], t_rst_6, [], [], false⟩
def r_rst_l7 : IR := (.seq (.seq (.reg r_rst_3)
  (.cond (.t 8) .skip
  (.exit 0)))
  (.seq (.block 1 (.seq (.reg r_rst_4)
  (.cond (.t 33) (.reg r_rst_5)
  .skip)))
  (.reg r_rst_6)))
def t_rst_8 : List ROp := [⟨(.mv (.t 3)), (some 42), none, [43], []⟩, ⟨(.callv (.c (.clo 17 [] [])) [(.t 42)]), (some 43), none, [], []⟩, ⟨(.mv (.t 43)), (some 2), none, [], []⟩]
def r_rst_8 : Reg := ⟨[], t_rst_8, [43], [], false⟩
def ir_rst : IR := (.seq (.reg r_rst_0)
  (.seq (.reg r_rst_1)
  (.seq (.seq (.reg r_rst_2)
  (.block 0 (.loop r_rst_l7)))
  (.seq (.reg r_rst_8)
  .ret))))
def res_rst : List RDesc := [(.tmp 2)]
theorem e_rst_0 (C : FuncId → List AV → AV → Prop) (σ : St) (K : St → Prop) : runReg C r_rst_0 σ K = runOps C [⟨(.mknil 1 3), (some 2), none, [], []⟩] (σ.kills [2]) K := rfl
theorem e_rst_1 (C : FuncId → List AV → AV → Prop) (σ : St) (K : St → Prop) : runReg C r_rst_1 σ K = runOps C [⟨(.mknil 1 3), (some 3), none, [], []⟩] (σ.kills [3]) K := rfl
theorem e_rst_2 (C : FuncId → List AV → AV → Prop) (σ : St) (K : St → Prop) : runReg C r_rst_2 σ K = runOps C [⟨(.mv (.c (.int .i64 0))), (some 4), none, [], []⟩] (σ.kills []) K := rfl
theorem e_rst_3 (C : FuncId → List AV → AV → Prop) (σ : St) (K : St → Prop) : runReg C r_rst_3 σ K = runOps C t_rst_3 (σ.kills []) K := rfl
theorem e_rst_4 (C : FuncId → List AV → AV → Prop) (σ : St) (K : St → Prop) : runReg C r_rst_4 σ K = runHead C [] t_rst_4 h_rst_4 (σ.kills [17, 26, 32]) K := rfl
theorem e_rst_5 (C : FuncId → List AV → AV → Prop) (σ : St) (K : St → Prop) : runReg C r_rst_5 σ K = runOps C t_rst_5 (σ.kills [40]) K := rfl
theorem e_rst_6 (C : FuncId → List AV → AV → Prop) (σ : St) (K : St → Prop) : runReg C r_rst_6 σ K = runOps C t_rst_6 (σ.kills []) K := rfl
theorem e_rst_8 (C : FuncId → List AV → AV → Prop) (σ : St) (K : St → Prop) : runReg C r_rst_8 σ K = runOps C t_rst_8 (σ.kills [43]) K := rfl
theorem fn_rst {args : List AV} {r : AV} (ha : args.length.ble Try.f10.ntmps = true) (h : run (AFn Try.prog) ir_rst (endQ res_rst r) (initSt args)) : AFn Try.prog 10 args r :=
  AFn.of_code (pv := false) (hint := fun _ => []) (c := Try.f10.body.getD .skip) (by kernel_rfl) (by kernel_rfl) Try.func10 (by kernel_rfl) (by kernel_rfl) (by kernel_rfl) (of_decide_eq_true (by kernel_rfl)) (Nat.le_of_ble_eq_true ha) (Nat.le_of_ble_eq_true (by kernel_rfl)) (run_ok h)
attribute [local go_sem ↓] ir_rrc
attribute [local go_sem] res_rrc e_rrc_0 e_rrc_1 e_rrc_2 e_rrc_3 e_rrc_4 e_rrc_5 e_rrc_6 t_rrc_6 e_rrc_7 t_rrc_7 e_rrc_8 t_rrc_8 e_rrc_9 e_rrc_10 t_rrc_10 e_rrc_13 t_rrc_13
attribute [local go_sem ↓] ir_rst
attribute [local go_sem] res_rst e_rst_0 e_rst_1 e_rst_2 e_rst_3 t_rst_3 e_rst_4 t_rst_4 h_rst_4 e_rst_5 t_rst_5 e_rst_6 t_rst_6 e_rst_8 t_rst_8
def stepE (a : Int) (m : List Int) (e : Edge) : List Int := if (e.1 == a || m.contains e.1) && !m.contains e.2 then m ++ [e.2] else m
theorem pass_snoc (a : Int) (e : Edge) : ∀ (l : List Edge) (met : List Int), passE a (l ++ [e]) met = stepE a (passE a l met) e
  | [], met => rfl
  | x :: l, met => by
    show passE a (l ++ [e]) _ = stepE a (passE a l _) e
    exact pass_snoc a e l _
theorem pass_len {l : List Edge} {a : Int} {met : List Int} (i : Nat) (hn : met.Nodup) (ht : ∀ b, b ∈ met → b ∈ l.map (·.2)) : (passE a (l.take i) met).length ≤ l.length := by
  have := sub_len (pass_nodup (a := a) (l := l.take i) hn) (pass_target (L := l) (fun e he => List.mem_of_mem_take he) ht)
  rwa [List.length_map] at this
theorem pass_ge {l : List Edge} {a : Int} {met : List Int} : met.length ≤ (passE a l met).length := by
  obtain ⟨t, h⟩ := pass_grows a l met
  rw [h, List.length_append]; omega
theorem atE {l : List Edge} {j : Nat} {e : Edge} (h : l[j]? = some e) : (l.map edA).getD j .und = .agg [.int .i64 e.1, .int .i64 e.2] := by
  rw [List.getD_eq_getElem?_getD, List.getElem?_map, h]; rfl
def rrcI (l : List Edge) (a : Int) (met : List Int) (k : Nat) (σ : St) : Prop :=
  ∃ (i p : Nat) (cur : List Int), i ≤ l.length ∧ k = l.length - i ∧ cur = passE a (l.take i) met ∧ p ≤ cur.length ∧ σ.T 0 = .sl (l.map edA) ∧ σ.T 1 = .int .i64 a ∧ σ.T 5 = .rs 5 0 cur.length ∧ σ.H 5 = some ⟨1, 3, cur.map (AV.int .i64), p⟩ ∧
    σ.T 6 = .bool (decide (met.length < cur.length)) ∧ σ.T 7 = .int .i64 i
def rrcEnd (l : List Edge) (a : Int) (met : List Int) (σ : St) : Prop :=
  ∃ (p : Nat) (cur : List Int), cur = passE a l met ∧ p ≤ cur.length ∧ σ.T 0 = .sl (l.map edA) ∧ σ.T 1 = .int .i64 a ∧ σ.T 5 = .rs 5 0 cur.length ∧ σ.H 5 = some ⟨1, 3, cur.map (AV.int .i64), p⟩ ∧
    σ.T 6 = .bool (decide (met.length < cur.length))
set_option maxHeartbeats 8000000 in
theorem pass_loop (l : List Edge) (a : Int) (met : List Int) (hl : l.length ≤ 1000000) (hn : met.Nodup) (ht : ∀ b, b ∈ met → b ∈ l.map (·.2)) (Q : XK → St → Prop) (hEnd : ∀ σ, rrcEnd l a met σ → Q (.exit 2) σ) (k : Nat) (σ : St) (hI : rrcI l a met k σ) :
    run (AFn Try.prog) r_rrc_l11 (thenQ (fun σ' => ∃ m, m < k ∧ rrcI l a met m σ') Q) σ := by
  obtain ⟨i, p, cur, hi, rfl, hcur, hp, t0, t1, t5, h5, t6, t7⟩ := hI
  simp only [r_rrc_l11]
  by_cases hlt : i < l.length
  case neg =>
    have hlt' : ¬ (i : Int) < (l.length : Int) := by omega
    have e : i = l.length := by omega
    subst e
    rw [List.take_length] at hcur
    simp (maxSteps := 4000000) only [go_sem, ↓reduceIte, reduceCtorEq, Nat.reduceEqDiff, Nat.reduceBEq, Nat.reduceAdd, Nat.reduceSub, Nat.reduceMul, Nat.reduceLT, Nat.reduceLeDiff, Nat.reduceBNe, Int.reduceBEq, Int.reduceBNe, Int.reduceLT, Int.reduceLE, edA, t0, t7, hlt', List.length_map]
    refine hEnd _ ⟨p, cur, hcur, hp, ?_, ?_, ?_, ?_, ?_⟩
    · simp (maxSteps := 4000000) only [go_sem, ↓reduceIte, reduceCtorEq, Nat.reduceEqDiff, Nat.reduceBEq, Nat.reduceAdd, Nat.reduceSub, Nat.reduceMul, Nat.reduceLT, Nat.reduceLeDiff, Nat.reduceBNe, Int.reduceBEq, Int.reduceBNe, Int.reduceLT, Int.reduceLE, edA, t0]
    · simp (maxSteps := 4000000) only [go_sem, ↓reduceIte, reduceCtorEq, Nat.reduceEqDiff, Nat.reduceBEq, Nat.reduceAdd, Nat.reduceSub, Nat.reduceMul, Nat.reduceLT, Nat.reduceLeDiff, Nat.reduceBNe, Int.reduceBEq, Int.reduceBNe, Int.reduceLT, Int.reduceLE, edA, t1]
    · simp (maxSteps := 4000000) only [go_sem, ↓reduceIte, reduceCtorEq, Nat.reduceEqDiff, Nat.reduceBEq, Nat.reduceAdd, Nat.reduceSub, Nat.reduceMul, Nat.reduceLT, Nat.reduceLeDiff, Nat.reduceBNe, Int.reduceBEq, Int.reduceBNe, Int.reduceLT, Int.reduceLE, edA, t5]
    · simp (maxSteps := 4000000) only [go_sem, ↓reduceIte, reduceCtorEq, Nat.reduceEqDiff, Nat.reduceBEq, Nat.reduceAdd, Nat.reduceSub, Nat.reduceMul, Nat.reduceLT, Nat.reduceLeDiff, Nat.reduceBNe, Int.reduceBEq, Int.reduceBNe, Int.reduceLT, Int.reduceLE, edA, h5]
    · simp (maxSteps := 4000000) only [go_sem, ↓reduceIte, reduceCtorEq, Nat.reduceEqDiff, Nat.reduceBEq, Nat.reduceAdd, Nat.reduceSub, Nat.reduceMul, Nat.reduceLT, Nat.reduceLeDiff, Nat.reduceBNe, Int.reduceBEq, Int.reduceBNe, Int.reduceLT, Int.reduceLE, edA, t6]
  have hlt' : (i : Int) < (l.length : Int) := by omega
  obtain ⟨e, he⟩ := getW hlt
  have hge := atE he
  have hw := wrapW (j := i) (by omega)
  have hcl : cur.length ≤ l.length := by rw [hcur]; exact pass_len i hn ht
  have hcg : met.length ≤ cur.length := by rw [hcur]; exact pass_ge
  have c1 := rin_ok cur e.1 (by omega)
  have c2 := rin_ok cur e.2 (by omega)
  have tk : List.take cur.length (cur.map (AV.int .i64)) = cur.map (AV.int .i64) := List.take_of_length_le (by simp)
  have z0 : (0 : Int) ≤ (i : Int) := Int.natCast_nonneg _
  have hnext : stepE a cur e = passE a (l.take (i + 1)) met := by rw [takeW he, pass_snoc, ← hcur]
  have hnl : (stepE a cur e).length ≤ l.length := by rw [hnext]; exact pass_len _ hn ht
  unfold stepE at hnext hnl
  have hml : (cur ++ [e.2]).length = cur.length + 1 := List.length_append
  have hmm : (cur ++ [e.2]).map (AV.int .i64) = cur.map (AV.int .i64) ++ [.int .i64 e.2] := List.map_append
  have hag : decide (met.length < cur.length + 1) = true := by simp; omega
  have one : ∀ d : AV, d = .int .i64 e.2 ∨ False → d.cells.length = 1 ∧ d.cells.all AV.one = true := fun d hd => by
    rcases hd with rfl | hd
    · exact ⟨rfl, rfl⟩
    · cases hd
  cases q1 : e.1 == a <;> cases q2 : cur.contains e.1 <;> cases q3 : cur.contains e.2 <;> rw [q1, q2, q3] at hnext hnl <;> rw [q2] at c1 <;> rw [q3] at c2
  all_goals
    simp only [Bool.or_true, Bool.true_or, Bool.or_false, Bool.false_or, Bool.not_true, Bool.not_false, Bool.and_true, Bool.and_false, Bool.true_and, Bool.false_and, Bool.and_self, if_true, if_false, Bool.false_eq_true, Bool.or_self] at hnext hnl
    (repeat (first | simp (maxSteps := 4000000) only [go_sem, ↓reduceIte, reduceCtorEq, Nat.reduceEqDiff, Nat.reduceBEq, Nat.reduceAdd, Nat.reduceSub, Nat.reduceMul, Nat.reduceLT, Nat.reduceLeDiff, Nat.reduceBNe, Int.reduceBEq, Int.reduceBNe, Int.reduceLT, Int.reduceLE, edA, t0, t1, t5, h5, t6, t7, hlt', hge, hw, tk, hlt, z0, q1, Int.toNat_natCast, List.length_map, Nat.zero_add] | refine calling (c1) ?_ | refine callingH (c1) ?_ | refine calling (c2) ?_ | refine callingH (c2) ?_ | refine And.intro (by omega) ?_ | refine And.intro (fun d hd => by (repeat (rcases hd with rfl | hd; · exact ⟨rfl, rfl⟩)); cases hd) ?_))
  case' false.false.false | false.false.true | false.true.true | true.false.true | true.true.true =>
    refine ⟨l.length - (i + 1), by omega, i + 1, p, cur, by omega, rfl, hnext, hp, ?_, ?_, ?_, ?_, ?_, ?_⟩
    · simp (maxSteps := 4000000) only [go_sem, ↓reduceIte, reduceCtorEq, Nat.reduceEqDiff, Nat.reduceBEq, Nat.reduceAdd, Nat.reduceSub, Nat.reduceMul, Nat.reduceLT, Nat.reduceLeDiff, Nat.reduceBNe, Int.reduceBEq, Int.reduceBNe, Int.reduceLT, Int.reduceLE, edA, t0]
    · simp (maxSteps := 4000000) only [go_sem, ↓reduceIte, reduceCtorEq, Nat.reduceEqDiff, Nat.reduceBEq, Nat.reduceAdd, Nat.reduceSub, Nat.reduceMul, Nat.reduceLT, Nat.reduceLeDiff, Nat.reduceBNe, Int.reduceBEq, Int.reduceBNe, Int.reduceLT, Int.reduceLE, edA, t1]
    · simp (maxSteps := 4000000) only [go_sem, ↓reduceIte, reduceCtorEq, Nat.reduceEqDiff, Nat.reduceBEq, Nat.reduceAdd, Nat.reduceSub, Nat.reduceMul, Nat.reduceLT, Nat.reduceLeDiff, Nat.reduceBNe, Int.reduceBEq, Int.reduceBNe, Int.reduceLT, Int.reduceLE, edA, t5]
    · simp (maxSteps := 4000000) only [go_sem, ↓reduceIte, reduceCtorEq, Nat.reduceEqDiff, Nat.reduceBEq, Nat.reduceAdd, Nat.reduceSub, Nat.reduceMul, Nat.reduceLT, Nat.reduceLeDiff, Nat.reduceBNe, Int.reduceBEq, Int.reduceBNe, Int.reduceLT, Int.reduceLE, edA, h5]
    · simp (maxSteps := 4000000) only [go_sem, ↓reduceIte, reduceCtorEq, Nat.reduceEqDiff, Nat.reduceBEq, Nat.reduceAdd, Nat.reduceSub, Nat.reduceMul, Nat.reduceLT, Nat.reduceLeDiff, Nat.reduceBNe, Int.reduceBEq, Int.reduceBNe, Int.reduceLT, Int.reduceLE, edA, t6]
    · simp (maxSteps := 4000000) only [go_sem, ↓reduceIte, reduceCtorEq, Nat.reduceEqDiff, Nat.reduceBEq, Nat.reduceAdd, Nat.reduceSub, Nat.reduceMul, Nat.reduceLT, Nat.reduceLeDiff, Nat.reduceBNe, Int.reduceBEq, Int.reduceBNe, Int.reduceLT, Int.reduceLE, edA, hw]
  all_goals
    refine ⟨⟨hp, ⟨by omega, by omega⟩, one⟩, l.length - (i + 1), by omega, i + 1, p, cur ++ [e.2], by omega, rfl, hnext, by rw [hml]; omega, ?_, ?_, ?_, ?_, ?_, ?_⟩
    · simp (maxSteps := 4000000) only [go_sem, ↓reduceIte, reduceCtorEq, Nat.reduceEqDiff, Nat.reduceBEq, Nat.reduceAdd, Nat.reduceSub, Nat.reduceMul, Nat.reduceLT, Nat.reduceLeDiff, Nat.reduceBNe, Int.reduceBEq, Int.reduceBNe, Int.reduceLT, Int.reduceLE, edA, t0]
    · simp (maxSteps := 4000000) only [go_sem, ↓reduceIte, reduceCtorEq, Nat.reduceEqDiff, Nat.reduceBEq, Nat.reduceAdd, Nat.reduceSub, Nat.reduceMul, Nat.reduceLT, Nat.reduceLeDiff, Nat.reduceBNe, Int.reduceBEq, Int.reduceBNe, Int.reduceLT, Int.reduceLE, edA, t1]
    · simp (maxSteps := 4000000) only [go_sem, ↓reduceIte, reduceCtorEq, Nat.reduceEqDiff, Nat.reduceBEq, Nat.reduceAdd, Nat.reduceSub, Nat.reduceMul, Nat.reduceLT, Nat.reduceLeDiff, Nat.reduceBNe, Int.reduceBEq, Int.reduceBNe, Int.reduceLT, Int.reduceLE, edA, hml]
    · simp (maxSteps := 4000000) only [go_sem, ↓reduceIte, reduceCtorEq, Nat.reduceEqDiff, Nat.reduceBEq, Nat.reduceAdd, Nat.reduceSub, Nat.reduceMul, Nat.reduceLT, Nat.reduceLeDiff, Nat.reduceBNe, Int.reduceBEq, Int.reduceBNe, Int.reduceLT, Int.reduceLE, edA, h5, hmm, tk]
    · simp (maxSteps := 4000000) only [go_sem, ↓reduceIte, reduceCtorEq, Nat.reduceEqDiff, Nat.reduceBEq, Nat.reduceAdd, Nat.reduceSub, Nat.reduceMul, Nat.reduceLT, Nat.reduceLeDiff, Nat.reduceBNe, Int.reduceBEq, Int.reduceBNe, Int.reduceLT, Int.reduceLE, edA, hml, hag]
    · simp (maxSteps := 4000000) only [go_sem, ↓reduceIte, reduceCtorEq, Nat.reduceEqDiff, Nat.reduceBEq, Nat.reduceAdd, Nat.reduceSub, Nat.reduceMul, Nat.reduceLT, Nat.reduceLeDiff, Nat.reduceBNe, Int.reduceBEq, Int.reduceBNe, Int.reduceLT, Int.reduceLE, edA, hw]
def rrcInv (l : List Edge) (a : Int) (k : Nat) (σ : St) : Prop :=
  ∃ (met : List Int) (p : Nat) (ag : Bool), met.Nodup ∧ (∀ b, b ∈ met → b ∈ l.map (·.2)) ∧ (∀ b, b ∈ met → TC l a b) ∧ (ag = false → passE a l met = met) ∧ k = 2 * (l.length - met.length) + (if ag then 1 else 0) ∧ p ≤ met.length ∧
    σ.T 0 = .sl (l.map edA) ∧ σ.T 1 = .int .i64 a ∧ σ.T 5 = .rs 5 0 met.length ∧ σ.H 5 = some ⟨1, 3, met.map (AV.int .i64), p⟩ ∧ σ.T 6 = .bool ag
set_option maxHeartbeats 8000000 in
theorem rrc_ok (l : List Edge) (a : Int) (hl : l.length ≤ 1000000) : AFn Try.prog 8 [.sl (l.map edA), .int .i64 a] (.sl ((reachL l a).map (AV.int .i64))) := by
  refine fn_rrc rfl ?_
  simp (maxSteps := 4000000) only [go_sem, ↓reduceIte, reduceCtorEq, Nat.reduceEqDiff, Nat.reduceBEq, Nat.reduceAdd, Nat.reduceSub, Nat.reduceMul, Nat.reduceLT, Nat.reduceLeDiff, Nat.reduceBNe, Int.reduceBEq, Int.reduceBNe, Int.reduceLT, Int.reduceLE, edA]
  refine run_loop (rrcInv l a) (k := 2 * l.length + 1) ⟨[], 0, true, List.nodup_nil, fun b h => by simp at h, fun b h => by simp at h, fun h => by simp at h, rfl, Nat.le_refl _, ?_, ?_, ?_, ?_, ?_⟩ ?_
  · (simp (maxSteps := 4000000) only [go_sem, ↓reduceIte, reduceCtorEq, Nat.reduceEqDiff, Nat.reduceBEq, Nat.reduceAdd, Nat.reduceSub, Nat.reduceMul, Nat.reduceLT, Nat.reduceLeDiff, Nat.reduceBNe, Int.reduceBEq, Int.reduceBNe, Int.reduceLT, Int.reduceLE, edA]) <;> rfl
  · (simp (maxSteps := 4000000) only [go_sem, ↓reduceIte, reduceCtorEq, Nat.reduceEqDiff, Nat.reduceBEq, Nat.reduceAdd, Nat.reduceSub, Nat.reduceMul, Nat.reduceLT, Nat.reduceLeDiff, Nat.reduceBNe, Int.reduceBEq, Int.reduceBNe, Int.reduceLT, Int.reduceLE, edA]) <;> rfl
  · (simp (maxSteps := 4000000) only [go_sem, ↓reduceIte, reduceCtorEq, Nat.reduceEqDiff, Nat.reduceBEq, Nat.reduceAdd, Nat.reduceSub, Nat.reduceMul, Nat.reduceLT, Nat.reduceLeDiff, Nat.reduceBNe, Int.reduceBEq, Int.reduceBNe, Int.reduceLT, Int.reduceLE, edA]) <;> rfl
  · (simp (maxSteps := 4000000) only [go_sem, ↓reduceIte, reduceCtorEq, Nat.reduceEqDiff, Nat.reduceBEq, Nat.reduceAdd, Nat.reduceSub, Nat.reduceMul, Nat.reduceLT, Nat.reduceLeDiff, Nat.reduceBNe, Int.reduceBEq, Int.reduceBNe, Int.reduceLT, Int.reduceLE, edA]) <;> rfl
  · (simp (maxSteps := 4000000) only [go_sem, ↓reduceIte, reduceCtorEq, Nat.reduceEqDiff, Nat.reduceBEq, Nat.reduceAdd, Nat.reduceSub, Nat.reduceMul, Nat.reduceLT, Nat.reduceLeDiff, Nat.reduceBNe, Int.reduceBEq, Int.reduceBNe, Int.reduceLT, Int.reduceLE, edA]) <;> rfl
  rintro k σ ⟨met, p, ag, hn, ht, htc, hfix, rfl, hp, t0, t1, t5, h5, t6⟩
  simp only [r_rrc_l12]
  have hml : met.length ≤ l.length := by
    have := sub_len hn ht
    rwa [List.length_map] at this
  have tk : List.take met.length (met.map (AV.int .i64)) = met.map (AV.int .i64) := List.take_of_length_le (by simp)
  cases ag with
  | false =>
    have hf := hfix rfl
    have hsrt : srtI met = reachL l a := reach_unique (rise_srtI _) fun b => by
      rw [mem_srtI]
      exact ⟨htc b, closed_all (pass_fix hf) b⟩
    have c := rso_ok met (by omega)
    rw [hsrt] at c
    (repeat (first | simp (maxSteps := 4000000) only [go_sem, ↓reduceIte, reduceCtorEq, Nat.reduceEqDiff, Nat.reduceBEq, Nat.reduceAdd, Nat.reduceSub, Nat.reduceMul, Nat.reduceLT, Nat.reduceLeDiff, Nat.reduceBNe, Int.reduceBEq, Int.reduceBNe, Int.reduceLT, Int.reduceLE, edA, t0, t1, t5, h5, t6, tk, List.length_map] | refine calling (c) ?_ | refine callingH (c) ?_ | refine And.intro (by omega) ?_ | refine And.intro (fun d hd => by (repeat (rcases hd with rfl | hd; · exact ⟨rfl, rfl⟩)); cases hd) ?_))
  | true =>
    simp (maxSteps := 4000000) only [go_sem, ↓reduceIte, reduceCtorEq, Nat.reduceEqDiff, Nat.reduceBEq, Nat.reduceAdd, Nat.reduceSub, Nat.reduceMul, Nat.reduceLT, Nat.reduceLeDiff, Nat.reduceBNe, Int.reduceBEq, Int.reduceBNe, Int.reduceLT, Int.reduceLE, edA, t0, t1, t5, h5, t6]
    refine run_loop (rrcI l a met) (k := l.length) ⟨0, p, met, Nat.zero_le _, rfl, rfl, hp, ?_, ?_, ?_, ?_, ?_, ?_⟩ ?_
    · simp (maxSteps := 4000000) only [go_sem, ↓reduceIte, reduceCtorEq, Nat.reduceEqDiff, Nat.reduceBEq, Nat.reduceAdd, Nat.reduceSub, Nat.reduceMul, Nat.reduceLT, Nat.reduceLeDiff, Nat.reduceBNe, Int.reduceBEq, Int.reduceBNe, Int.reduceLT, Int.reduceLE, edA, t0]
    · simp (maxSteps := 4000000) only [go_sem, ↓reduceIte, reduceCtorEq, Nat.reduceEqDiff, Nat.reduceBEq, Nat.reduceAdd, Nat.reduceSub, Nat.reduceMul, Nat.reduceLT, Nat.reduceLeDiff, Nat.reduceBNe, Int.reduceBEq, Int.reduceBNe, Int.reduceLT, Int.reduceLE, edA, t1]
    · simp (maxSteps := 4000000) only [go_sem, ↓reduceIte, reduceCtorEq, Nat.reduceEqDiff, Nat.reduceBEq, Nat.reduceAdd, Nat.reduceSub, Nat.reduceMul, Nat.reduceLT, Nat.reduceLeDiff, Nat.reduceBNe, Int.reduceBEq, Int.reduceBNe, Int.reduceLT, Int.reduceLE, edA, t5]
    · simp (maxSteps := 4000000) only [go_sem, ↓reduceIte, reduceCtorEq, Nat.reduceEqDiff, Nat.reduceBEq, Nat.reduceAdd, Nat.reduceSub, Nat.reduceMul, Nat.reduceLT, Nat.reduceLeDiff, Nat.reduceBNe, Int.reduceBEq, Int.reduceBNe, Int.reduceLT, Int.reduceLE, edA, h5]
    · (simp (maxSteps := 4000000) only [go_sem, ↓reduceIte, reduceCtorEq, Nat.reduceEqDiff, Nat.reduceBEq, Nat.reduceAdd, Nat.reduceSub, Nat.reduceMul, Nat.reduceLT, Nat.reduceLeDiff, Nat.reduceBNe, Int.reduceBEq, Int.reduceBNe, Int.reduceLT, Int.reduceLE, edA, Nat.lt_irrefl]) <;> simp
    · (simp (maxSteps := 4000000) only [go_sem, ↓reduceIte, reduceCtorEq, Nat.reduceEqDiff, Nat.reduceBEq, Nat.reduceAdd, Nat.reduceSub, Nat.reduceMul, Nat.reduceLT, Nat.reduceLeDiff, Nat.reduceBNe, Int.reduceBEq, Int.reduceBNe, Int.reduceLT, Int.reduceLE, edA]) <;> rfl
    intro k σ hI
    refine pass_loop l a met hl hn ht _ ?_ k σ hI
    rintro σ ⟨p', cur, hcur, hp', t0, t1, t5, h5, t6⟩
    have hcn : cur.Nodup := by rw [hcur]; exact pass_nodup hn
    have hct : ∀ b, b ∈ cur → b ∈ l.map (·.2) := by rw [hcur]; exact pass_target (fun _ h => h) ht
    have hcc : ∀ b, b ∈ cur → TC l a b := by rw [hcur]; exact pass_tc (fun _ h => h) htc
    have hcl : cur.length ≤ l.length := by
      have := sub_len hcn hct
      rwa [List.length_map] at this
    have hcf : decide (met.length < cur.length) = false → passE a l cur = cur := fun h => by
      have h : ¬ met.length < cur.length := by simpa using h
      obtain ⟨t, e⟩ := pass_grows a l met
      rw [← hcur] at e
      have e2 := congrArg List.length e
      rw [List.length_append] at e2
      have e3 : t = [] := List.length_eq_zero_iff.1 (by omega)
      rw [e3, List.append_nil] at e
      rw [e, ← hcur, e]
    simp (maxSteps := 4000000) only [go_sem, ↓reduceIte, reduceCtorEq, Nat.reduceEqDiff, Nat.reduceBEq, Nat.reduceAdd, Nat.reduceSub, Nat.reduceMul, Nat.reduceLT, Nat.reduceLeDiff, Nat.reduceBNe, Int.reduceBEq, Int.reduceBNe, Int.reduceLT, Int.reduceLE, edA, t0, t1, t5, h5, t6]
    (repeat refine And.intro (by omega) ?_)
    refine ⟨2 * (l.length - cur.length) + (if decide (met.length < cur.length) then 1 else 0), ?_, cur, p', decide (met.length < cur.length), hcn, hct, hcc, hcf, rfl, hp', ?_, ?_, ?_, ?_, ?_⟩
    · have hcg : met.length ≤ cur.length := by rw [hcur]; exact pass_ge
      by_cases h : met.length < cur.length
      · simp only [h, decide_true, if_true]; omega
      · simp only [h, decide_false, Bool.false_eq_true, if_false]; omega
    · simp (maxSteps := 4000000) only [go_sem, ↓reduceIte, reduceCtorEq, Nat.reduceEqDiff, Nat.reduceBEq, Nat.reduceAdd, Nat.reduceSub, Nat.reduceMul, Nat.reduceLT, Nat.reduceLeDiff, Nat.reduceBNe, Int.reduceBEq, Int.reduceBNe, Int.reduceLT, Int.reduceLE, edA, t0]
    · simp (maxSteps := 4000000) only [go_sem, ↓reduceIte, reduceCtorEq, Nat.reduceEqDiff, Nat.reduceBEq, Nat.reduceAdd, Nat.reduceSub, Nat.reduceMul, Nat.reduceLT, Nat.reduceLeDiff, Nat.reduceBNe, Int.reduceBEq, Int.reduceBNe, Int.reduceLT, Int.reduceLE, edA, t1]
    · simp (maxSteps := 4000000) only [go_sem, ↓reduceIte, reduceCtorEq, Nat.reduceEqDiff, Nat.reduceBEq, Nat.reduceAdd, Nat.reduceSub, Nat.reduceMul, Nat.reduceLT, Nat.reduceLeDiff, Nat.reduceBNe, Int.reduceBEq, Int.reduceBNe, Int.reduceLT, Int.reduceLE, edA, t5]
    · simp (maxSteps := 4000000) only [go_sem, ↓reduceIte, reduceCtorEq, Nat.reduceEqDiff, Nat.reduceBEq, Nat.reduceAdd, Nat.reduceSub, Nat.reduceMul, Nat.reduceLT, Nat.reduceLeDiff, Nat.reduceBNe, Int.reduceBEq, Int.reduceBNe, Int.reduceLT, Int.reduceLE, edA, h5]
    · simp (maxSteps := 4000000) only [go_sem, ↓reduceIte, reduceCtorEq, Nat.reduceEqDiff, Nat.reduceBEq, Nat.reduceAdd, Nat.reduceSub, Nat.reduceMul, Nat.reduceLT, Nat.reduceLeDiff, Nat.reduceBNe, Int.reduceBEq, Int.reduceBNe, Int.reduceLT, Int.reduceLE, edA, t6]
/-- who is found so far -/
structure Stk (l : List Edge) (i : Nat) (out : List Int) : Prop where
  nodup : out.Nodup
  sub : ∀ x, x ∈ out → x ∈ (l.take i).map (·.1) ∧ TC l x x
  all : ∀ x, x ∈ (l.take i).map (·.1) → TC l x x → x ∈ out
theorem Stk.len {l : List Edge} {i : Nat} {out : List Int} (h : Stk l i out) : out.length ≤ i := by
  have := sub_len h.nodup fun x hx => (h.sub x hx).1
  rw [List.length_map, List.length_take] at this
  omega
theorem mem_takeW {l : List Edge} {i : Nat} {e : Edge} (he : l[i]? = some e) {x : Int} : x ∈ (l.take (i + 1)).map (·.1) ↔ x ∈ (l.take i).map (·.1) ∨ x = e.1 := by
  rw [takeW he, List.map_append, List.mem_append]; simp
theorem Stk.skip {l : List Edge} {i : Nat} {out : List Int} (h : Stk l i out) {e : Edge} (he : l[i]? = some e) (hs : e.1 ∈ out ∨ ¬ TC l e.1 e.1) : Stk l (i + 1) out := by
  refine ⟨h.nodup, fun x hx => ⟨(mem_takeW he).2 (.inl (h.sub x hx).1), (h.sub x hx).2⟩, fun x hx htc => ?_⟩
  rcases (mem_takeW he).1 hx with h1 | h1
  · exact h.all x h1 htc
  · subst h1
    rcases hs with hs | hs
    · exact hs
    · exact absurd htc hs
theorem Stk.add {l : List Edge} {i : Nat} {out : List Int} (h : Stk l i out) {e : Edge} (he : l[i]? = some e) (hn : e.1 ∉ out) (hs : TC l e.1 e.1) : Stk l (i + 1) (out ++ [e.1]) := by
  refine ⟨List.nodup_append.2 ⟨h.nodup, by simp, fun x hx y hy e' => ?_⟩, fun x hx => ?_, fun x hx htc => ?_⟩
  · have : y = e.1 := by simpa using hy
    subst this; subst e'; exact hn hx
  · rcases List.mem_append.1 hx with hx | hx
    · exact ⟨(mem_takeW he).2 (.inl (h.sub x hx).1), (h.sub x hx).2⟩
    · have : x = e.1 := by simpa using hx
      subst this; exact ⟨(mem_takeW he).2 (.inr rfl), hs⟩
  · rcases (mem_takeW he).1 hx with h1 | h1
    · exact List.mem_append_left _ (h.all x h1 htc)
    · rw [h1]; simp
def rstInv (l : List Edge) (k : Nat) (σ : St) : Prop :=
  ∃ (i p : Nat) (out : List Int), i ≤ l.length ∧ k = l.length - i ∧ Stk l i out ∧ p ≤ out.length ∧ σ.T 0 = .sl (l.map edA) ∧ σ.T 3 = .rs 3 0 out.length ∧ σ.H 3 = some ⟨1, 3, out.map (AV.int .i64), p⟩ ∧ σ.T 4 = .int .i64 i
theorem reachL_len {l : List Edge} {a : Int} : (reachL l a).length ≤ l.length := by
  have := sub_len ((rise_srtI (iterE l a l.length [])).imp fun h => by omega) (b := l.map (·.2)) fun b hb => mem_seen_out (mem_reachL.1 hb)
  rwa [List.length_map] at this
set_option maxHeartbeats 8000000 in
theorem rst_ok (l : List Edge) (hl : l.length ≤ 1000000) : AFn Try.prog 10 [.sl (l.map edA)] (.sl ((stuckL l).map (AV.int .i64))) := by
  refine fn_rst rfl ?_
  simp (maxSteps := 4000000) only [go_sem, ↓reduceIte, reduceCtorEq, Nat.reduceEqDiff, Nat.reduceBEq, Nat.reduceAdd, Nat.reduceSub, Nat.reduceMul, Nat.reduceLT, Nat.reduceLeDiff, Nat.reduceBNe, Int.reduceBEq, Int.reduceBNe, Int.reduceLT, Int.reduceLE, edA]
  refine run_loop (rstInv l) (k := l.length) ⟨0, 0, [], Nat.zero_le _, rfl, ⟨List.nodup_nil, fun x h => by simp at h, fun x h => by simp at h⟩, Nat.le_refl _, ?_, ?_, ?_, ?_⟩ ?_
  · (simp (maxSteps := 4000000) only [go_sem, ↓reduceIte, reduceCtorEq, Nat.reduceEqDiff, Nat.reduceBEq, Nat.reduceAdd, Nat.reduceSub, Nat.reduceMul, Nat.reduceLT, Nat.reduceLeDiff, Nat.reduceBNe, Int.reduceBEq, Int.reduceBNe, Int.reduceLT, Int.reduceLE, edA]) <;> rfl
  · (simp (maxSteps := 4000000) only [go_sem, ↓reduceIte, reduceCtorEq, Nat.reduceEqDiff, Nat.reduceBEq, Nat.reduceAdd, Nat.reduceSub, Nat.reduceMul, Nat.reduceLT, Nat.reduceLeDiff, Nat.reduceBNe, Int.reduceBEq, Int.reduceBNe, Int.reduceLT, Int.reduceLE, edA]) <;> rfl
  · (simp (maxSteps := 4000000) only [go_sem, ↓reduceIte, reduceCtorEq, Nat.reduceEqDiff, Nat.reduceBEq, Nat.reduceAdd, Nat.reduceSub, Nat.reduceMul, Nat.reduceLT, Nat.reduceLeDiff, Nat.reduceBNe, Int.reduceBEq, Int.reduceBNe, Int.reduceLT, Int.reduceLE, edA]) <;> rfl
  · (simp (maxSteps := 4000000) only [go_sem, ↓reduceIte, reduceCtorEq, Nat.reduceEqDiff, Nat.reduceBEq, Nat.reduceAdd, Nat.reduceSub, Nat.reduceMul, Nat.reduceLT, Nat.reduceLeDiff, Nat.reduceBNe, Int.reduceBEq, Int.reduceBNe, Int.reduceLT, Int.reduceLE, edA]) <;> rfl
  rintro k σ ⟨i, p, out, hi, rfl, hS, hp, t0, t3, h3, t4⟩
  simp only [r_rst_l7]
  have hol := hS.len
  have tk : List.take out.length (out.map (AV.int .i64)) = out.map (AV.int .i64) := List.take_of_length_le (by simp)
  by_cases hlt : i < l.length
  case neg =>
    have hlt' : ¬ (i : Int) < (l.length : Int) := by omega
    have e : i = l.length := by omega
    subst e
    have hsrt : srtI out = stuckL l := stuck_unique (rise_srtI _) fun n => by
      rw [mem_srtI]
      have h1 := hS.sub n
      have h2 := hS.all n
      rw [List.take_length] at h1 h2
      exact ⟨h1, fun h => h2 h.1 h.2⟩
    have c := rso_ok out (by omega)
    rw [hsrt] at c
    (repeat (first | simp (maxSteps := 4000000) only [go_sem, ↓reduceIte, reduceCtorEq, Nat.reduceEqDiff, Nat.reduceBEq, Nat.reduceAdd, Nat.reduceSub, Nat.reduceMul, Nat.reduceLT, Nat.reduceLeDiff, Nat.reduceBNe, Int.reduceBEq, Int.reduceBNe, Int.reduceLT, Int.reduceLE, edA, t0, t3, h3, t4, tk, hlt', List.length_map] | refine calling (c) ?_ | refine callingH (c) ?_ | refine And.intro (by omega) ?_ | refine And.intro (fun d hd => by (repeat (rcases hd with rfl | hd; · exact ⟨rfl, rfl⟩)); cases hd) ?_))
  have hlt' : (i : Int) < (l.length : Int) := by omega
  obtain ⟨e, he⟩ := getW hlt
  have hge := atE he
  have hw := wrapW (j := i) (by omega)
  have c1 := rin_ok out e.1 (by omega)
  have c2 := rrc_ok l e.1 hl
  have c3 := rin_ok (reachL l e.1) e.1 (by have := reachL_len (l := l) (a := e.1); omega)
  have z0 : (0 : Int) ≤ (i : Int) := Int.natCast_nonneg _
  have hml : (out ++ [e.1]).length = out.length + 1 := List.length_append
  have hmm : (out ++ [e.1]).map (AV.int .i64) = out.map (AV.int .i64) ++ [.int .i64 e.1] := List.map_append
  have one : ∀ d : AV, d = .int .i64 e.1 ∨ False → d.cells.length = 1 ∧ d.cells.all AV.one = true := fun d hd => by
    rcases hd with rfl | hd
    · exact ⟨rfl, rfl⟩
    · cases hd
  cases q1 : out.contains e.1 with
  | true =>
    have hm : e.1 ∈ out := by simpa using q1
    rw [q1] at c1
    (repeat (first | simp (maxSteps := 4000000) only [go_sem, ↓reduceIte, reduceCtorEq, Nat.reduceEqDiff, Nat.reduceBEq, Nat.reduceAdd, Nat.reduceSub, Nat.reduceMul, Nat.reduceLT, Nat.reduceLeDiff, Nat.reduceBNe, Int.reduceBEq, Int.reduceBNe, Int.reduceLT, Int.reduceLE, edA, t0, t3, h3, t4, hlt', hge, hw, tk, hlt, z0, Int.toNat_natCast, List.length_map, Nat.zero_add] | refine calling (c1) ?_ | refine callingH (c1) ?_ | refine And.intro (by omega) ?_ | refine And.intro (fun d hd => by (repeat (rcases hd with rfl | hd; · exact ⟨rfl, rfl⟩)); cases hd) ?_))
    (repeat refine And.intro (by omega) ?_)
    refine ⟨l.length - (i + 1), by omega, i + 1, p, out, by omega, rfl, hS.skip he (.inl hm), hp, ?_, ?_, ?_, ?_⟩
    · simp (maxSteps := 4000000) only [go_sem, ↓reduceIte, reduceCtorEq, Nat.reduceEqDiff, Nat.reduceBEq, Nat.reduceAdd, Nat.reduceSub, Nat.reduceMul, Nat.reduceLT, Nat.reduceLeDiff, Nat.reduceBNe, Int.reduceBEq, Int.reduceBNe, Int.reduceLT, Int.reduceLE, edA, t0]
    · simp (maxSteps := 4000000) only [go_sem, ↓reduceIte, reduceCtorEq, Nat.reduceEqDiff, Nat.reduceBEq, Nat.reduceAdd, Nat.reduceSub, Nat.reduceMul, Nat.reduceLT, Nat.reduceLeDiff, Nat.reduceBNe, Int.reduceBEq, Int.reduceBNe, Int.reduceLT, Int.reduceLE, edA, t3]
    · simp (maxSteps := 4000000) only [go_sem, ↓reduceIte, reduceCtorEq, Nat.reduceEqDiff, Nat.reduceBEq, Nat.reduceAdd, Nat.reduceSub, Nat.reduceMul, Nat.reduceLT, Nat.reduceLeDiff, Nat.reduceBNe, Int.reduceBEq, Int.reduceBNe, Int.reduceLT, Int.reduceLE, edA, h3]
    · simp (maxSteps := 4000000) only [go_sem, ↓reduceIte, reduceCtorEq, Nat.reduceEqDiff, Nat.reduceBEq, Nat.reduceAdd, Nat.reduceSub, Nat.reduceMul, Nat.reduceLT, Nat.reduceLeDiff, Nat.reduceBNe, Int.reduceBEq, Int.reduceBNe, Int.reduceLT, Int.reduceLE, edA, hw]
  | false =>
    have hm : e.1 ∉ out := by simpa using q1
    rw [q1] at c1
    cases q2 : (reachL l e.1).contains e.1 with
    | false =>
      have hnt : ¬ TC l e.1 e.1 := fun h => by
        have : e.1 ∈ reachL l e.1 := mem_reachL.2 h
        simp [this] at q2
      rw [q2] at c3
      (repeat (first | simp (maxSteps := 4000000) only [go_sem, ↓reduceIte, reduceCtorEq, Nat.reduceEqDiff, Nat.reduceBEq, Nat.reduceAdd, Nat.reduceSub, Nat.reduceMul, Nat.reduceLT, Nat.reduceLeDiff, Nat.reduceBNe, Int.reduceBEq, Int.reduceBNe, Int.reduceLT, Int.reduceLE, edA, t0, t3, h3, t4, hlt', hge, hw, tk, hlt, z0, Int.toNat_natCast, List.length_map, Nat.zero_add] | refine calling (c1) ?_ | refine callingH (c1) ?_ | refine calling (c2) ?_ | refine callingH (c2) ?_ | refine calling (c3) ?_ | refine callingH (c3) ?_ | refine And.intro (by omega) ?_ | refine And.intro (fun d hd => by (repeat (rcases hd with rfl | hd; · exact ⟨rfl, rfl⟩)); cases hd) ?_))
      (repeat refine And.intro (by omega) ?_)
      refine ⟨l.length - (i + 1), by omega, i + 1, p, out, by omega, rfl, hS.skip he (.inr hnt), hp, ?_, ?_, ?_, ?_⟩
      · simp (maxSteps := 4000000) only [go_sem, ↓reduceIte, reduceCtorEq, Nat.reduceEqDiff, Nat.reduceBEq, Nat.reduceAdd, Nat.reduceSub, Nat.reduceMul, Nat.reduceLT, Nat.reduceLeDiff, Nat.reduceBNe, Int.reduceBEq, Int.reduceBNe, Int.reduceLT, Int.reduceLE, edA, t0]
      · simp (maxSteps := 4000000) only [go_sem, ↓reduceIte, reduceCtorEq, Nat.reduceEqDiff, Nat.reduceBEq, Nat.reduceAdd, Nat.reduceSub, Nat.reduceMul, Nat.reduceLT, Nat.reduceLeDiff, Nat.reduceBNe, Int.reduceBEq, Int.reduceBNe, Int.reduceLT, Int.reduceLE, edA, t3]
      · simp (maxSteps := 4000000) only [go_sem, ↓reduceIte, reduceCtorEq, Nat.reduceEqDiff, Nat.reduceBEq, Nat.reduceAdd, Nat.reduceSub, Nat.reduceMul, Nat.reduceLT, Nat.reduceLeDiff, Nat.reduceBNe, Int.reduceBEq, Int.reduceBNe, Int.reduceLT, Int.reduceLE, edA, h3]
      · simp (maxSteps := 4000000) only [go_sem, ↓reduceIte, reduceCtorEq, Nat.reduceEqDiff, Nat.reduceBEq, Nat.reduceAdd, Nat.reduceSub, Nat.reduceMul, Nat.reduceLT, Nat.reduceLeDiff, Nat.reduceBNe, Int.reduceBEq, Int.reduceBNe, Int.reduceLT, Int.reduceLE, edA, hw]
    | true =>
      have ht : TC l e.1 e.1 := mem_reachL.1 (by simpa using q2)
      rw [q2] at c3
      (repeat (first | simp (maxSteps := 4000000) only [go_sem, ↓reduceIte, reduceCtorEq, Nat.reduceEqDiff, Nat.reduceBEq, Nat.reduceAdd, Nat.reduceSub, Nat.reduceMul, Nat.reduceLT, Nat.reduceLeDiff, Nat.reduceBNe, Int.reduceBEq, Int.reduceBNe, Int.reduceLT, Int.reduceLE, edA, t0, t3, h3, t4, hlt', hge, hw, tk, hlt, z0, Int.toNat_natCast, List.length_map, Nat.zero_add] | refine calling (c1) ?_ | refine callingH (c1) ?_ | refine calling (c2) ?_ | refine callingH (c2) ?_ | refine calling (c3) ?_ | refine callingH (c3) ?_ | refine And.intro (by omega) ?_ | refine And.intro (fun d hd => by (repeat (rcases hd with rfl | hd; · exact ⟨rfl, rfl⟩)); cases hd) ?_))
      refine ⟨⟨hp, ⟨by omega, by omega⟩, one⟩, l.length - (i + 1), by omega, i + 1, p, out ++ [e.1], by omega, rfl, hS.add he hm ht, by rw [hml]; omega, ?_, ?_, ?_, ?_⟩
      · simp (maxSteps := 4000000) only [go_sem, ↓reduceIte, reduceCtorEq, Nat.reduceEqDiff, Nat.reduceBEq, Nat.reduceAdd, Nat.reduceSub, Nat.reduceMul, Nat.reduceLT, Nat.reduceLeDiff, Nat.reduceBNe, Int.reduceBEq, Int.reduceBNe, Int.reduceLT, Int.reduceLE, edA, t0]
      · simp (maxSteps := 4000000) only [go_sem, ↓reduceIte, reduceCtorEq, Nat.reduceEqDiff, Nat.reduceBEq, Nat.reduceAdd, Nat.reduceSub, Nat.reduceMul, Nat.reduceLT, Nat.reduceLeDiff, Nat.reduceBNe, Int.reduceBEq, Int.reduceBNe, Int.reduceLT, Int.reduceLE, edA, hml]
      · simp (maxSteps := 4000000) only [go_sem, ↓reduceIte, reduceCtorEq, Nat.reduceEqDiff, Nat.reduceBEq, Nat.reduceAdd, Nat.reduceSub, Nat.reduceMul, Nat.reduceLT, Nat.reduceLeDiff, Nat.reduceBNe, Int.reduceBEq, Int.reduceBNe, Int.reduceLT, Int.reduceLE, edA, h3, hmm, tk]
      · simp (maxSteps := 4000000) only [go_sem, ↓reduceIte, reduceCtorEq, Nat.reduceEqDiff, Nat.reduceBEq, Nat.reduceAdd, Nat.reduceSub, Nat.reduceMul, Nat.reduceLT, Nat.reduceLeDiff, Nat.reduceBNe, Int.reduceBEq, Int.reduceBNe, Int.reduceLT, Int.reduceLE, edA, hw]
end
end Go.Proofs.Ytdmhhdfjajjflaa
