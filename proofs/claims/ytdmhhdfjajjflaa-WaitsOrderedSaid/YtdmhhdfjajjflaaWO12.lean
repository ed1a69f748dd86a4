/-
  'Rows.WaitsOrderedSaid' is proved: the law percolatelaw13.WaitsOrdered returns true at every input, and its arguments read as they did. No condition.
-/
import Derived.SizedLaws
import Derived.Test.YtdmhhdfjajjflaaWO11
namespace Go.Proofs.Ytdmhhdfjajjflaa
attribute [local go_sem] ev0 ev1 ev2 ev3 ev4 evA stHOk.eq_1 stHOk.eq_2 stHSt.eq_1 stHSt.eq_2 okV valV fzV okF valF okBld valBld mxOk.eq_1 mxOk.eq_2 mxVal.eq_1 mxVal.eq_2 cellFit.eq_1 cellFit.eq_2 cellFit.eq_3 cellEq.eq_1 cellEq.eq_2 cellEq.eq_3 upd_at AV.flatB AV.flatBs binIok binIV binSok binSV cellsOk.eq_1 cellsOk.eq_2 cellsVal.eq_1 cellsVal.eq_2 objCells.eq_1 objCells.eq_2 objZ.eq_1 objZ.eq_2 objProt.eq_1 objProt.eq_2 oneObj ptrOk.eq_1 ptrOk.eq_2 ptrOk.eq_3 ptrCells.eq_1 ptrCells.eq_2 ptrCells.eq_3 lenOk.eq_1 lenOk.eq_2 lenOk.eq_3 lenOk.eq_4 lenVal.eq_1 lenVal.eq_2 lenVal.eq_3 lenVal.eq_4 faOk.eq_1 faOk.eq_2 faOk.eq_3 faVal.eq_1 faVal.eq_2 faVal.eq_3 iaOk.eq_1 iaOk.eq_2 iaOk.eq_3 iaVal.eq_1 iaVal.eq_2 iaVal.eq_3 slcLen.eq_1 slcLen.eq_2 slcLen.eq_3 slcLen.eq_4 bdOk.eq_1 bdOk.eq_2 bdVal.eq_1 bdVal.eq_2 slcOk.eq_1 slcOk.eq_2 slcOk.eq_3 slcOk.eq_4 slcOk.eq_5 slcKV.eq_1 slcKV.eq_2 slcKV.eq_3 slcVal.eq_1 slcVal.eq_2 slcVal.eq_3 slcVal.eq_4 slcFz.eq_1 slcFz.eq_2 loK.eq_1 loK.eq_2 loK.eq_3 rsVal.eq_1 rsVal.eq_2 rsVal.eq_3 byOk.eq_1 byOk.eq_2 byOk.eq_3 byOk.eq_4 byOk.eq_5 byOk.eq_6 byOk.eq_7 byOk.eq_8 byVal.eq_1 byVal.eq_2 byVal.eq_3 byFz.eq_1 byFz.eq_2 byFz.eq_3 byOks byVals byFzs allOne resSt.eq_1 resSt.eq_2 resName.eq_1 resName.eq_2 stOk.eq_1 stOk.eq_2 stArr.eq_1 stArr.eq_2 stSt.eq_1 stSt.eq_2 AV.patch nameOk_none gB.eq_1 gB.eq_2 gB.eq_3 gIs.eq_1 gIs.eq_2 gIs.eq_3 retV resV resVs evalV cellsV St.byval List.getD_cons_zero List.getD_cons_succ List.getD_nil List.map_cons List.map_nil List.length_cons List.length_nil List.take_succ_cons List.take_zero List.drop_succ_cons List.drop_zero List.headD_cons List.set_cons_zero List.append_nil List.nil_append List.cons_append List.contains_cons List.contains_nil List.elem_cons List.elem_nil List.all_cons List.all_nil List.getElem?_cons_zero List.getElem?_cons_succ List.filterMap_cons List.filterMap_nil Option.isSome_some Option.isSome_none Option.map_some Option.map_none Option.some.injEq AV.int.injEq AV.bool.injEq AV.str.injEq AV.tup.injEq AV.agg.injEq AV.sl.injEq List.cons.injEq Bool.false_eq_true Bool.true_eq_false Bool.not_true Bool.not_false Bool.and_true Bool.true_and Bool.or_false Bool.or_true Bool.false_or Bool.true_or Bool.or_self Bool.and_self Bool.not_eq_true' Bool.not_eq_false' Bool.not_not beq_self_eq_true true_and and_true false_and and_false and_self not_true_eq_false not_false_eq_true forall_const true_implies false_implies implies_true imp_self Nat.lt_add_one Nat.le_refl Nat.zero_le Nat.add_zero Nat.zero_add decide_true decide_false decide_eq_true_eq decide_eq_false_iff_not exists_eq_left exists_eq_left' ge_iff_le gt_iff_lt ite_branch ite_branch' nilOk.eq_1 nilOk.eq_2 nilMay.eq_1 nilMay.eq_2 AV.isSl.eq_1 objTy'.eq_1 objTy'.eq_2 apSt.eq_1 apArr.eq_1 apArr.eq_2 apTwo.eq_1 apTwo.eq_2 apSt2.eq_1 apArr2.eq_1 apArr2.eq_2 slOf.eq_1 fitsV List.mem_cons List.not_mem_nil Bool.false_and Bool.and_false primOk.eq_1 primOk.eq_2 primOk.eq_3 primOk.eq_4 primOk.eq_5 primVal.eq_1 primVal.eq_2 primVal.eq_3 primVal.eq_4 primVal.eq_5 mOk.eq_1 mOk.eq_2 mVal.eq_1 mVal.eq_2 mFz.eq_1 mFz.eq_2 mOks mVals mFzs mCalOk.eq_1 mCalOk.eq_2 mFn.eq_1 mFn.eq_2 mArgs.eq_1 mArgs.eq_2 ckOk.eq_1 ckOk.eq_2 cloOk.eq_1 ptrAt.eq_1 sh.eq_1 sh.eq_2 sh.eq_3 sh.eq_4 sh.eq_5 sh.eq_6 retM shH_small evM entOk.eq_1 entOk.eq_2 ents.eq_1 ents.eq_2 kI.eq_1 mpOk.eq_1 mpR.eq_1 lkV.eq_1 lkV.eq_2 remp.eq_2 evP pvOk.eq_1 pvOk.eq_2 pvVal.eq_1 pvVal.eq_2 plOk.eq_1 plOk.eq_2 plOk.eq_3 plV.eq_1 plV.eq_2 plF.eq_1 plF.eq_2 plVal.eq_1 plVal.eq_2 plFz.eq_1 plFz.eq_2 lpOk.eq_1 lpOk.eq_2 lpVal.eq_1 lpVal.eq_2 lpFz.eq_1 lpFz.eq_2 stpOk.eq_1 stpOk.eq_2 stpSt.eq_1 stpSt.eq_2 stpArr.eq_1 keepS.eq_1 keepS.eq_2 evCl
section
/-
  Where one comes to; who waits for themselves: the code whole.
-/
open Go.RowKit Go.MapKept
set_option linter.unusedVariables false
set_option linter.unusedSimpArgs false
set_option maxRecDepth 100000
attribute [local go_sem ↓] runOp headOp
/-! ### percolate/waits.Stuck$1 -/
def r_stu1_0 : Reg := ⟨[], [⟨(.mv (.c (.bool false))), (some 3), none, [], []⟩], [], [], false⟩
def r_stu1_1 : List XOp := [(.op [] ⟨(.load 1 false (.t 1)), (some 4), none, [], []⟩), (.op [] ⟨(.mv (.t 0)), (some 5), none, [], []⟩), (.op [6] ⟨(.callv (.c (.clo 14 [] [])) [(.t 4), (.t 5)]), (some 6), none, [], []⟩), (.op [] ⟨(.mv (.t 0)), (some 7), none, [], []⟩), (.mlook 8 false (.t 6) (.t 7) (.bool false) none), (.op [] ⟨(.un .not (.t 8)), (some 9), none, [], []⟩), (.op [] ⟨(.mv (.t 9)), (some 3), none, [], []⟩)]
def ir_stu1 (P : Program) : IR := (.seq (.reg r_stu1_0)
  (.seq (.regx P r_stu1_1)
  .ret))
def res_stu1 : List RDesc := [(.tmp 3)]
theorem e_stu1_0 (C : FuncId → List AV → AV → Prop) (σ : St) (K : St → Prop) : runReg C r_stu1_0 σ K = runOps C [⟨(.mv (.c (.bool false))), (some 3), none, [], []⟩] (σ.kills []) K := rfl
theorem fn_stu1 {args : List AV} {r : AV} (ha : args.length.ble Try.f20.ntmps = true) (h : run (AFn Try.prog) (ir_stu1 Try.prog) (endQ res_stu1 r) (initSt args)) : AFn Try.prog 20 args r :=
  AFn.of_code (pv := false) (hint := fun _ => []) (c := Try.f20.body.getD .skip) (by kernel_rfl) (by kernel_rfl) Try.func20 (by kernel_rfl) (by kernel_rfl) (by kernel_rfl) (of_decide_eq_true (by kernel_rfl)) (Nat.le_of_ble_eq_true ha) (Nat.le_of_ble_eq_true (by kernel_rfl)) (run_ok h)
attribute [local go_sem ↓] ir_stu1
attribute [local go_sem] res_stu1 e_stu1_0 r_stu1_1
theorem stu1_ok (l : List Edge) (hl : l.length ≤ 400000) (n : Int) : AFn Try.prog 20 [.int .i64 n, .rp [.mv (avE (grL l))]] (.bool (!decide (n ∈ seenL l n))) := by
  refine fn_stu1 rfl ?_
  have c := rch_ok l n hl
  have hsk : lkV false (.bool false) (lkp (seenE (seenL l n)) n) = .bool (decide (n ∈ seenL l n)) := seen_look
  (repeat (first | simp (maxSteps := 4000000) only [go_sem, ↓reduceIte, reduceCtorEq, Nat.reduceEqDiff, Nat.reduceBEq, Nat.reduceAdd, Nat.reduceSub, Nat.reduceMul, Nat.reduceLT, Nat.reduceLeDiff, Nat.reduceBNe, Int.reduceBEq, Int.reduceBNe, Int.reduceLT, Int.reduceLE, hsk] | refine calling (c) ?_ | refine callingH (c) ?_ | refine And.intro (by omega) ?_ | refine And.intro (fun d hd => by (repeat (rcases hd with rfl | hd; · exact ⟨rfl, rfl⟩)); cases hd) ?_))
def wideP (w : World) : Nat → Nat → Prop := fun b _ => b < w.heap.size
theorem VR.wide {Pr : Nat → Nat → Prop} {w : World} {d : AV} {v : Value} (h : VR Pr w d v) : VR (wideP w) w d v :=
  h.kept ⟨Nat.le_refl _, fun _ _ hb _ => hb, fun _ _ _ _ => rfl, fun _ _ _ _ _ e => e⟩
theorem EdAt.kept {w w' : World} {A : Option Addr} {l : List Edge} (h : EdAt w A l) (hb : Below w.heap.size w w') : EdAt w' A l := fun i e he => by
  obtain ⟨b, off, h1, h2, h3, h4⟩ := h i e he
  exact ⟨b, off, h1, Nat.lt_of_lt_of_le h2 hb.size, (hb.cell (p := ⟨b, _, none⟩) h2).trans h3, (hb.cell (p := ⟨b, _, none⟩) h2).trans h4⟩
theorem mem_seen_out {l : List Edge} {a b : Int} (h : TC l a b) : b ∈ l.map (·.2) := by
  cases h with
  | one h => exact List.mem_map.2 ⟨_, h, rfl⟩
  | step _ h => exact List.mem_map.2 ⟨_, h, rfl⟩
/-- waits.reach, over the model -/
theorem reach_calls (l : List Edge) (a : Int) (hl : l.length ≤ 400000) (hin : ∀ e, e ∈ l → I64 e.2) {W : World} (hG : Glob W) {gm base : Nat} {ms : Array MapEntry} {c : Nat} (hg : Grp W base gm (grL l) ms c) (hs : (seenL l a).length ≤ 1000000) :
    Calls Try.prog 14 #[.map (some gm), .int .i64 a] W fun e w' => ∃ (g : Nat) (D : DataW Unit), e = .returned (.map (some g)) ∧ Below W.heap.size W w' ∧ w'.ownsMap Try.prog 3 R1 g (seenE (seenL l a)).length D ∧ Kys (seenE (seenL l a)) D := by
  have hv : VR (wideP W) W (.mv (avE (grL l))) (.map (some gm)) := VR.wide (hg.out (Pr := fun _ _ => True) fun _ _ _ => trivial)
  have h := (rch_ok l a hl).calls W (wideP W) [.map (some gm), .int .i64 a] hG (fun _ _ h => h) rfl (fun j d v h1 h2 => by
    match j with
    | 0 => cases h1; cases h2; exact hv
    | 1 => cases h1; cases h2; exact .int _ _
    | j + 2 => simp at h1)
  refine h.mono ?_
  rintro e w' ⟨v, rfl, hB, hR⟩
  cases hR with
  | mv _ g ms c hg hp hb hl2 hst hk hv2 =>
    obtain ⟨D, h1, h2⟩ := own_map hb hst hl2 hk (fun n hn => by
      have e1 : (seenE (seenL l a)).map (·.1) = seenL l a := by simp [seenE, List.map_map, Function.comp_def]
      rw [e1, mem_seenL] at hn
      obtain ⟨e, he, rfl⟩ := List.mem_map.1 (mem_seen_out hn)
      exact hin e he) (by unfold seenE; rw [List.length_map]; exact hs)
    exact ⟨g, D, rfl, hB, h1, h2⟩
theorem seenL_len {l : List Edge} {a : Int} (hn : (seenL l a).Nodup) : (seenL l a).length ≤ l.length := by
  have := sub_len hn (b := l.map (·.2)) fun b hb => mem_seen_out (mem_seenL.1 hb)
  rwa [List.length_map] at this
theorem seenL_nodup {l : List Edge} {a : Int} : (seenL l a).Nodup := by
  have key : ∀ (j : Nat) (seen todo : List Int), Dfs l a seen todo → dfsM l seen todo < j → (dfsF l j seen todo).Nodup := by
    intro j
    induction j with
    | zero => intro seen todo _ h; exact absurd h (Nat.not_lt_zero _)
    | succ j ih =>
      intro seen todo hD hj
      rcases List.eq_nil_or_concat todo with e | ⟨t, n, e⟩
      · subst e
        rw [dfsF_nil]
        exact hD.nodup
      · rw [List.concat_eq_append] at e
        subst e
        by_cases hn : n ∈ seen
        · have hs := dfs_skip (l := l) (n := n) (seen := seen) (t := t)
          rw [dfsF_skip hn]
          exact ih _ _ (hD.skip hn) (by omega)
        · have hs := dfs_less (l := l) (t := t) hn
          rw [dfsF_mark hn]
          exact ih _ _ (hD.mark hn) (by omega)
  exact key _ _ _ (Dfs.start l a) (Nat.lt_succ_self _)
theorem sortedA_at {w : World} {g : Nat} {es : List (Int × AV)} {D : DataW Unit} (ho : w.ownsMap Try.prog 3 R1 g es.length D) (hk : Kys es D) {s : List Int} (hs : s.length ≤ 1000000) (he : es = seenE s := by rfl) :
    Calls Try.prog 12 #[.func (.func 23) #[] #[.pointer (some ⟨w.heap.size, 0, none⟩)]] (w.alloc (.cells #[.map (some g)] 38)) fun e w' => ∃ (v : Value) (r : List Int), e = .returned v ∧ Rise r ∧ (∀ x, x ∈ r ↔ x ∈ es.map (·.1)) ∧
      w'.ownsRow (w.alloc (.cells #[.map (some g)] 38)).heap.size 3 1 v r.length (r.map (Value.int .i64)) ∧ Below (w.alloc (.cells #[.map (some g)] 38)).heap.size (w.alloc (.cells #[.map (some g)] 38)) w' :=
  sorted_keysA (by simp) (by rw [cell_row (heap_alloc w _).1]; rfl) (ho.alloc _) hk (by rw [he]; unfold seenE; rw [List.length_map]; exact hs)
theorem sortedB_at {w : World} {g : Nat} {es : List (Int × AV)} {D : DataW Unit} (ho : w.ownsMap Try.prog 3 R1 g es.length D) (hk : Kys es D) (hs : es.length ≤ 1000000) :
    Calls Try.prog 12 #[.func (.func 26) #[] #[.pointer (some ⟨w.heap.size, 0, none⟩)]] (w.alloc (.cells #[.map (some g)] 40)) fun e w' => ∃ (v : Value) (r : List Int), e = .returned v ∧ Rise r ∧ (∀ x, x ∈ r ↔ x ∈ es.map (·.1)) ∧
      w'.ownsRow (w.alloc (.cells #[.map (some g)] 40)).heap.size 3 1 v r.length (r.map (Value.int .i64)) ∧ Below (w.alloc (.cells #[.map (some g)] 40)).heap.size (w.alloc (.cells #[.map (some g)] 40)) w' :=
  sorted_keysB (by simp) (by rw [cell_row (heap_alloc w _).1]; rfl) (ho.alloc _) hk hs
set_option maxHeartbeats 4000000 in
theorem Reach_any (l : List Edge) (a : Int) (hl : l.length ≤ 400000) (hin : ∀ e, e ∈ l → I64 e.2) (A : Option Addr) (cap : Nat) (w : World) (hG : Glob w) (hE : EdAt w A l) :
    Calls Try.prog 7 #[.slice A l.length cap, .int .i64 a] w fun e w' => ∃ v, e = .returned v ∧ Below w.heap.size w w' ∧ w'.ownsRow w.heap.size 3 1 v (reachL l a).length ((reachL l a).map (Value.int .i64)) := by
  have hs : (seenL l a).length ≤ 1000000 := by have := seenL_len (l := l) (a := a) seenL_nodup; omega
  have cG : ∀ W : World, W.heap = w.heap → Calls Try.prog 15 #[.slice A l.length cap] W fun e w' => ∃ ms c, e = .returned (.map (some w.heap.size)) ∧ Below w.heap.size W w' ∧ Grp w' (w.heap.size + 1) w.heap.size (grL l) ms c := fun W hW => by
    rw [← hW]
    exact graph_any l (by omega) A cap W fun i e he => by
      obtain ⟨b, off, h1, h2, h3, h4⟩ := hE i e he
      exact ⟨b, off, h1, by rw [hW]; exact h2, by rw [← h3]; unfold World.cell?; rw [hW], by rw [← h4]; unfold World.cell?; rw [hW]⟩
  go_enter Try.func7, Try.ntmps7
  go_wp2_with (first
    | (go_at_call 15; refine (cG _ rfl).mono ?_; rintro e w1 ⟨ms, c, rfl, hB1, hGr⟩)
    | (go_at_call 14; refine (reach_calls l a hl hin (Glob.below hG hB1) hGr hs).mono ?_; rintro e w2 ⟨g, D, rfl, hB2, hO, hK⟩)
    | (go_at_call 13; refine (keysA_ok _ _).mono ?_; rintro e w3 ⟨rfl, rfl⟩)
    | (go_at_call 12; refine (sortedA_at hO hK hs).mono ?_; rintro e w4 ⟨v, r, rfl, hri, hmem, hrow, hB4⟩))
  go_ret
  have e1 : (seenE (seenL l a)).map (·.1) = seenL l a := by simp [seenE, List.map_map, Function.comp_def]
  obtain rfl : r = reachL l a := reach_unique hri fun b => by rw [hmem b, e1]; exact mem_seenL
  have hB : Below w.heap.size w w4 := hB1.trans ((hB2.mono hB1.size).trans (((Below.refl _ w2).alloc (Nat.le_refl _) _).mono (Nat.le_trans hB1.size hB2.size) |>.trans (hB4.mono (by simp; exact Nat.le_trans hB1.size (Nat.le_trans hB2.size (by omega))))))
  exact ⟨v, rfl, hB, ownsRow_base_a hrow (by simp; exact Nat.le_trans hB1.size (Nat.le_trans hB2.size (by omega)))⟩
end
section
/-
  Who waits for themselves: the code whole.
-/
open Go.RowKit Go.MapKept
set_option linter.unusedVariables false
set_option linter.unusedSimpArgs false
set_option maxRecDepth 100000
/-- slices.DeleteFunc at a row that the call has made -/
theorem del_calls (s : Tst) (hs0 : s.ok) {w0 W : World} {base : Nat} (hb : base ≤ w0.heap.size) (hG : Glob w0) (hW : Below w0.heap.size w0 W) {v c : Value} {r : List Int} (hr : r.length ≤ 1000000)
    (hrow : W.ownsRow w0.heap.size 3 1 v r.length (r.map (Value.int .i64))) (hc : VR (fun b _ => base ≤ b) w0 (clI s) c) :
    Calls Try.prog 18 #[v, c] W fun e w' => ∃ v', e = .returned v' ∧ Below w0.heap.size w0 w' ∧ VR (fun b _ => base ≤ b) w' (.sl ((keepF s r).map (AV.int .i64))) v' := by
  obtain ⟨μ, hμ⟩ : ∃ μ : Nat → Option Nat, μ = fun k => if k = 0 then v.ownBlock else none := ⟨_, rfl⟩
  obtain ⟨H, hH⟩ : ∃ H : Nat → Option Arr, H = fun k => if k = 0 then ObjI r else none := ⟨_, rfl⟩
  have hμs : ∀ k g, μ k = some g → k = 0 ∧ v.ownBlock = some g ∧ w0.heap.size ≤ g ∧ g < W.heap.size := fun k g h => by
    subst hμ
    dsimp only at h
    by_cases hk : k = 0
    · rw [if_pos hk] at h
      refine ⟨hk, h, ?_⟩
      rcases hrow.2 with ⟨q1, _⟩ | ⟨g', cap, cur, q1, q2, q3, _⟩
      · rw [q1] at h; cases h
      · rw [q1] at h
        cases h
        exact ⟨q2, block_lt q3⟩
    · rw [if_neg hk] at h; cases h
  have kept : Kept (fun b _ => base ≤ b) (PrOf ⟨w0, fun _ _ => False⟩ (fun b _ => base ≤ b) μ H) w0 W :=
    ⟨hW.size, fun b o hb2 hp => ⟨fun _ => hp, fun k hk => by have := (hμs k b hk).2.2.1; omega⟩, fun b o h _ => hW.cell (p := ⟨b, o, none⟩) h, fun b ms c h _ e => by rw [hW.block b h]; exact e⟩
  have hSR : SR ⟨w0, fun _ _ => False⟩ (fun b _ => base ≤ b) 0 μ ⟨fun _ => .und, H⟩ ⟨#[], []⟩ W := by
    refine ⟨hW, fun a b g h1 h2 => by rw [(hμs a g h1).1, (hμs b g h2).1], fun a g h => (hμs a g h).2.2, fun a g h => ?_, rfl, fun t => trivial, fun a arr h => ?_, rfl, hG, by omega, fun d v h => h.elim⟩
    · have := (hμs a g h).1
      subst hH; subst this; rfl
    · subst hH
      dsimp only at h
      by_cases ha : a = 0
      · rw [if_pos ha] at h
        subst ha
        unfold ObjI at h
        cases h
        refine ⟨Nat.zero_lt_one, Nat.zero_le _, fun d hd => ?_, ?_⟩
        · obtain ⟨x, _, rfl⟩ := List.mem_map.1 hd
          exact ⟨rfl, fun c hc => by
            have : c = .int .i64 x := by simpa [AV.cells] using hc
            subst this; rfl⟩
        · subst hμ
          dsimp only
          rw [if_pos rfl]
          rcases hrow.2 with ⟨q1, q2⟩ | ⟨g, cap, cur, q1, q2, q3, q4, q5, q6, q7⟩
          · have : r = [] := List.length_eq_zero_iff.1 q2
            rw [q1, this]; rfl
          · rw [q1]
            refine .inr ⟨cur, q3, by rw [List.length_map]; omega, fun i d j c hi hj => ?_⟩
            rw [List.getElem?_map] at hi
            obtain ⟨x, hx, rfl⟩ := Option.map_eq_some_iff.1 hi
            have hi' := (List.getElem?_eq_some_iff.1 hx).1
            match j, hj with
            | 0, hj =>
              cases hj
              have h1 : (cur.toList.take (r.length * 1))[i]? = (r.map (Value.int .i64))[i]? := by rw [q7]
              rw [List.getElem?_take, if_pos (by omega), Array.getElem?_toList, List.getElem?_map, hx] at h1
              exact ⟨_, by rw [show i * 1 + 0 = i by omega]; exact h1, .int _ _⟩
      · rw [if_neg ha] at h; cases h
  obtain ⟨H', hM⟩ := dI_ok s hs0 H 0 r hr (by rw [hH]; rfl)
  refine (hM.calls ⟨w0, fun _ _ => False⟩ _ 0 μ (fun _ => .und) ⟨#[], []⟩ W [v, c] hSR rfl fun j d u h1 h2 => ?_).mono ?_
  · match j with
    | 0 =>
      cases h1; cases h2
      intro arr ha
      have ha' : arr = ⟨1, 3, r.map (AV.int .i64), 0⟩ := by
        subst hH
        dsimp only at ha
        rw [if_pos rfl] at ha
        unfold ObjI at ha
        cases ha; rfl
      subst ha'
      rcases hrow.2 with ⟨q1, q2⟩ | ⟨g, cap, cur, q1, q2, q3, q4, q5, q6, q7⟩
      · exact .inl ⟨by subst hμ; dsimp only; rw [if_pos rfl, q1]; rfl, q1, rfl, q2⟩
      · exact .inr ⟨g, cap, cur, by subst hμ; dsimp only; rw [if_pos rfl, q1]; rfl, .inl (by rw [q1]; simp), q3, by simpa using q6.symm, by simp, q4, q5⟩
    | 1 =>
      cases h1; cases h2
      exact hc.kept kept
    | j + 2 => simp at h1
  · rintro e w' ⟨v', μ', rfl, hS, hV⟩
    refine ⟨v', rfl, hS.below, hV.kept ⟨Nat.le_refl _, fun b o _ hp => ?_, fun _ _ _ _ => rfl, fun _ _ _ _ _ e => e⟩⟩
    by_cases h : b < w0.heap.size
    · exact hp.1 h
    · omega
def stuT (l : List Edge) : Tst := ⟨20, [.rp [.mv (avE (grL l))]], fun n => !decide (n ∈ seenL l n)⟩
theorem stuT_ok (l : List Edge) (hl : l.length ≤ 400000) : (stuT l).ok := ⟨fun n => stu1_ok l hl n⟩
theorem keep_stuck {l : List Edge} {r : List Int} (hr : Rise r) (hm : ∀ x, x ∈ r ↔ x ∈ (avE (grL l)).map (·.1)) : keepF (stuT l) r = stuckL l := by
  refine stuck_unique (List.Pairwise.filter _ hr) fun n => ?_
  unfold keepF
  rw [List.mem_filter, hm n, keys_avE, (grL_ok l).keys]
  have : (stuT l).has n = !decide (n ∈ seenL l n) := rfl
  rw [this, Bool.not_not, decide_eq_true_eq, mem_seenL]
theorem grL_len (l : List Edge) : (grL l).length ≤ l.length := by
  have := sub_len (grL_ok l).nodup (b := l.map (·.1)) fun b hb => ((grL_ok l).keys b).1 hb
  rwa [List.length_map, List.length_map] at this
theorem grp_own {w : World} {base gm : Nat} {l : List Edge} {ms : Array MapEntry} {c : Nat} (hG : Grp w base gm (grL l) ms c) (hin : ∀ e, e ∈ l → I64 e.1) (hl : l.length ≤ 1000000) :
    ∃ D, w.ownsMap Try.prog 3 R1 gm (avE (grL l)).length D ∧ Kys (avE (grL l)) D := by
  have hlen : (avE (grL l)).length = (grL l).length := by simp [avE]
  have hg := grL_len l
  refine own_map hG.map hG.st (by rw [hlen]; exact hG.len) (fun i e m he hm => ?_) (fun n hn => ?_) (by omega)
  · simp only [avE, List.getElem?_map] at he
    obtain ⟨e', h3, rfl⟩ := Option.map_eq_some_iff.1 he
    exact hG.key i e' m h3 hm
  · rw [keys_avE, (grL_ok l).keys] at hn
    obtain ⟨e, he, rfl⟩ := List.mem_map.1 hn
    exact hin e he
abbrev w2Of (w1 : World) (gm : Nat) : World := w1.alloc (.cells #[.map (some gm)] 40)
abbrev w3Of (w1 : World) (gm : Nat) : World := (w2Of w1 gm).alloc (.cells #[.map (some gm)] 40)
theorem sortedG_at {w1 : World} {base gm : Nat} {l : List Edge} {ms : Array MapEntry} {c : Nat} (hG : Grp w1 base gm (grL l) ms c) (hin : ∀ e, e ∈ l → I64 e.1) (hl : l.length ≤ 400000) :
    Calls Try.prog 12 #[.func (.func 26) #[] #[.pointer (some ⟨w1.heap.size + 1, 0, none⟩)]] (w3Of w1 gm) fun e w' => ∃ (v : Value) (r : List Int), e = .returned v ∧ Rise r ∧ (∀ x, x ∈ r ↔ x ∈ (avE (grL l)).map (·.1)) ∧
      w'.ownsRow (w3Of w1 gm).heap.size 3 1 v r.length (r.map (Value.int .i64)) ∧ Below (w3Of w1 gm).heap.size (w3Of w1 gm) w' := by
  obtain ⟨D, h1, h2⟩ := grp_own (hG.alloc (.cells #[.map (some gm)] 40)) hin (by omega)
  rw [show w1.heap.size + 1 = (w2Of w1 gm).heap.size from by simp]
  exact sortedB_at h1 h2 (by have := grL_len l; simp [avE]; omega)
theorem delG_at {w w1 w4 : World} {base : Nat} {l : List Edge} {ms : Array MapEntry} {c : Nat} (hg : Glob w) (hbase : w.heap.size = base) (hB1 : Below base w w1) (hG : Grp w1 (base + 1) base (grL l) ms c) (hl : l.length ≤ 400000) {v : Value} {r : List Int} (hr : Rise r)
    (hm : ∀ x, x ∈ r ↔ x ∈ (avE (grL l)).map (·.1)) (hrow : w4.ownsRow (w3Of w1 base).heap.size 3 1 v r.length (r.map (Value.int .i64))) (hB : Below (w3Of w1 base).heap.size (w3Of w1 base) w4) :
    Calls Try.prog 18 #[v, .func (.func 20) #[] #[.pointer (some ⟨w1.heap.size, 0, none⟩)]] w4 fun e w' => ∃ v', e = .returned v' ∧ Below base w w' ∧ VR (fun b _ => base ≤ b) w' (.sl ((stuckL l).map (AV.int .i64))) v' := by
  have hs1 : base ≤ w1.heap.size := Nat.le_trans (Nat.le_of_eq hbase.symm) hB1.size
  have hs3 : (w3Of w1 base).heap.size = w1.heap.size + 2 := by unfold w3Of w2Of; simp
  have hB3 : Below base w (w3Of w1 base) := (hB1.alloc hs1 _).alloc (by simp; omega) _
  have hG3 : Grp (w3Of w1 base) (base + 1) base (grL l) ms c := (hG.alloc _).alloc _
  have hrl : r.length ≤ 1000000 := by
    have h1 : r.Nodup := hr.imp fun h => by omega
    have := sub_len h1 fun b hb => (hm b).1 hb
    rw [List.length_map] at this
    have := grL_len l
    simp [avE] at *
    omega
  have hcell : (w3Of w1 base).cell? ⟨w1.heap.size, 0, none⟩ = some (.map (some base)) := by
    unfold w3Of
    rw [cell_row ((Below.heap_alloc (w2Of w1 base) _ w1.heap.size (by unfold w2Of; simp)).trans (heap_alloc w1 _).1)]
    rfl
  have hc : VR (fun b _ => base ≤ b) (w3Of w1 base) (clI (stuT l)) (.func (.func 20) #[] #[.pointer (some ⟨w1.heap.size, 0, none⟩)]) := by
    refine .clo _ [] [.rp [.mv (avE (grL l))]] [] [.pointer (some ⟨w1.heap.size, 0, none⟩)] rfl rfl (fun j c v h => by simp at h) (fun j c v h1 h2 => ?_)
    match j with
    | 0 =>
      cases h1; cases h2
      refine .rp _ _ _ (fun _ => .map (some base)) (by omega) (fun j hj => ?_) (fun j c h => ?_)
      · have : j = 0 := by simp at hj; omega
        subst this
        exact ⟨hs1, hcell⟩
      · match j with
        | 0 => cases h; exact hG3.out fun b o h => h
        | j + 1 => simp at h
    | j + 1 => simp at h1
  have h := del_calls (stuT l) (stuT_ok l hl) (by omega : base ≤ (w3Of w1 base).heap.size) (Glob.below hg (by rw [hbase]; exact hB3)) hB hrl hrow hc
  rw [keep_stuck hr hm] at h
  refine h.mono ?_
  rintro e w' ⟨v', rfl, hB', hV⟩
  exact ⟨v', rfl, hB3.trans (hB'.mono (by omega)), hV⟩
set_option maxHeartbeats 4000000 in
theorem Stuck_any (l : List Edge) (hl : l.length ≤ 400000) (hin : ∀ e, e ∈ l → I64 e.1) (A : Option Addr) (cap : Nat) (w : World) (hG : Glob w) (hE : EdAt w A l) :
    Calls Try.prog 9 #[.slice A l.length cap] w fun e w' => ∃ v, e = .returned v ∧ Below w.heap.size w w' ∧ VR (fun b _ => w.heap.size ≤ b) w' (.sl ((stuckL l).map (AV.int .i64))) v := by
  have cG : ∀ W : World, W.heap = w.heap → Calls Try.prog 15 #[.slice A l.length cap] W fun e w' => ∃ ms c, e = .returned (.map (some w.heap.size)) ∧ Below w.heap.size W w' ∧ Grp w' (w.heap.size + 1) w.heap.size (grL l) ms c := fun W hW => by
    rw [← hW]
    exact graph_any l (by omega) A cap W fun i e he => by
      obtain ⟨b, off, h1, h2, h3, h4⟩ := hE i e he
      exact ⟨b, off, h1, by rw [hW]; exact h2, by rw [← h3]; unfold World.cell?; rw [hW], by rw [← h4]; unfold World.cell?; rw [hW]⟩
  have hlen : (avE (grL l)).length ≤ 1000000 := by have := grL_len l; simp [avE]; omega
  obtain ⟨base, hbase⟩ : ∃ base, w.heap.size = base := ⟨_, rfl⟩
  rw [hbase] at cG
  go_enter Try.func9, Try.ntmps9
  go_wp2_with (first
    | (go_at_call 15; refine (cG _ rfl).mono ?_; rintro e w1 ⟨ms, c, rfl, hB1, hGr⟩)
    | (go_at_call 19; refine (keysB_ok _ _).mono ?_; rintro e w3 ⟨rfl, rfl⟩)
    | (go_at_call 12; refine (sortedG_at hGr hin hl).mono ?_; rintro e w4 ⟨v, r, rfl, hri, hmem, hrow, hB4⟩)
    | (go_at_call 18; refine (delG_at hG hbase hB1 hGr hl hri hmem hrow hB4).mono ?_; rintro e w5 ⟨v', rfl, hB5, hV⟩))
  go_ret
  exact ⟨v', rfl, by rw [hbase]; exact hB5, by rw [hbase]; exact hV⟩
end
section
/-
  The document's lists of numbers: in, sorted; whether two are one. Walked.
-/
open Go.RowKit
set_option linter.unusedVariables false
set_option linter.unusedSimpArgs false
set_option maxRecDepth 100000
attribute [local go_sem ↓] runOp headOp
/-! ### percolate/percolateref13.in -/
/-! ### percolate/percolateref13.sorted -/
/-! ### percolate/percolateref11.Ints -/
def r_wints_0 : Reg := ⟨[], [⟨(.mv (.c (.bool false))), (some 4), none, [], []⟩], [], [], false⟩
def t_wints_1 : List ROp := [⟨(.mv (.t 0)), (some 6), none, [], []⟩, ⟨(.len false (.t 6)), (some 7), none, [], []⟩, ⟨(.mv (.t 1)), (some 8), none, [], []⟩, ⟨(.len false (.t 8)), (some 9), none, [], []⟩, ⟨(.bin .neq (.t 7) (.t 9)), (some 10), none, [], []⟩]
def r_wints_1 : Reg := ⟨[], t_wints_1, [], [], false⟩
def r_wints_2 : Reg := ⟨[], [⟨(.mv (.c (.bool false))), (some 4), none, [], []⟩], [], [], false⟩
def r_wints_3 : Reg := ⟨[], [⟨(.mv (.c (.int .i64 0))), (some 5), none, [], []⟩], [], [], false⟩
def t_wints_4 : List ROp := [⟨(.mv (.t 5)), (some 11), none, [], []⟩, ⟨(.mv (.t 0)), (some 12), none, [], []⟩, ⟨(.len false (.t 12)), (some 13), none, [], []⟩, ⟨(.bin .lss (.t 11) (.t 13)), (some 14), none, [], []⟩]
def r_wints_4 : Reg := ⟨[], t_wints_4, [], [], false⟩
def h_wints_5 : List ROp := [⟨(.mv (.t 0)), (some 17), none, [], []⟩, ⟨(.mv (.t 5)), (some 18), none, [], []⟩, ⟨(.iaddr 1 (.t 17) (.t 18)), (some 19), none, [], []⟩, ⟨(.load 1 false (.t 19)), (some 20), none, [], []⟩, ⟨(.mv (.t 1)), (some 21), none, [], []⟩, ⟨(.mv (.t 5)), (some 22), none, [], []⟩, ⟨(.iaddr 1 (.t 21) (.t 22)), (some 23), none, [], []⟩, ⟨(.load 1 false (.t 23)), (some 24), none, [], []⟩]
def r_wints_5 : Reg := ⟨h_wints_5, [⟨(.bin .neq (.t 20) (.t 24)), (some 25), none, [], []⟩], [], [], true⟩
def r_wints_6 : Reg := ⟨[], [⟨(.mv (.c (.bool false))), (some 4), none, [], []⟩], [], [], false⟩
def t_wints_7 : List ROp := [⟨(.mv (.t 5)), (some 15), none, [], []⟩, ⟨(.bin .add (.t 15) (.c (.int .i64 1))), (some 16), none, [], []⟩, ⟨(.mv (.t 16)), (some 5), none, [], []⟩]
def r_wints_7 : Reg := ⟨[], t_wints_7, [], [], false⟩
def r_wints_l8 : IR := (.seq (.seq (.reg r_wints_4)
  (.cond (.t 14) .skip
  (.exit 0)))
  (.seq (.block 1 (.seq (.reg r_wints_5)
  (.cond (.t 25) (.seq (.reg r_wints_6)
  .ret)
  .skip)))
  (.reg r_wints_7)))
def r_wints_9 : Reg := ⟨[], [⟨(.mv (.c (.bool true))), (some 4), none, [], []⟩], [], [], false⟩
def ir_wints : IR := (.seq (.reg r_wints_0)
  (.seq (.seq (.reg r_wints_1)
  (.cond (.t 10) (.seq (.reg r_wints_2)
  .ret)
  .skip))
  (.seq (.seq (.reg r_wints_3)
  (.block 0 (.loop r_wints_l8)))
  (.seq (.reg r_wints_9)
  .ret))))
def res_wints : List RDesc := [(.tmp 4)]
theorem e_wints_0 (C : FuncId → List AV → AV → Prop) (σ : St) (K : St → Prop) : runReg C r_wints_0 σ K = runOps C [⟨(.mv (.c (.bool false))), (some 4), none, [], []⟩] (σ.kills []) K := rfl
theorem e_wints_1 (C : FuncId → List AV → AV → Prop) (σ : St) (K : St → Prop) : runReg C r_wints_1 σ K = runOps C t_wints_1 (σ.kills []) K := rfl
theorem e_wints_2 (C : FuncId → List AV → AV → Prop) (σ : St) (K : St → Prop) : runReg C r_wints_2 σ K = runOps C [⟨(.mv (.c (.bool false))), (some 4), none, [], []⟩] (σ.kills []) K := rfl
theorem e_wints_3 (C : FuncId → List AV → AV → Prop) (σ : St) (K : St → Prop) : runReg C r_wints_3 σ K = runOps C [⟨(.mv (.c (.int .i64 0))), (some 5), none, [], []⟩] (σ.kills []) K := rfl
theorem e_wints_4 (C : FuncId → List AV → AV → Prop) (σ : St) (K : St → Prop) : runReg C r_wints_4 σ K = runOps C t_wints_4 (σ.kills []) K := rfl
theorem e_wints_5 (C : FuncId → List AV → AV → Prop) (σ : St) (K : St → Prop) : runReg C r_wints_5 σ K = runHead C [] [⟨(.bin .neq (.t 20) (.t 24)), (some 25), none, [], []⟩] h_wints_5 (σ.kills []) K := rfl
theorem e_wints_6 (C : FuncId → List AV → AV → Prop) (σ : St) (K : St → Prop) : runReg C r_wints_6 σ K = runOps C [⟨(.mv (.c (.bool false))), (some 4), none, [], []⟩] (σ.kills []) K := rfl
theorem e_wints_7 (C : FuncId → List AV → AV → Prop) (σ : St) (K : St → Prop) : runReg C r_wints_7 σ K = runOps C t_wints_7 (σ.kills []) K := rfl
theorem e_wints_9 (C : FuncId → List AV → AV → Prop) (σ : St) (K : St → Prop) : runReg C r_wints_9 σ K = runOps C [⟨(.mv (.c (.bool true))), (some 4), none, [], []⟩] (σ.kills []) K := rfl
theorem fn_wints {args : List AV} {r : AV} (ha : args.length.ble Try.f6.ntmps = true) (h : run (AFn Try.prog) ir_wints (endQ res_wints r) (initSt args)) : AFn Try.prog 6 args r :=
  AFn.of_code (pv := false) (hint := fun _ => []) (c := Try.f6.body.getD .skip) (by kernel_rfl) (by kernel_rfl) Try.func6 (by kernel_rfl) (by kernel_rfl) (by kernel_rfl) (of_decide_eq_true (by kernel_rfl)) (Nat.le_of_ble_eq_true ha) (Nat.le_of_ble_eq_true (by kernel_rfl)) (run_ok h)
attribute [local go_sem ↓] ir_wints
attribute [local go_sem] res_wints e_wints_0 e_wints_1 t_wints_1 e_wints_2 e_wints_3 e_wints_4 t_wints_4 e_wints_5 h_wints_5 e_wints_6 e_wints_7 t_wints_7 e_wints_9
theorem getW {α : Type} {l : List α} {j : Nat} (h : j < l.length) : ∃ x, l[j]? = some x := ⟨_, List.getElem?_eq_getElem h⟩
theorem wrapW {j : Nat} (h : j ≤ 1000000000000000) : IntKind.i64.wrap ((j : Int) + 1) = ((j + 1 : Nat) : Int) := by rw [IntWalk.i64_in _ (by omega)]; rfl
theorem takeW {α : Type} {l : List α} {j : Nat} {x : α} (h : l[j]? = some x) : l.take (j + 1) = l.take j ++ [x] := by rw [List.take_add_one, h]; rfl
theorem dropW {α : Type} {l : List α} {j : Nat} {x : α} (h : l[j]? = some x) : l.drop j = x :: l.drop (j + 1) := by
  obtain ⟨hlt, e⟩ := List.getElem?_eq_some_iff.1 h
  rw [List.drop_eq_getElem_cons hlt, e]
/-! ### two lists of numbers -/
def eqW : List Int → List Int → Bool
  | [], [] => true
  | x :: a, y :: b => (x == y) && eqW a b
  | _, _ => false
theorem eqW_self : ∀ l : List Int, eqW l l = true
  | [] => rfl
  | x :: l => by rw [eqW, eqW_self l, beq_self_eq_true]; rfl
theorem eqW_len : ∀ (a b : List Int), a.length ≠ b.length → eqW a b = false
  | [], [], h => absurd rfl h
  | [], y :: b, _ => rfl
  | x :: a, [], _ => rfl
  | x :: a, y :: b, h => by
    rw [eqW, eqW_len a b (fun e => h (by rw [List.length_cons, List.length_cons, e])), Bool.and_false]
def wintsInv (a b : List Int) (R : Bool) (k : Nat) (σ : St) : Prop :=
  ∃ j : Nat, j ≤ a.length ∧ k = a.length - j ∧ σ.T 0 = .sl (a.map (AV.int .i64)) ∧ σ.T 1 = .sl (b.map (AV.int .i64)) ∧ σ.T 5 = .int .i64 j ∧ eqW (a.drop j) (b.drop j) = R
set_option maxHeartbeats 1000000 in
theorem wints_ok (a b : List Int) (ha : a.length ≤ 1000000) (hb : b.length ≤ 1000000) : AFn Try.prog 6 [.sl (a.map (AV.int .i64)), .sl (b.map (AV.int .i64))] (.bool (eqW a b)) := by
  refine fn_wints rfl ?_
  by_cases hl : a.length = b.length
  case neg =>
    have hl' : (((a.length : Nat) : Int) != ((b.length : Nat) : Int)) = true := by simp; omega
    rw [eqW_len a b hl]
    simp (maxSteps := 4000000) only [go_sem, ↓reduceIte, reduceCtorEq, Nat.reduceEqDiff, Nat.reduceBEq, Nat.reduceAdd, Nat.reduceSub, Nat.reduceMul, Nat.reduceLT, Nat.reduceLeDiff, Nat.reduceBNe, Int.reduceBEq, Int.reduceBNe, Int.reduceLT, Int.reduceLE, hl', List.length_map]
  have hl' : (((a.length : Nat) : Int) != ((b.length : Nat) : Int)) = false := by simp; omega
  obtain ⟨R, hR⟩ : ∃ R, eqW a b = R := ⟨_, rfl⟩
  rw [hR]
  simp (maxSteps := 4000000) only [go_sem, ↓reduceIte, reduceCtorEq, Nat.reduceEqDiff, Nat.reduceBEq, Nat.reduceAdd, Nat.reduceSub, Nat.reduceMul, Nat.reduceLT, Nat.reduceLeDiff, Nat.reduceBNe, Int.reduceBEq, Int.reduceBNe, Int.reduceLT, Int.reduceLE, hl', List.length_map]
  refine run_loop (wintsInv a b R) (k := a.length) ⟨0, by omega, rfl, ?_, ?_, ?_, hR⟩ ?_
  · (simp (maxSteps := 4000000) only [go_sem, ↓reduceIte, reduceCtorEq, Nat.reduceEqDiff, Nat.reduceBEq, Nat.reduceAdd, Nat.reduceSub, Nat.reduceMul, Nat.reduceLT, Nat.reduceLeDiff, Nat.reduceBNe, Int.reduceBEq, Int.reduceBNe, Int.reduceLT, Int.reduceLE]) <;> rfl
  · (simp (maxSteps := 4000000) only [go_sem, ↓reduceIte, reduceCtorEq, Nat.reduceEqDiff, Nat.reduceBEq, Nat.reduceAdd, Nat.reduceSub, Nat.reduceMul, Nat.reduceLT, Nat.reduceLeDiff, Nat.reduceBNe, Int.reduceBEq, Int.reduceBNe, Int.reduceLT, Int.reduceLE]) <;> rfl
  · (simp (maxSteps := 4000000) only [go_sem, ↓reduceIte, reduceCtorEq, Nat.reduceEqDiff, Nat.reduceBEq, Nat.reduceAdd, Nat.reduceSub, Nat.reduceMul, Nat.reduceLT, Nat.reduceLeDiff, Nat.reduceBNe, Int.reduceBEq, Int.reduceBNe, Int.reduceLT, Int.reduceLE]) <;> rfl
  clear hR
  rintro k σ ⟨j, hj, rfl, t0, t1, t5, hr⟩
  simp only [r_wints_l8]
  by_cases hlt : j < a.length
  case neg =>
    have hlt' : ¬ (j : Int) < (a.length : Int) := by omega
    rw [List.drop_eq_nil_of_le (by omega), List.drop_eq_nil_of_le (by omega), eqW] at hr
    subst hr
    simp (maxSteps := 4000000) only [go_sem, ↓reduceIte, reduceCtorEq, Nat.reduceEqDiff, Nat.reduceBEq, Nat.reduceAdd, Nat.reduceSub, Nat.reduceMul, Nat.reduceLT, Nat.reduceLeDiff, Nat.reduceBNe, Int.reduceBEq, Int.reduceBNe, Int.reduceLT, Int.reduceLE, t0, t1, t5, hlt', List.length_map]
  have hlt' : (j : Int) < (a.length : Int) := by omega
  have hlt2 : j < b.length := by omega
  obtain ⟨x, hx⟩ := getW hlt
  obtain ⟨y, hy⟩ := getW hlt2
  have hgx := atI hx
  have hgy := atI hy
  have hw := wrapW (j := j) (by omega)
  rw [dropW hx, dropW hy, eqW] at hr
  by_cases hs : x = y
  · have hs' : (x != y) = false := by simp [hs]
    rw [show (x == y) = true by simp [hs], Bool.true_and] at hr
    simp (maxSteps := 4000000) only [go_sem, ↓reduceIte, reduceCtorEq, Nat.reduceEqDiff, Nat.reduceBEq, Nat.reduceAdd, Nat.reduceSub, Nat.reduceMul, Nat.reduceLT, Nat.reduceLeDiff, Nat.reduceBNe, Int.reduceBEq, Int.reduceBNe, Int.reduceLT, Int.reduceLE, t0, t1, t5, hlt', hgx, hgy, hs', hw, hlt, hlt2, List.length_map, Int.toNat_natCast]
    (repeat refine And.intro (by omega) ?_)
    refine ⟨a.length - (j + 1), by omega, j + 1, by omega, rfl, ?_, ?_, ?_, hr⟩
    · simp (maxSteps := 4000000) only [go_sem, ↓reduceIte, reduceCtorEq, Nat.reduceEqDiff, Nat.reduceBEq, Nat.reduceAdd, Nat.reduceSub, Nat.reduceMul, Nat.reduceLT, Nat.reduceLeDiff, Nat.reduceBNe, Int.reduceBEq, Int.reduceBNe, Int.reduceLT, Int.reduceLE, t0]
    · simp (maxSteps := 4000000) only [go_sem, ↓reduceIte, reduceCtorEq, Nat.reduceEqDiff, Nat.reduceBEq, Nat.reduceAdd, Nat.reduceSub, Nat.reduceMul, Nat.reduceLT, Nat.reduceLeDiff, Nat.reduceBNe, Int.reduceBEq, Int.reduceBNe, Int.reduceLT, Int.reduceLE, t1]
    · simp (maxSteps := 4000000) only [go_sem, ↓reduceIte, reduceCtorEq, Nat.reduceEqDiff, Nat.reduceBEq, Nat.reduceAdd, Nat.reduceSub, Nat.reduceMul, Nat.reduceLT, Nat.reduceLeDiff, Nat.reduceBNe, Int.reduceBEq, Int.reduceBNe, Int.reduceLT, Int.reduceLE, hw]
  · have hs' : (x != y) = true := by simp [hs]
    rw [show (x == y) = false by simp [hs], Bool.false_and] at hr
    subst hr
    simp (maxSteps := 4000000) only [go_sem, ↓reduceIte, reduceCtorEq, Nat.reduceEqDiff, Nat.reduceBEq, Nat.reduceAdd, Nat.reduceSub, Nat.reduceMul, Nat.reduceLT, Nat.reduceLeDiff, Nat.reduceBNe, Int.reduceBEq, Int.reduceBNe, Int.reduceLT, Int.reduceLE, t0, t1, t5, hlt', hgx, hgy, hs', hlt, hlt2, List.length_map, Int.toNat_natCast]
    all_goals omega
/-! ### in -/
/-! ### sorted -/
/-- how far it is sorted -/
structure Srt (l out : List Int) : Prop where
  rise : Rise out
  sub : ∀ x, x ∈ out → x ∈ l
  low : ∀ y, y ∈ l → y ∉ out → ∀ x, x ∈ out → x < y
theorem Srt.nil (l : List Int) : Srt l [] := ⟨List.Pairwise.nil, fun x h => by simp at h, fun y _ _ x h => by simp at h⟩
theorem Srt.len {l out : List Int} (h : Srt l out) : out.length ≤ l.length := sub_len (h.rise.imp fun h => by omega) h.sub
theorem Srt.add {l out : List Int} (h : Srt l out) {x : Int} (hx : x ∈ l) (hn : x ∉ out) (hm : ∀ y, y ∈ l → y ∉ out → x ≤ y) : Srt l (out ++ [x]) := by
  refine ⟨List.pairwise_append.2 ⟨h.rise, by simp, fun a ha b hb => ?_⟩, fun y hy => ?_, fun y hy hny z hz => ?_⟩
  · have : b = x := by simpa using hb
    subst this
    exact h.low _ hx hn a ha
  · rcases List.mem_append.1 hy with hy | hy
    · exact h.sub y hy
    · have : y = x := by simpa using hy
      subst this; exact hx
  · have h1 : y ∉ out := fun e => hny (List.mem_append_left _ e)
    have h2 : y ≠ x := fun e => hny (by simp [e])
    rcases List.mem_append.1 hz with hz | hz
    · exact h.low y hy h1 z hz
    · have : z = x := by simpa using hz
      subst this
      have := hm y hy h1
      omega
theorem Srt.all {l out : List Int} (h : Srt l out) (ha : ∀ y, y ∈ l → y ∈ out) : out = srtI l :=
  rise_unique h.rise (rise_srtI l) fun x => by rw [mem_srtI]; exact ⟨h.sub x, ha x⟩
/-- the best so far -/
def Bst (l out : List Int) (i : Nat) (b : Int) : Prop := (b = -1 ∧ ∀ x, x ∈ l.take i → x ∈ out) ∨ ∃ (j : Nat) (x : Int), b = (j : Int) ∧ j < i ∧ l[j]? = some x ∧ x ∉ out ∧ ∀ y, y ∈ l.take i → y ∉ out → x ≤ y
theorem Bst.skip {l out : List Int} {i : Nat} {b x : Int} (h : Bst l out i b) (hx : l[i]? = some x) (hn : x ∈ out) : Bst l out (i + 1) b := by
  rcases h with ⟨h1, h2⟩ | ⟨j, y, h1, h2, h3, h4, h5⟩
  · refine .inl ⟨h1, fun z hz => ?_⟩
    rw [takeW hx] at hz
    rcases List.mem_append.1 hz with hz | hz
    · exact h2 z hz
    · have : z = x := by simpa using hz
      subst this; exact hn
  · refine .inr ⟨j, y, h1, by omega, h3, h4, fun z hz hnz => ?_⟩
    rw [takeW hx] at hz
    rcases List.mem_append.1 hz with hz | hz
    · exact h5 z hz hnz
    · have : z = x := by simpa using hz
      subst this; exact absurd hn hnz
theorem Bst.keep {l out : List Int} {i j : Nat} {x y : Int} (h : Bst l out i (j : Int)) (hx : l[i]? = some x) (hj : l[j]? = some y) (hle : ¬ x < y) : Bst l out (i + 1) (j : Int) := by
  rcases h with ⟨h1, h2⟩ | ⟨j', y', h1, h2, h3, h4, h5⟩
  · omega
  · have : j' = j := by omega
    subst this
    rw [hj] at h3
    cases h3
    refine .inr ⟨j', y, rfl, by omega, hj, h4, fun z hz hnz => ?_⟩
    rw [takeW hx] at hz
    rcases List.mem_append.1 hz with hz | hz
    · exact h5 z hz hnz
    · have : z = x := by simpa using hz
      subst this; omega
theorem Bst.new {l out : List Int} {i : Nat} {b x : Int} (h : Bst l out i b) (hx : l[i]? = some x) (hn : x ∉ out) (hlt : ∀ (j : Nat) (y : Int), b = (j : Int) → l[j]? = some y → x < y) : Bst l out (i + 1) (i : Int) := by
  refine .inr ⟨i, x, rfl, by omega, hx, hn, fun z hz hnz => ?_⟩
  rw [takeW hx] at hz
  rcases List.mem_append.1 hz with hz | hz
  · rcases h with ⟨h1, h2⟩ | ⟨j, y, h1, h2, h3, h4, h5⟩
    · exact absurd (h2 z hz) hnz
    · have := hlt j y h1 h3
      have := h5 z hz hnz
      omega
  · have : z = x := by simpa using hz
    subst this; omega
end
section
/-
  The document's Reach and Stuck, walked.
-/
open Go.RowKit
set_option linter.unusedVariables false
set_option linter.unusedSimpArgs false
set_option maxRecDepth 100000
attribute [local go_sem ↓] runOp headOp
/-! ### percolate/percolateref13.Reach -/
/-! ### percolate/percolateref13.Stuck -/
theorem atE {l : List Edge} {j : Nat} {e : Edge} (h : l[j]? = some e) : (l.map edA).getD j .und = .agg [.int .i64 e.1, .int .i64 e.2] := by
  rw [List.getD_eq_getElem?_getD, List.getElem?_map, h]; rfl
/-- who is found so far -/
structure Stk (l : List Edge) (i : Nat) (out : List Int) : Prop where
  nodup : out.Nodup
  sub : ∀ x, x ∈ out → x ∈ (l.take i).map (·.1) ∧ TC l x x
  all : ∀ x, x ∈ (l.take i).map (·.1) → TC l x x → x ∈ out
theorem Stk.len {l : List Edge} {i : Nat} {out : List Int} (h : Stk l i out) : out.length ≤ i := by
  have := sub_len h.nodup fun x hx => (h.sub x hx).1
  rw [List.length_map, List.length_take] at this
  omega
theorem mem_takeW {l : List Edge} {i : Nat} {e : Edge} (he : l[i]? = some e) {x : Int} : x ∈ (l.take (i + 1)).map (·.1) ↔ x ∈ (l.take i).map (·.1) ∨ x = e.1 := by
  rw [takeW he, List.map_append, List.mem_append]; simp
theorem Stk.skip {l : List Edge} {i : Nat} {out : List Int} (h : Stk l i out) {e : Edge} (he : l[i]? = some e) (hs : e.1 ∈ out ∨ ¬ TC l e.1 e.1) : Stk l (i + 1) out := by
  refine ⟨h.nodup, fun x hx => ⟨(mem_takeW he).2 (.inl (h.sub x hx).1), (h.sub x hx).2⟩, fun x hx htc => ?_⟩
  rcases (mem_takeW he).1 hx with h1 | h1
  · exact h.all x h1 htc
  · subst h1
    rcases hs with hs | hs
    · exact hs
    · exact absurd htc hs
theorem Stk.add {l : List Edge} {i : Nat} {out : List Int} (h : Stk l i out) {e : Edge} (he : l[i]? = some e) (hn : e.1 ∉ out) (hs : TC l e.1 e.1) : Stk l (i + 1) (out ++ [e.1]) := by
  refine ⟨List.nodup_append.2 ⟨h.nodup, by simp, fun x hx y hy e' => ?_⟩, fun x hx => ?_, fun x hx htc => ?_⟩
  · have : y = e.1 := by simpa using hy
    subst this; subst e'; exact hn hx
  · rcases List.mem_append.1 hx with hx | hx
    · exact ⟨(mem_takeW he).2 (.inl (h.sub x hx).1), (h.sub x hx).2⟩
    · have : x = e.1 := by simpa using hx
      subst this; exact ⟨(mem_takeW he).2 (.inr rfl), hs⟩
  · rcases (mem_takeW he).1 hx with h1 | h1
    · exact List.mem_append_left _ (h.all x h1 htc)
    · rw [h1]; simp
end
section
/-
  The chapter's example and the laws, walked.
-/
open Go.RowKit
set_option linter.unusedVariables false
set_option linter.unusedSimpArgs false
set_option maxRecDepth 100000
attribute [local go_sem ↓] runOp headOp
/-! ### percolate/waits.Against -/
def t_agn_0 : List ROp := [⟨(.box 3 33 (.t 0)), (some 2), none, [3], []⟩, ⟨(.box 3 33 (.t 1)), (some 3), none, [], []⟩, ⟨(.mv (.c (.bool false))), (some 4), none, [], []⟩]
def r_agn_0 : Reg := ⟨[], t_agn_0, [2, 3], [], false⟩
def t_agn_1 : List ROp := [⟨(.faddr 1 (.t 2)), (some 5), none, [], []⟩, ⟨(.load 1 false (.t 5)), (some 6), none, [], []⟩, ⟨(.faddr 1 (.t 3)), (some 7), none, [], []⟩, ⟨(.load 1 false (.t 7)), (some 8), none, [], []⟩, ⟨(.bin .eql (.t 6) (.t 8)), (some 9), none, [], []⟩, ⟨(.mv (.t 9)), (some 10), none, [], []⟩, ⟨(.faddr 0 (.t 2)), (some 11), (some (10, true)), [], []⟩, ⟨(.load 1 false (.t 11)), (some 12), (some (10, true)), [], []⟩, ⟨(.faddr 0 (.t 3)), (some 13), (some (10, true)), [], []⟩, ⟨(.load 1 false (.t 13)), (some 14), (some (10, true)), [], []⟩, ⟨(.bin .neq (.t 12) (.t 14)), (some 15), (some (10, true)), [], []⟩, ⟨(.pick (.t 10) (.t 15) (.c (.bool false))), (some 16), none, [], []⟩, ⟨(.mv (.t 16)), (some 17), none, [], []⟩, ⟨(.faddr 2 (.t 2)), (some 18), (some (17, true)), [], []⟩, ⟨(.load 1 false (.t 18)), (some 19), (some (17, true)), [], []⟩, ⟨(.mv (.t 19)), (some 20), (some (17, true)), [], []⟩, ⟨(.faddr 2 (.t 3)), (some 21), (some (20, false)), [], []⟩, ⟨(.load 1 false (.t 21)), (some 22), (some (20, false)), [], []⟩, ⟨(.pick (.t 20) (.c (.bool true)) (.t 22)), (some 23), (some (17, true)), [], []⟩, ⟨(.pick (.t 17) (.t 23) (.c (.bool false))), (some 24), none, [], []⟩, ⟨(.mv (.t 24)), (some 4), none, [], []⟩]
def r_agn_1 : Reg := ⟨[], t_agn_1, [], [], false⟩
def ir_agn : IR := (.seq (.reg r_agn_0)
  (.seq (.reg r_agn_1)
  .ret))
def res_agn : List RDesc := [(.tmp 4)]
theorem e_agn_0 (C : FuncId → List AV → AV → Prop) (σ : St) (K : St → Prop) : runReg C r_agn_0 σ K = runOps C t_agn_0 (σ.kills [2, 3]) K := rfl
theorem e_agn_1 (C : FuncId → List AV → AV → Prop) (σ : St) (K : St → Prop) : runReg C r_agn_1 σ K = runOps C t_agn_1 (σ.kills []) K := rfl
theorem fn_agn {args : List AV} {r : AV} (ha : args.length.ble Try.f11.ntmps = true) (h : run (AFn Try.prog) ir_agn (endQ res_agn r) (initSt args)) : AFn Try.prog 11 args r :=
  AFn.of_code (pv := false) (hint := fun _ => []) (c := Try.f11.body.getD .skip) (by kernel_rfl) (by kernel_rfl) Try.func11 (by kernel_rfl) (by kernel_rfl) (by kernel_rfl) (of_decide_eq_true (by kernel_rfl)) (Nat.le_of_ble_eq_true ha) (Nat.le_of_ble_eq_true (by kernel_rfl)) (run_ok h)
/-! ### percolate/percolatelaw13.awake -/
def r_aw13_0 : Reg := ⟨[], [⟨(.mv (.c (.bool false))), (some 0), none, [], []⟩], [], [], false⟩
def t_aw13_1 : List ROp := [⟨(.bld [(.int .i64 0), (.int .i64 0)] [⟨0, 1, (.c (.int .i64 0))⟩, ⟨1, 1, (.c (.int .i64 1))⟩]), (some 2), none, [5], []⟩, ⟨(.bld [(.int .i64 0), (.int .i64 0)] [⟨0, 1, (.c (.int .i64 1))⟩, ⟨1, 1, (.c (.int .i64 2))⟩]), (some 3), none, [5], []⟩, ⟨(.bld [(.int .i64 0), (.int .i64 0)] [⟨0, 1, (.c (.int .i64 2))⟩, ⟨1, 1, (.c (.int .i64 1))⟩]), (some 4), none, [5], []⟩, ⟨(.bsl 2 29 [(.t 2), (.t 3), (.t 4)]), (some 5), none, [], []⟩, ⟨(.mv (.t 5)), (some 1), none, [], []⟩]
def r_aw13_1 : Reg := ⟨[], t_aw13_1, [5], [], false⟩
def t_aw13_2 : List ROp := [⟨(.mv (.t 1)), (some 6), none, [7, 8, 9, 12, 13, 14, 19], []⟩, ⟨(.callv (.c (.clo 9 [] [])) [(.t 6)]), (some 7), none, [8, 9, 12, 13, 14, 19], []⟩, ⟨(.bsl 1 3 [(.c (.int .i64 1)), (.c (.int .i64 2))]), (some 8), none, [9, 12, 13, 14, 19], []⟩, ⟨(.callv (.c (.clo 6 [] [])) [(.t 7), (.t 8)]), (some 9), none, [12, 13, 14, 19], []⟩, ⟨(.mv (.t 9)), (some 10), none, [12, 13, 14, 19], []⟩, ⟨(.mv (.t 1)), (some 11), (some (10, true)), [12, 13, 14, 19], []⟩, ⟨(.callv (.c (.clo 7 [] [])) [(.t 11), (.c (.int .i64 0))]), (some 12), (some (10, true)), [13, 14, 19], []⟩, ⟨(.bsl 1 3 [(.c (.int .i64 1)), (.c (.int .i64 2))]), (some 13), (some (10, true)), [14, 19], []⟩, ⟨(.callv (.c (.clo 6 [] [])) [(.t 12), (.t 13)]), (some 14), (some (10, true)), [19], []⟩, ⟨(.pick (.t 10) (.t 14) (.c (.bool false))), (some 15), none, [19], []⟩, ⟨(.mv (.t 15)), (some 16), none, [19], []⟩, ⟨(.bld [(.int .i64 0), (.int .i64 0), (.bool false)] [⟨0, 1, (.c (.int .i64 1))⟩, ⟨2, 1, (.c (.bool true))⟩]), (some 17), (some (16, true)), [19], []⟩, ⟨(.bld [(.int .i64 0), (.int .i64 0), (.bool false)] []), (some 18), (some (16, true)), [19], []⟩, ⟨(.callv (.c (.clo 11 [] [])) [(.t 17), (.t 18)]), (some 19), (some (16, true)), [], []⟩, ⟨(.pick (.t 16) (.t 19) (.c (.bool false))), (some 20), none, [], []⟩, ⟨(.mv (.t 20)), (some 0), none, [], []⟩]
def r_aw13_2 : Reg := ⟨[], t_aw13_2, [7, 8, 9, 12, 13, 14, 19], [], false⟩
def ir_aw13 : IR := (.seq (.reg r_aw13_0)
  (.seq (.reg r_aw13_1)
  (.seq (.reg r_aw13_2)
  .ret)))
def res_aw13 : List RDesc := [(.tmp 0)]
theorem e_aw13_0 (C : FuncId → List AV → AV → Prop) (σ : St) (K : St → Prop) : runReg C r_aw13_0 σ K = runOps C [⟨(.mv (.c (.bool false))), (some 0), none, [], []⟩] (σ.kills []) K := rfl
theorem e_aw13_1 (C : FuncId → List AV → AV → Prop) (σ : St) (K : St → Prop) : runReg C r_aw13_1 σ K = runOps C t_aw13_1 (σ.kills [5]) K := rfl
theorem e_aw13_2 (C : FuncId → List AV → AV → Prop) (σ : St) (K : St → Prop) : runReg C r_aw13_2 σ K = runOps C t_aw13_2 (σ.kills [7, 8, 9, 12, 13, 14, 19]) K := rfl
theorem fn_aw13 {args : List AV} {r : AV} (ha : args.length.ble Try.f5.ntmps = true) (h : run (AFn Try.prog) ir_aw13 (endQ res_aw13 r) (initSt args)) : AFn Try.prog 5 args r :=
  AFn.of_code (pv := false) (hint := fun _ => []) (c := Try.f5.body.getD .skip) (by kernel_rfl) (by kernel_rfl) Try.func5 (by kernel_rfl) (by kernel_rfl) (by kernel_rfl) (of_decide_eq_true (by kernel_rfl)) (Nat.le_of_ble_eq_true ha) (Nat.le_of_ble_eq_true (by kernel_rfl)) (run_ok h)
/-! ### percolate/percolatelaw13.WaitsStuck -/
/-! ### percolate/percolatelaw13.WaitsOrdered -/
def r_law2_0 : Reg := ⟨[], [⟨(.mv (.c (.bool false))), (some 2), none, [], []⟩], [], [], false⟩
def t_law2_1 : List ROp := [⟨(.mv (.t 0)), (some 6), none, [], []⟩, ⟨(.len false (.t 6)), (some 7), none, [], []⟩, ⟨(.bin .gtr (.t 7) (.c (.int .i64 200))), (some 8), none, [], []⟩]
def r_law2_1 : Reg := ⟨[], t_law2_1, [], [], false⟩
def r_law2_2 : Reg := ⟨[], [⟨(.callv (.c (.clo 5 [] [])) []), (some 9), none, [], []⟩, ⟨(.mv (.t 9)), (some 2), none, [], []⟩], [9], [], false⟩
def r_law2_3 : Reg := ⟨[], [⟨(.mknil 2 29), (some 3), none, [], []⟩], [3], [], false⟩
def t_law2_4 : List ROp := [⟨(.mv (.t 0)), (some 10), none, [], []⟩, ⟨(.len false (.t 10)), (some 11), none, [], []⟩, ⟨(.mv (.c (.int .i64 0))), (some 12), none, [], []⟩]
def r_law2_4 : Reg := ⟨[], t_law2_4, [], [], false⟩
def r_law2_5 : Reg := ⟨[], [⟨(.bin .lss (.t 12) (.t 11)), (some 13), none, [], []⟩], [], [], false⟩
def t_law2_6 : List ROp := [⟨(.iaddr 2 (.t 10) (.t 12)), (some 14), none, [5], []⟩, ⟨(.load 2 true (.t 14)), (some 15), none, [5], []⟩, ⟨(.alloc 2 29 (.agg [(.int .i64 0), (.int .i64 0)])), (some 5), none, [], []⟩, ⟨(.store 2 (.t 5) (.t 15)), none, none, [], []⟩]
def r_law2_6 : Reg := ⟨[], t_law2_6, [5], [], false⟩
def t_law2_7 : List ROp := [⟨(.faddr 0 (.t 5)), (some 16), none, [], []⟩, ⟨(.load 1 false (.t 16)), (some 17), none, [], []⟩, ⟨(.faddr 1 (.t 5)), (some 18), none, [], []⟩, ⟨(.load 1 false (.t 18)), (some 19), none, [], []⟩, ⟨(.bin .lss (.t 17) (.t 19)), (some 20), none, [], []⟩]
def r_law2_7 : Reg := ⟨[], t_law2_7, [], [], false⟩
def t_law2_8 : List ROp := [⟨(.mv (.t 3)), (some 21), none, [23], []⟩, ⟨(.load 2 true (.t 5)), (some 22), none, [23], []⟩, ⟨(.bsl 2 29 [(.t 22)]), (some 23), none, [], []⟩, ⟨(.append 2 29 16 (.t 21) (.t 23)), (some 24), none, [], []⟩, ⟨(.mv (.t 24)), (some 3), none, [], []⟩]
def r_law2_8 : Reg := ⟨[], t_law2_8, [23], [], false⟩
def r_law2_9 : Reg := ⟨[], [⟨(.bin .add (.t 12) (.c (.int .i64 1))), (some 25), none, [], []⟩, ⟨(.mv (.t 25)), (some 12), none, [], []⟩], [], [], false⟩
def r_law2_l10 : IR := (.seq (.reg r_law2_5)
  (.seq (.cond (.t 13) .skip
  (.exit 0))
  (.seq (.block 1 (.seq (.reg r_law2_6)
  (.seq (.reg r_law2_7)
  (.cond (.t 20) (.reg r_law2_8)
  .skip))))
  (.reg r_law2_9))))
def t_law2_11 : List ROp := [⟨(.mv (.t 3)), (some 26), none, [27, 31], []⟩, ⟨(.callv (.c (.clo 9 [] [])) [(.t 26)]), (some 27), none, [31], []⟩, ⟨(.len false (.t 27)), (some 28), none, [31], []⟩, ⟨(.bin .eql (.t 28) (.c (.int .i64 0))), (some 29), none, [31], []⟩, ⟨(.mv (.t 29)), (some 30), none, [31], []⟩, ⟨(.callv (.c (.clo 5 [] [])) []), (some 31), (some (30, true)), [], []⟩, ⟨(.pick (.t 30) (.t 31) (.c (.bool false))), (some 32), none, [], []⟩, ⟨(.mv (.t 32)), (some 2), none, [], []⟩]
def r_law2_11 : Reg := ⟨[], t_law2_11, [27, 31], [], false⟩
def ir_law2 : IR := (.seq (.reg r_law2_0)
  (.seq (.seq (.reg r_law2_1)
  (.cond (.t 8) (.seq (.reg r_law2_2)
  .ret)
  .skip))
  (.seq (.reg r_law2_3)
  (.seq (.seq (.reg r_law2_4)
  (.block 0 (.loop r_law2_l10)))
  (.seq (.reg r_law2_11)
  .ret)))))
def res_law2 : List RDesc := [(.tmp 2)]
theorem e_law2_0 (C : FuncId → List AV → AV → Prop) (σ : St) (K : St → Prop) : runReg C r_law2_0 σ K = runOps C [⟨(.mv (.c (.bool false))), (some 2), none, [], []⟩] (σ.kills []) K := rfl
theorem e_law2_1 (C : FuncId → List AV → AV → Prop) (σ : St) (K : St → Prop) : runReg C r_law2_1 σ K = runOps C t_law2_1 (σ.kills []) K := rfl
theorem e_law2_2 (C : FuncId → List AV → AV → Prop) (σ : St) (K : St → Prop) : runReg C r_law2_2 σ K = runOps C [⟨(.callv (.c (.clo 5 [] [])) []), (some 9), none, [], []⟩, ⟨(.mv (.t 9)), (some 2), none, [], []⟩] (σ.kills [9]) K := rfl
theorem e_law2_3 (C : FuncId → List AV → AV → Prop) (σ : St) (K : St → Prop) : runReg C r_law2_3 σ K = runOps C [⟨(.mknil 2 29), (some 3), none, [], []⟩] (σ.kills [3]) K := rfl
theorem e_law2_4 (C : FuncId → List AV → AV → Prop) (σ : St) (K : St → Prop) : runReg C r_law2_4 σ K = runOps C t_law2_4 (σ.kills []) K := rfl
theorem e_law2_5 (C : FuncId → List AV → AV → Prop) (σ : St) (K : St → Prop) : runReg C r_law2_5 σ K = runOps C [⟨(.bin .lss (.t 12) (.t 11)), (some 13), none, [], []⟩] (σ.kills []) K := rfl
theorem e_law2_6 (C : FuncId → List AV → AV → Prop) (σ : St) (K : St → Prop) : runReg C r_law2_6 σ K = runOps C t_law2_6 (σ.kills [5]) K := rfl
theorem e_law2_7 (C : FuncId → List AV → AV → Prop) (σ : St) (K : St → Prop) : runReg C r_law2_7 σ K = runOps C t_law2_7 (σ.kills []) K := rfl
theorem e_law2_8 (C : FuncId → List AV → AV → Prop) (σ : St) (K : St → Prop) : runReg C r_law2_8 σ K = runOps C t_law2_8 (σ.kills [23]) K := rfl
theorem e_law2_9 (C : FuncId → List AV → AV → Prop) (σ : St) (K : St → Prop) : runReg C r_law2_9 σ K = runOps C [⟨(.bin .add (.t 12) (.c (.int .i64 1))), (some 25), none, [], []⟩, ⟨(.mv (.t 25)), (some 12), none, [], []⟩] (σ.kills []) K := rfl
theorem e_law2_11 (C : FuncId → List AV → AV → Prop) (σ : St) (K : St → Prop) : runReg C r_law2_11 σ K = runOps C t_law2_11 (σ.kills [27, 31]) K := rfl
theorem fn_law2 {args : List AV} {r : AV} (ha : args.length.ble Try.f4.ntmps = true) (h : run (AFn Try.prog) ir_law2 (endQ res_law2 r) (initSt args)) : AFn Try.prog 4 args r :=
  AFn.of_code (pv := false) (hint := fun _ => []) (c := Try.f4.body.getD .skip) (by kernel_rfl) (by kernel_rfl) Try.func4 (by kernel_rfl) (by kernel_rfl) (by kernel_rfl) (of_decide_eq_true (by kernel_rfl)) (Nat.le_of_ble_eq_true ha) (Nat.le_of_ble_eq_true (by kernel_rfl)) (run_ok h)
attribute [local go_sem ↓] ir_agn
attribute [local go_sem] res_agn e_agn_0 t_agn_0 e_agn_1 t_agn_1
attribute [local go_sem ↓] ir_aw13
attribute [local go_sem] res_aw13 e_aw13_0 e_aw13_1 t_aw13_1 e_aw13_2 t_aw13_2
attribute [local go_sem ↓] ir_law2
attribute [local go_sem] res_law2 e_law2_0 e_law2_1 t_law2_1 e_law2_2 e_law2_3 e_law2_4 t_law2_4 e_law2_5 e_law2_6 t_law2_6 e_law2_7 t_law2_7 e_law2_8 t_law2_8 e_law2_9 e_law2_11 t_law2_11
/-- edges of Go's ints -/
def EdOk (l : List Edge) : Prop := ∀ e, e ∈ l → I64 e.1 ∧ I64 e.2
theorem Reach_ok (l : List Edge) (a : Int) (hl : l.length ≤ 400000) (hi : EdOk l) : AFn Try.prog 7 [.sl (l.map edA), .int .i64 a] (.sl ((reachL l a).map (AV.int .i64))) := by
  refine ⟨by kernel_rfl, fun w Pr vs hG hPr hlen hvs => ?_⟩
  match vs, hlen with
  | [v0, v1], _ =>
    obtain ⟨A, cap, rfl, h1, h2, hE⟩ := EdAt.of (hvs 0 _ v0 rfl rfl)
    obtain rfl := VR.int_of (hvs 1 _ v1 rfl rfl)
    refine (Reach_any l a hl (fun e he => (hi e he).2) A cap w hG hE).mono ?_
    rintro e w' ⟨v, rfl, hB, hrow⟩
    exact ⟨_, rfl, hB, row_vr hrow fun b o hb => .inr hb⟩
theorem Stuck_ok (l : List Edge) (hl : l.length ≤ 400000) (hi : EdOk l) : AFn Try.prog 9 [.sl (l.map edA)] (.sl ((stuckL l).map (AV.int .i64))) := by
  refine ⟨by kernel_rfl, fun w Pr vs hG hPr hlen hvs => ?_⟩
  match vs, hlen with
  | [v0], _ =>
    obtain ⟨A, cap, rfl, h1, h2, hE⟩ := EdAt.of (hvs 0 _ v0 rfl rfl)
    refine (Stuck_any l hl (fun e he => (hi e he).1) A cap w hG hE).mono ?_
    rintro e w' ⟨v, rfl, hB, hV⟩
    exact ⟨_, rfl, hB, hV.kept ⟨Nat.le_refl _, fun _ _ _ h => .inr h, fun _ _ _ _ => rfl, fun _ _ _ _ _ e => e⟩⟩
def lW : List Edge := [(0, 1), (1, 2), (2, 1)]
theorem lW_ok : EdOk lW := by
  intro e he
  rcases List.mem_cons.1 he with h | he
  · subst h; exact ⟨by unfold I64; decide, by unfold I64; decide⟩
  rcases List.mem_cons.1 he with h | he
  · subst h; exact ⟨by unfold I64; decide, by unfold I64; decide⟩
  rw [List.mem_singleton.1 he]
  exact ⟨by unfold I64; decide, by unfold I64; decide⟩
theorem agn_ok : AFn Try.prog 11 [.agg [.int .i64 1, .int .i64 0, .bool true], .agg [.int .i64 0, .int .i64 0, .bool false]] (.bool true) := by
  refine fn_agn rfl ?_
  simp (maxSteps := 4000000) only [go_sem, ↓reduceIte, reduceCtorEq, Nat.reduceEqDiff, Nat.reduceBEq, Nat.reduceAdd, Nat.reduceSub, Nat.reduceMul, Nat.reduceLT, Nat.reduceLeDiff, Nat.reduceBNe, Int.reduceBEq, Int.reduceBNe, Int.reduceLT, Int.reduceLE, edA]
theorem aw13_ok : AFn Try.prog 5 [] (.bool true) := by
  refine fn_aw13 rfl ?_
  have c1 := Stuck_ok lW (by decide) lW_ok
  have c2 := Reach_ok lW 0 (by decide) lW_ok
  have e1 : stuckL lW = [1, 2] := by decide
  have e2 : reachL lW 0 = [1, 2] := by decide
  rw [e1] at c1
  rw [e2] at c2
  have c3 := wints_ok [1, 2] [1, 2] (by decide) (by decide)
  rw [eqW_self] at c3
  have c4 := agn_ok
  simp only [lW, List.map_cons, List.map_nil, edA] at c1 c2 c3
  (repeat (first | simp (maxSteps := 4000000) only [go_sem, ↓reduceIte, reduceCtorEq, Nat.reduceEqDiff, Nat.reduceBEq, Nat.reduceAdd, Nat.reduceSub, Nat.reduceMul, Nat.reduceLT, Nat.reduceLeDiff, Nat.reduceBNe, Int.reduceBEq, Int.reduceBNe, Int.reduceLT, Int.reduceLE, edA, List.length_map] | refine calling (c1) ?_ | refine callingH (c1) ?_ | refine calling (c2) ?_ | refine callingH (c2) ?_ | refine calling (c3) ?_ | refine callingH (c3) ?_ | refine calling (c4) ?_ | refine callingH (c4) ?_ | refine And.intro (by omega) ?_ | refine And.intro (fun d hd => by (repeat (rcases hd with rfl | hd; · exact ⟨rfl, rfl⟩)); cases hd) ?_))
def upE (l : List Edge) : List Edge := l.filter fun e => decide (e.1 < e.2)
def law2Inv (l : List Edge) (k : Nat) (σ : St) : Prop :=
  ∃ (i p : Nat), i ≤ l.length ∧ k = l.length - i ∧ p ≤ (upE (l.take i)).length ∧ σ.T 10 = .sl (l.map edA) ∧ σ.T 11 = .int .i64 l.length ∧ σ.T 12 = .int .i64 i ∧ σ.T 3 = .rs 3 0 (upE (l.take i)).length ∧ σ.H 3 = some ⟨2, 29, (upE (l.take i)).map edA, p⟩
theorem law2_ok (l : List Edge) (hi : EdOk l) : AFn Try.prog 4 [.sl (l.map edA)] (.bool true) := by
  refine fn_law2 rfl ?_
  have c0 := aw13_ok
  by_cases hl : l.length ≤ 200
  case neg =>
    have hl' : (200 : Int) < (l.length : Int) := by omega
    (repeat (first | simp (maxSteps := 4000000) only [go_sem, ↓reduceIte, reduceCtorEq, Nat.reduceEqDiff, Nat.reduceBEq, Nat.reduceAdd, Nat.reduceSub, Nat.reduceMul, Nat.reduceLT, Nat.reduceLeDiff, Nat.reduceBNe, Int.reduceBEq, Int.reduceBNe, Int.reduceLT, Int.reduceLE, edA, hl', List.length_map] | refine calling (c0) ?_ | refine callingH (c0) ?_ | refine And.intro (by omega) ?_ | refine And.intro (fun d hd => by (repeat (rcases hd with rfl | hd; · exact ⟨rfl, rfl⟩)); cases hd) ?_))
  have hl' : ¬ (200 : Int) < (l.length : Int) := by omega
  simp (maxSteps := 4000000) only [go_sem, ↓reduceIte, reduceCtorEq, Nat.reduceEqDiff, Nat.reduceBEq, Nat.reduceAdd, Nat.reduceSub, Nat.reduceMul, Nat.reduceLT, Nat.reduceLeDiff, Nat.reduceBNe, Int.reduceBEq, Int.reduceBNe, Int.reduceLT, Int.reduceLE, edA, hl', List.length_map]
  refine run_loop (law2Inv l) (k := l.length) ⟨0, 0, Nat.zero_le _, rfl, Nat.zero_le _, ?_, ?_, ?_, ?_, ?_⟩ ?_
  · (simp (maxSteps := 4000000) only [go_sem, ↓reduceIte, reduceCtorEq, Nat.reduceEqDiff, Nat.reduceBEq, Nat.reduceAdd, Nat.reduceSub, Nat.reduceMul, Nat.reduceLT, Nat.reduceLeDiff, Nat.reduceBNe, Int.reduceBEq, Int.reduceBNe, Int.reduceLT, Int.reduceLE, edA]) <;> rfl
  · (simp (maxSteps := 4000000) only [go_sem, ↓reduceIte, reduceCtorEq, Nat.reduceEqDiff, Nat.reduceBEq, Nat.reduceAdd, Nat.reduceSub, Nat.reduceMul, Nat.reduceLT, Nat.reduceLeDiff, Nat.reduceBNe, Int.reduceBEq, Int.reduceBNe, Int.reduceLT, Int.reduceLE, edA, List.length_map]) <;> rfl
  · (simp (maxSteps := 4000000) only [go_sem, ↓reduceIte, reduceCtorEq, Nat.reduceEqDiff, Nat.reduceBEq, Nat.reduceAdd, Nat.reduceSub, Nat.reduceMul, Nat.reduceLT, Nat.reduceLeDiff, Nat.reduceBNe, Int.reduceBEq, Int.reduceBNe, Int.reduceLT, Int.reduceLE, edA]) <;> rfl
  · (simp (maxSteps := 4000000) only [go_sem, ↓reduceIte, reduceCtorEq, Nat.reduceEqDiff, Nat.reduceBEq, Nat.reduceAdd, Nat.reduceSub, Nat.reduceMul, Nat.reduceLT, Nat.reduceLeDiff, Nat.reduceBNe, Int.reduceBEq, Int.reduceBNe, Int.reduceLT, Int.reduceLE, edA]) <;> rfl
  · (simp (maxSteps := 4000000) only [go_sem, ↓reduceIte, reduceCtorEq, Nat.reduceEqDiff, Nat.reduceBEq, Nat.reduceAdd, Nat.reduceSub, Nat.reduceMul, Nat.reduceLT, Nat.reduceLeDiff, Nat.reduceBNe, Int.reduceBEq, Int.reduceBNe, Int.reduceLT, Int.reduceLE, edA]) <;> rfl
  rintro k σ ⟨i, p, hik, rfl, hp, t10, t11, t12, t3, h3⟩
  simp only [r_law2_l10]
  have hul : (upE (l.take i)).length ≤ 200 := by
    have h1 : (upE (l.take i)).length ≤ (l.take i).length := List.length_filter_le _ _
    rw [List.length_take] at h1
    omega
  have tk : List.take (upE (l.take i)).length ((upE (l.take i)).map edA) = (upE (l.take i)).map edA := List.take_of_length_le (by simp)
  by_cases hlt : i < l.length
  case neg =>
    have hlt' : ¬ (i : Int) < (l.length : Int) := by omega
    have e1 : l.take i = l := List.take_of_length_le (by omega)
    rw [e1] at hul tk hp t3 h3
    have hu : ∀ e, e ∈ upE l → e.1 < e.2 := fun e he => by
      have := (List.mem_filter.1 he).2
      simpa using this
    have c1 := Stuck_ok (upE l) (by omega) fun e he => hi e ((List.mem_filter.1 he).1)
    rw [stuck_up hu] at c1
    have hz : (((0 : Nat) : Int) == 0) = true := rfl
    (repeat (first | simp (maxSteps := 4000000) only [go_sem, ↓reduceIte, reduceCtorEq, Nat.reduceEqDiff, Nat.reduceBEq, Nat.reduceAdd, Nat.reduceSub, Nat.reduceMul, Nat.reduceLT, Nat.reduceLeDiff, Nat.reduceBNe, Int.reduceBEq, Int.reduceBNe, Int.reduceLT, Int.reduceLE, edA, t10, t11, t12, t3, h3, tk, hlt', hz, List.length_map] | refine calling (c1) ?_ | refine callingH (c1) ?_ | refine calling (c0) ?_ | refine callingH (c0) ?_ | refine And.intro (by omega) ?_ | refine And.intro (fun d hd => by (repeat (rcases hd with rfl | hd; · exact ⟨rfl, rfl⟩)); cases hd) ?_))
  have hlt' : (i : Int) < (l.length : Int) := by omega
  obtain ⟨e, he⟩ := getW hlt
  have hge := atE he
  have hw := wrapW (j := i) (by omega)
  have z0 : (0 : Int) ≤ (i : Int) := Int.natCast_nonneg _
  by_cases hu : e.1 < e.2
  · have hn : upE (l.take (i + 1)) = upE (l.take i) ++ [e] := by unfold upE; rw [takeW he, List.filter_append]; simp [hu]
    simp (maxSteps := 4000000) only [go_sem, ↓reduceIte, reduceCtorEq, Nat.reduceEqDiff, Nat.reduceBEq, Nat.reduceAdd, Nat.reduceSub, Nat.reduceMul, Nat.reduceLT, Nat.reduceLeDiff, Nat.reduceBNe, Int.reduceBEq, Int.reduceBNe, Int.reduceLT, Int.reduceLE, edA, t10, t11, t12, t3, h3, tk, hlt', hlt, hge, hw, z0, hu, Int.toNat_natCast, List.length_map]
    have one : ∀ d : AV, d = AV.agg [.int .i64 e.1, .int .i64 e.2] ∨ False → d.cells.length = 2 ∧ d.cells.all AV.one = true := fun d hd => by
      rcases hd with rfl | hd
      · exact ⟨rfl, rfl⟩
      · cases hd
    have hml : (upE (l.take (i + 1))).length = (upE (l.take i)).length + 1 := by rw [hn]; exact List.length_append
    have hmm : (upE (l.take (i + 1))).map edA = (upE (l.take i)).map edA ++ [AV.agg [.int .i64 e.1, .int .i64 e.2]] := by rw [hn]; exact List.map_append
    refine ⟨⟨hp, ⟨by omega, by omega⟩, one⟩, l.length - (i + 1), by omega, i + 1, p, by omega, rfl, by rw [hml]; omega, ?_, ?_, ?_, ?_, ?_⟩
    · simp (maxSteps := 4000000) only [go_sem, ↓reduceIte, reduceCtorEq, Nat.reduceEqDiff, Nat.reduceBEq, Nat.reduceAdd, Nat.reduceSub, Nat.reduceMul, Nat.reduceLT, Nat.reduceLeDiff, Nat.reduceBNe, Int.reduceBEq, Int.reduceBNe, Int.reduceLT, Int.reduceLE, edA, t10]
    · simp (maxSteps := 4000000) only [go_sem, ↓reduceIte, reduceCtorEq, Nat.reduceEqDiff, Nat.reduceBEq, Nat.reduceAdd, Nat.reduceSub, Nat.reduceMul, Nat.reduceLT, Nat.reduceLeDiff, Nat.reduceBNe, Int.reduceBEq, Int.reduceBNe, Int.reduceLT, Int.reduceLE, edA, t11]
    · simp (maxSteps := 4000000) only [go_sem, ↓reduceIte, reduceCtorEq, Nat.reduceEqDiff, Nat.reduceBEq, Nat.reduceAdd, Nat.reduceSub, Nat.reduceMul, Nat.reduceLT, Nat.reduceLeDiff, Nat.reduceBNe, Int.reduceBEq, Int.reduceBNe, Int.reduceLT, Int.reduceLE, edA, hw]
    · simp (maxSteps := 4000000) only [go_sem, ↓reduceIte, reduceCtorEq, Nat.reduceEqDiff, Nat.reduceBEq, Nat.reduceAdd, Nat.reduceSub, Nat.reduceMul, Nat.reduceLT, Nat.reduceLeDiff, Nat.reduceBNe, Int.reduceBEq, Int.reduceBNe, Int.reduceLT, Int.reduceLE, edA, hml]
    · simp (maxSteps := 4000000) only [go_sem, ↓reduceIte, reduceCtorEq, Nat.reduceEqDiff, Nat.reduceBEq, Nat.reduceAdd, Nat.reduceSub, Nat.reduceMul, Nat.reduceLT, Nat.reduceLeDiff, Nat.reduceBNe, Int.reduceBEq, Int.reduceBNe, Int.reduceLT, Int.reduceLE, edA, hmm]
  · have hn : upE (l.take (i + 1)) = upE (l.take i) := by unfold upE; rw [takeW he, List.filter_append]; simp [hu]
    simp (maxSteps := 4000000) only [go_sem, ↓reduceIte, reduceCtorEq, Nat.reduceEqDiff, Nat.reduceBEq, Nat.reduceAdd, Nat.reduceSub, Nat.reduceMul, Nat.reduceLT, Nat.reduceLeDiff, Nat.reduceBNe, Int.reduceBEq, Int.reduceBNe, Int.reduceLT, Int.reduceLE, edA, t10, t11, t12, t3, h3, tk, hlt', hlt, hge, hw, z0, hu, Int.toNat_natCast, List.length_map]
    (repeat refine And.intro (by omega) ?_)
    refine ⟨l.length - (i + 1), by omega, i + 1, p, by omega, rfl, by rw [hn]; exact hp, ?_, ?_, ?_, ?_, ?_⟩
    · simp (maxSteps := 4000000) only [go_sem, ↓reduceIte, reduceCtorEq, Nat.reduceEqDiff, Nat.reduceBEq, Nat.reduceAdd, Nat.reduceSub, Nat.reduceMul, Nat.reduceLT, Nat.reduceLeDiff, Nat.reduceBNe, Int.reduceBEq, Int.reduceBNe, Int.reduceLT, Int.reduceLE, edA, t10]
    · simp (maxSteps := 4000000) only [go_sem, ↓reduceIte, reduceCtorEq, Nat.reduceEqDiff, Nat.reduceBEq, Nat.reduceAdd, Nat.reduceSub, Nat.reduceMul, Nat.reduceLT, Nat.reduceLeDiff, Nat.reduceBNe, Int.reduceBEq, Int.reduceBNe, Int.reduceLT, Int.reduceLE, edA, t11]
    · simp (maxSteps := 4000000) only [go_sem, ↓reduceIte, reduceCtorEq, Nat.reduceEqDiff, Nat.reduceBEq, Nat.reduceAdd, Nat.reduceSub, Nat.reduceMul, Nat.reduceLT, Nat.reduceLeDiff, Nat.reduceBNe, Int.reduceBEq, Int.reduceBNe, Int.reduceLT, Int.reduceLE, edA, hw]
    · simp (maxSteps := 4000000) only [go_sem, ↓reduceIte, reduceCtorEq, Nat.reduceEqDiff, Nat.reduceBEq, Nat.reduceAdd, Nat.reduceSub, Nat.reduceMul, Nat.reduceLT, Nat.reduceLeDiff, Nat.reduceBNe, Int.reduceBEq, Int.reduceBNe, Int.reduceLT, Int.reduceLE, edA, hn, t3]
    · simp (maxSteps := 4000000) only [go_sem, ↓reduceIte, reduceCtorEq, Nat.reduceEqDiff, Nat.reduceBEq, Nat.reduceAdd, Nat.reduceSub, Nat.reduceMul, Nat.reduceLT, Nat.reduceLeDiff, Nat.reduceBNe, Int.reduceBEq, Int.reduceBNe, Int.reduceLT, Int.reduceLE, edA, hn, h3]
end
section
/-
  Edges that came in; the laws at what came in.
-/
open Go.RowKit
set_option linter.unusedVariables false
set_option linter.unusedSimpArgs false
set_option maxRecDepth 100000
theorem w_cons {T : Ty} {fs : List Ty} {ds : List AV} (h : TypedC (.st (T :: fs)) ds) : ∃ c r, ds = c ++ r ∧ TypedC T c ∧ TypedC (.st fs) r := by
  cases h with
  | cons h1 h2 => exact ⟨_, _, rfl, h1, h2⟩
theorem w_nil {ds : List AV} (h : TypedC (.st []) ds) : ds = [] := by cases h; rfl
theorem w_int {ds : List AV} (h : TypedC (.int .i64) ds) : ∃ n, ds = [.int .i64 n] ∧ -9223372036854775808 ≤ n ∧ n ≤ 9223372036854775807 := by
  cases h with
  | int k n h => exact ⟨n, rfl, bounds_i64 h⟩
theorem w_sl {α : Type} (f : α → AV) (ok : α → Prop) {T : Ty} {ds : List AV} (h : TypedC (.sl T) ds) (hel : ∀ c, TypedC T c → ∃ a, packT T c = f a ∧ ok a) : ∃ l : List α, ds = [.sl (l.map f)] ∧ l.length ≤ 281474976710656 ∧ ∀ a, a ∈ l → ok a := by
  cases h with
  | sl T ls hlen h =>
    have : ∃ l : List α, ls.map (packT T) = l.map f ∧ l.length = ls.length ∧ ∀ a, a ∈ l → ok a := by
      clear hlen
      induction ls with
      | nil => exact ⟨[], rfl, rfl, fun a ha => by cases ha⟩
      | cons c ls ih =>
        obtain ⟨l, h1, h2, h3⟩ := ih fun x hx => h x (List.mem_cons_of_mem _ hx)
        obtain ⟨a, ha, hok⟩ := hel c (h c (List.mem_cons_self ..))
        refine ⟨a :: l, by rw [List.map_cons, List.map_cons, h1, ha], by rw [List.length_cons, List.length_cons, h2], fun b hb => ?_⟩
        rcases List.mem_cons.1 hb with rfl | hb
        · exact hok
        · exact h3 b hb
    obtain ⟨l, h1, h2, h3⟩ := this
    exact ⟨l, by rw [h1], by omega, h3⟩
def EdT : Ty := .st [.int .i64, .int .i64]
theorem ed_of {c : List AV} (h : TypedC EdT c) : ∃ e : Edge, packT EdT c = edA e ∧ (I64 e.1 ∧ I64 e.2) := by
  obtain ⟨c0, r0, rfl, h0, h⟩ := w_cons h
  obtain ⟨c1, r1, rfl, h1, h⟩ := w_cons h
  obtain rfl := w_nil h
  obtain ⟨v0, rfl, b0⟩ := w_int h0
  obtain ⟨v1, rfl, b1⟩ := w_int h1
  exact ⟨(v0, v1), rfl, b0, b1⟩
theorem w_one {w : World} {T : Ty} {v : Value} {ds : List AV} (h : ReadsAs w T [v] ds) : ∃ d, ds = [d] ∧ VR (fun b _ => b < w.heap.size) w d v := by
  obtain ⟨h1, h2, h3⟩ := h
  match ds, h2 with
  | [d], _ => exact ⟨d, rfl, h3 0 d v rfl rfl⟩
theorem eds_in {w : World} {v : Value} (h : ∃ ds, ReadsAs w (.sl EdT) [v] ds) : ∃ l : List Edge, EdOk l ∧ VR (fun b _ => b < w.heap.size) w (.sl (l.map edA)) v := by
  obtain ⟨ds, r⟩ := h
  obtain ⟨d, rfl, u⟩ := w_one r
  obtain ⟨l, hd, _, hok⟩ := w_sl edA (fun e => I64 e.1 ∧ I64 e.2) r.1 (fun c h => ed_of h)
  cases hd
  exact ⟨l, hok, u⟩
theorem w_run {f : FuncId} {w : World} {ds : List AV} {vs : List Value} (hl : ds.length = vs.length) (h : ∀ (j : Nat) (d : AV) (u : Value), ds[j]? = some d → vs[j]? = some u → VR (fun b _ => b < w.heap.size) w d u) (hA : AFn Try.prog f ds (.bool true)) :
    Calls Try.prog f ⟨vs⟩ w fun e w' => e = .returned (.bool true) ∧ Below w.heap.size w w' := by
  have := hA.calls w (fun b _ => b < w.heap.size) vs trivial (fun b o hb => hb) hl h
  refine this.mono fun e w' ⟨u, he, hb, hr⟩ => ?_
  have hr' : VR _ w' (.bool true) u := hr
  cases hr'
  exact ⟨he, hb⟩
theorem ordered_walk (v0 : Value) (w : World) (f0 : ∃ ds, ReadsAs w (.sl EdT) [v0] ds) :
    Calls Try.prog 4 #[v0] w fun e w' => e = .returned (.bool true) ∧ Below w.heap.size w w' := by
  obtain ⟨l, hok, u⟩ := eds_in f0
  refine w_run (vs := [v0]) rfl (fun j d x hj hx => ?_) (law2_ok l hok)
  match j with
  | 0 => cases hj; cases hx; exact u
  | j + 1 => simp at hj
end
section
/-
  'Rows.WaitsOrderedSaid' is proved: the law percolatelaw13.WaitsOrdered returns true at every input, and its arguments read as they did. No condition.
-/
namespace waitsOrdered
open Go.ChangeShapes Go.WideShapes Go.ChangeAt Go.RowKit
open Go.ChangeMaps (open_string shut_string)
set_option linter.unusedVariables false
set_option maxRecDepth 100000 in
theorem lifted (os : Os) (started : os.Started) (H : Type) (enc : TypeId × Value → H) :
    ReturnsInHanded {} Try.checked os 4 .any (Rows.waitsOrderedSpec.pre6 enc Try.prog Try.f4 Rows.waitsOrderedRow.domain false) (Rows.waitsOrderedSpec.post enc Try.prog Try.f4 false true false false) := by
  refine returnsInHanded_of_change_sized (C := Try.checked) ownK started (by kernel_rfl) Try.func4
    (ChangeSpec.witness6 (enc := enc) (C := Try.checked) false ⟨#[], #[.slice none 0 0], []⟩ 8 (by kernel_rfl) (by kernel_rfl) (by kernel_rfl) (by kernel_rfl)) ?_
  intro W base args ds gs before hval0 hW hcnd hsz _
  have hval : ∀ (j : Nat) t v, Try.f4.params[j]? = some t → args[j]? = some v → Value.okWide Try.prog W .any base t v := hval0
  have hW' := hW
  obtain ⟨p, q, hA0, hV, rfl, hfz, hnd⟩ := hW
  have hA : DataW.TrodAll enc Try.prog W 0 (fun _ => true) true Try.f4.params.toList args.toList ds p := hA0
  rw [Try.params4] at hA hval
  obtain ⟨v0, vs0, d0, ds0, p0, q0, hargs, rfl, rfl, h0, r0⟩ := trodAll_cons hA
  obtain ⟨rfl, rfl, rfl⟩ := trodAll_nil r0
  obtain rfl : args = #[v0] := by cases args; simp_all
  obtain ⟨rfl, rfl⟩ := trodVars_none hV
  have hw0 : (d0.weights Try.prog 22).all (· ≤ reachBytes) = true := weightsEach_mem hsz 0 22 d0 rfl rfl
  obtain ⟨s0, n0, c0, rfl⟩ := okWide_slice Try.underlying22 (hval 0 22 v0 rfl rfl)
  obtain ⟨fu0, ht0⟩ := h0
  have f0 : ∃ ds, ReadsAs W (.sl EdT) [.slice s0 n0 c0] ds := typed_in 8 (x := (d0, p0)) (by kernel_rfl) hw0 ht0
  refine (ordered_walk _ W f0).mono fun e W' ⟨he, hb⟩ => ?_
  subst he
  exact ⟨_, rfl, post_law laidOut hW' rfl rfl rfl rfl rfl Try.underlying4 (by intro t ht; rw [Try.params4] at ht; simp only [List.mem_cons, List.not_mem_nil, or_false] at ht; rcases ht with rfl <;> exact ⟨by kernel_rfl, of_decide_eq_true (by kernel_rfl)⟩) hb⟩
theorem proved : Rows.WaitsOrderedSaid :=
  OpenClaim.holds_of_wide 4 Try.f4 rfl rfl rfl rfl rfl rfl rfl ⟨rfl, rfl, rfl, rfl, rfl⟩ rfl rfl rfl rfl rfl (by kernel_rfl) Try.func4 (by kernel_rfl)
    (of_decide_eq_true (by kernel_rfl)) (by unfold Func.isWrapper; first | (rw [if_pos (by decide +kernel)]; kernel_rfl) | (rw [if_neg (by decide +kernel)]; exact ⟨rfl, rfl⟩))
    (fun os started H enc _ => lifted os started H enc)
end waitsOrdered
end
end Go.Proofs.Ytdmhhdfjajjflaa
