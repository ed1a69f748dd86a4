/-
  'Rows.WaitsEdgesSaid' is proved: the law percolatelaw13.WaitsEdges returns true at every input, and its arguments read as they did. No condition.
-/
import Derived.SizedLaws
import Derived.Test.YtcpendbmohfjcaaWG12
namespace Go.Proofs.Ytcpendbmohfjcaa
attribute [local go_sem] ev0 ev1 ev2 ev3 ev4 evA stHOk.eq_1 stHOk.eq_2 stHSt.eq_1 stHSt.eq_2 okV valV fzV okF valF okBld valBld mxOk.eq_1 mxOk.eq_2 mxVal.eq_1 mxVal.eq_2 cellFit.eq_1 cellFit.eq_2 cellFit.eq_3 cellEq.eq_1 cellEq.eq_2 cellEq.eq_3 upd_at AV.flatB AV.flatBs binIok binIV binSok binSV cellsOk.eq_1 cellsOk.eq_2 cellsVal.eq_1 cellsVal.eq_2 objCells.eq_1 objCells.eq_2 objZ.eq_1 objZ.eq_2 objProt.eq_1 objProt.eq_2 oneObj ptrOk.eq_1 ptrOk.eq_2 ptrOk.eq_3 ptrCells.eq_1 ptrCells.eq_2 ptrCells.eq_3 lenOk.eq_1 lenOk.eq_2 lenOk.eq_3 lenOk.eq_4 lenVal.eq_1 lenVal.eq_2 lenVal.eq_3 lenVal.eq_4 faOk.eq_1 faOk.eq_2 faOk.eq_3 faVal.eq_1 faVal.eq_2 faVal.eq_3 iaOk.eq_1 iaOk.eq_2 iaOk.eq_3 iaVal.eq_1 iaVal.eq_2 iaVal.eq_3 slcLen.eq_1 slcLen.eq_2 slcLen.eq_3 slcLen.eq_4 bdOk.eq_1 bdOk.eq_2 bdVal.eq_1 bdVal.eq_2 slcOk.eq_1 slcOk.eq_2 slcOk.eq_3 slcOk.eq_4 slcOk.eq_5 slcKV.eq_1 slcKV.eq_2 slcKV.eq_3 slcVal.eq_1 slcVal.eq_2 slcVal.eq_3 slcVal.eq_4 slcFz.eq_1 slcFz.eq_2 loK.eq_1 loK.eq_2 loK.eq_3 rsVal.eq_1 rsVal.eq_2 rsVal.eq_3 byOk.eq_1 byOk.eq_2 byOk.eq_3 byOk.eq_4 byOk.eq_5 byOk.eq_6 byOk.eq_7 byOk.eq_8 byVal.eq_1 byVal.eq_2 byVal.eq_3 byFz.eq_1 byFz.eq_2 byFz.eq_3 byOks byVals byFzs allOne resSt.eq_1 resSt.eq_2 resName.eq_1 resName.eq_2 stOk.eq_1 stOk.eq_2 stArr.eq_1 stArr.eq_2 stSt.eq_1 stSt.eq_2 AV.patch nameOk_none gB.eq_1 gB.eq_2 gB.eq_3 gIs.eq_1 gIs.eq_2 gIs.eq_3 retV resV resVs evalV cellsV St.byval List.getD_cons_zero List.getD_cons_succ List.getD_nil List.map_cons List.map_nil List.length_cons List.length_nil List.take_succ_cons List.take_zero List.drop_succ_cons List.drop_zero List.headD_cons List.set_cons_zero List.append_nil List.nil_append List.cons_append List.contains_cons List.contains_nil List.elem_cons List.elem_nil List.all_cons List.all_nil List.getElem?_cons_zero List.getElem?_cons_succ List.filterMap_cons List.filterMap_nil Option.isSome_some Option.isSome_none Option.map_some Option.map_none Option.some.injEq AV.int.injEq AV.bool.injEq AV.str.injEq AV.tup.injEq AV.agg.injEq AV.sl.injEq List.cons.injEq Bool.false_eq_true Bool.true_eq_false Bool.not_true Bool.not_false Bool.and_true Bool.true_and Bool.or_false Bool.or_true Bool.false_or Bool.true_or Bool.or_self Bool.and_self Bool.not_eq_true' Bool.not_eq_false' Bool.not_not beq_self_eq_true true_and and_true false_and and_false and_self not_true_eq_false not_false_eq_true forall_const true_implies false_implies implies_true imp_self Nat.lt_add_one Nat.le_refl Nat.zero_le Nat.add_zero Nat.zero_add decide_true decide_false decide_eq_true_eq decide_eq_false_iff_not exists_eq_left exists_eq_left' ge_iff_le gt_iff_lt ite_branch ite_branch' nilOk.eq_1 nilOk.eq_2 nilMay.eq_1 nilMay.eq_2 AV.isSl.eq_1 objTy'.eq_1 objTy'.eq_2 apSt.eq_1 apArr.eq_1 apArr.eq_2 apTwo.eq_1 apTwo.eq_2 apSt2.eq_1 apArr2.eq_1 apArr2.eq_2 slOf.eq_1 fitsV List.mem_cons List.not_mem_nil Bool.false_and Bool.and_false primOk.eq_1 primOk.eq_2 primOk.eq_3 primOk.eq_4 primOk.eq_5 primVal.eq_1 primVal.eq_2 primVal.eq_3 primVal.eq_4 primVal.eq_5 mOk.eq_1 mOk.eq_2 mVal.eq_1 mVal.eq_2 mFz.eq_1 mFz.eq_2 mOks mVals mFzs mCalOk.eq_1 mCalOk.eq_2 mFn.eq_1 mFn.eq_2 mArgs.eq_1 mArgs.eq_2 ckOk.eq_1 ckOk.eq_2 cloOk.eq_1 ptrAt.eq_1 sh.eq_1 sh.eq_2 sh.eq_3 sh.eq_4 sh.eq_5 sh.eq_6 retM shH_small evM entOk.eq_1 entOk.eq_2 ents.eq_1 ents.eq_2 kI.eq_1 mpOk.eq_1 mpR.eq_1 lkV.eq_1 lkV.eq_2 remp.eq_2 evP pvOk.eq_1 pvOk.eq_2 pvVal.eq_1 pvVal.eq_2 plOk.eq_1 plOk.eq_2 plOk.eq_3 plV.eq_1 plV.eq_2 plF.eq_1 plF.eq_2 plVal.eq_1 plVal.eq_2 plFz.eq_1 plFz.eq_2 lpOk.eq_1 lpOk.eq_2 lpVal.eq_1 lpVal.eq_2 lpFz.eq_1 lpFz.eq_2 stpOk.eq_1 stpOk.eq_2 stpSt.eq_1 stpSt.eq_2 stpArr.eq_1 keepS.eq_1 keepS.eq_2 evCl
section
/-
  Who waits for whom: the code, walked.
-/
open Go.RowKit
set_option linter.unusedVariables false
set_option linter.unusedSimpArgs false
set_option maxRecDepth 100000
attribute [local go_sem ↓] runOp headOp
/-! ### percolate/waits.Against -/
def t_agw_0 : List ROp := [⟨(.box 3 28 (.t 0)), (some 2), none, [3], []⟩, ⟨(.box 3 28 (.t 1)), (some 3), none, [], []⟩, ⟨(.mv (.c (.bool false))), (some 4), none, [], []⟩]
def r_agw_0 : Reg := ⟨[], t_agw_0, [2, 3], [], false⟩
def t_agw_1 : List ROp := [⟨(.faddr 1 (.t 2)), (some 5), none, [], []⟩, ⟨(.load 1 false (.t 5)), (some 6), none, [], []⟩, ⟨(.faddr 1 (.t 3)), (some 7), none, [], []⟩, ⟨(.load 1 false (.t 7)), (some 8), none, [], []⟩, ⟨(.bin .eql (.t 6) (.t 8)), (some 9), none, [], []⟩, ⟨(.mv (.t 9)), (some 10), none, [], []⟩, ⟨(.faddr 0 (.t 2)), (some 11), (some (10, true)), [], []⟩, ⟨(.load 1 false (.t 11)), (some 12), (some (10, true)), [], []⟩, ⟨(.faddr 0 (.t 3)), (some 13), (some (10, true)), [], []⟩, ⟨(.load 1 false (.t 13)), (some 14), (some (10, true)), [], []⟩, ⟨(.bin .neq (.t 12) (.t 14)), (some 15), (some (10, true)), [], []⟩, ⟨(.pick (.t 10) (.t 15) (.c (.bool false))), (some 16), none, [], []⟩, ⟨(.mv (.t 16)), (some 17), none, [], []⟩, ⟨(.faddr 2 (.t 2)), (some 18), (some (17, true)), [], []⟩, ⟨(.load 1 false (.t 18)), (some 19), (some (17, true)), [], []⟩, ⟨(.mv (.t 19)), (some 20), (some (17, true)), [], []⟩, ⟨(.faddr 2 (.t 3)), (some 21), (some (20, false)), [], []⟩, ⟨(.load 1 false (.t 21)), (some 22), (some (20, false)), [], []⟩, ⟨(.pick (.t 20) (.c (.bool true)) (.t 22)), (some 23), (some (17, true)), [], []⟩, ⟨(.pick (.t 17) (.t 23) (.c (.bool false))), (some 24), none, [], []⟩, ⟨(.mv (.t 24)), (some 4), none, [], []⟩]
def r_agw_1 : Reg := ⟨[], t_agw_1, [], [], false⟩
def ir_agw : IR := (.seq (.reg r_agw_0)
  (.seq (.reg r_agw_1)
  .ret))
def res_agw : List RDesc := [(.tmp 4)]
theorem e_agw_0 (C : FuncId → List AV → AV → Prop) (σ : St) (K : St → Prop) : runReg C r_agw_0 σ K = runOps C t_agw_0 (σ.kills [2, 3]) K := rfl
theorem e_agw_1 (C : FuncId → List AV → AV → Prop) (σ : St) (K : St → Prop) : runReg C r_agw_1 σ K = runOps C t_agw_1 (σ.kills []) K := rfl
theorem fn_agw {args : List AV} {r : AV} (ha : args.length.ble Try.f7.ntmps = true) (h : run (AFn Try.prog) ir_agw (endQ res_agw r) (initSt args)) : AFn Try.prog 7 args r :=
  AFn.of_code (pv := false) (hint := fun _ => []) (c := Try.f7.body.getD .skip) (by kernel_rfl) (by kernel_rfl) Try.func7 (by kernel_rfl) (by kernel_rfl) (by kernel_rfl) (of_decide_eq_true (by kernel_rfl)) (Nat.le_of_ble_eq_true ha) (Nat.le_of_ble_eq_true (by kernel_rfl)) (run_ok h)
/-! ### percolate/waits.Edges -/
def r_edg_0 : Reg := ⟨[], [⟨(.mknil 2 30), (some 4), none, [], []⟩], [4], [], false⟩
def r_edg_1 : Reg := ⟨[], [⟨(.mknil 2 30), (some 5), none, [], []⟩], [5], [], false⟩
def t_edg_2 : List ROp := [⟨(.mv (.t 1)), (some 10), none, [], []⟩, ⟨(.len false (.t 10)), (some 11), none, [], []⟩, ⟨(.mv (.c (.int .i64 0))), (some 12), none, [], []⟩]
def r_edg_2 : Reg := ⟨[], t_edg_2, [], [], false⟩
def r_edg_3 : Reg := ⟨[], [⟨(.bin .lss (.t 12) (.t 11)), (some 13), none, [], []⟩], [], [], false⟩
def t_edg_4 : List ROp := [⟨(.iaddr 3 (.t 10) (.t 12)), (some 14), none, [7], []⟩, ⟨(.load 3 true (.t 14)), (some 15), none, [7], []⟩, ⟨(.alloc 3 28 (.agg [(.int .i64 0), (.int .i64 0), (.bool false)])), (some 7), none, [], []⟩, ⟨(.store 3 (.t 7) (.t 15)), none, none, [], []⟩]
def r_edg_4 : Reg := ⟨[], t_edg_4, [7], [], false⟩
def t_edg_5 : List ROp := [⟨(.mv (.t 0)), (some 16), none, [], []⟩, ⟨(.len false (.t 16)), (some 17), none, [], []⟩, ⟨(.mv (.c (.int .i64 0))), (some 18), none, [], []⟩]
def r_edg_5 : Reg := ⟨[], t_edg_5, [], [], false⟩
def r_edg_6 : Reg := ⟨[], [⟨(.bin .lss (.t 18) (.t 17)), (some 19), none, [], []⟩], [], [], false⟩
def t_edg_7 : List ROp := [⟨(.iaddr 3 (.t 16) (.t 18)), (some 20), none, [9], []⟩, ⟨(.load 3 true (.t 20)), (some 21), none, [9], []⟩, ⟨(.alloc 3 28 (.agg [(.int .i64 0), (.int .i64 0), (.bool false)])), (some 9), none, [], []⟩, ⟨(.store 3 (.t 9) (.t 21)), none, none, [], []⟩]
def r_edg_7 : Reg := ⟨[], t_edg_7, [9], [], false⟩
def t_edg_8 : List ROp := [⟨(.load 3 true (.t 7)), (some 22), none, [24], []⟩, ⟨(.load 3 true (.t 9)), (some 23), none, [24], []⟩, ⟨(.callv (.c (.clo 7 [] [])) [(.t 22), (.t 23)]), (some 24), none, [], []⟩]
def r_edg_8 : Reg := ⟨[], t_edg_8, [24], [], false⟩
def t_edg_9 : List ROp := [⟨(.mv (.t 5)), (some 25), none, [31], []⟩, ⟨(.faddr 0 (.t 7)), (some 26), none, [31], []⟩, ⟨(.load 1 false (.t 26)), (some 27), none, [31], []⟩, ⟨(.faddr 0 (.t 9)), (some 28), none, [31], []⟩, ⟨(.load 1 false (.t 28)), (some 29), none, [31], []⟩, ⟨(.bld [(.int .i64 0), (.int .i64 0)] [⟨0, 1, (.t 27)⟩, ⟨1, 1, (.t 29)⟩]), (some 30), none, [31], []⟩, ⟨(.bsl 2 30 [(.t 30)]), (some 31), none, [], []⟩, ⟨(.append 2 30 16 (.t 25) (.t 31)), (some 32), none, [], []⟩, ⟨(.mv (.t 32)), (some 5), none, [], []⟩]
def r_edg_9 : Reg := ⟨[], t_edg_9, [31], [], false⟩
def r_edg_10 : Reg := ⟨[], [⟨(.bin .add (.t 18) (.c (.int .i64 1))), (some 33), none, [], []⟩, ⟨(.mv (.t 33)), (some 18), none, [], []⟩], [], [], false⟩
def r_edg_l11 : IR := (.seq (.reg r_edg_6)
  (.seq (.cond (.t 19) .skip
  (.exit 2))
  (.seq (.block 3 (.seq (.reg r_edg_7)
  (.seq (.reg r_edg_8)
  (.cond (.t 24) (.reg r_edg_9)
  .skip))))
  (.reg r_edg_10))))
def r_edg_12 : Reg := ⟨[], [⟨(.bin .add (.t 12) (.c (.int .i64 1))), (some 34), none, [], []⟩, ⟨(.mv (.t 34)), (some 12), none, [], []⟩], [], [], false⟩
def r_edg_l13 : IR := (.seq (.reg r_edg_3)
  (.seq (.cond (.t 13) .skip
  (.exit 0))
  (.seq (.block 1 (.seq (.reg r_edg_4)
  (.seq (.reg r_edg_5)
  (.block 2 (.loop r_edg_l11)))))
  (.reg r_edg_12))))
def r_edg_14 : List XOp := [(.op [] ⟨(.mv (.t 5)), (some 35), none, [], []⟩), (.wcall 36 (.c (.clo 13 [] [])) [(.t 35), (.c (.clo 14 [] []))])]
def r_edg_15 : List XOp := [(.op [] ⟨(.mv (.t 5)), (some 37), none, [], []⟩), (.wcall 38 (.c (.clo 17 [] [])) [(.t 37)]), (.op [] ⟨(.mv (.t 38)), (some 4), none, [], []⟩)]
def ir_edg (P : Program) : IR := (.seq (.reg r_edg_0)
  (.seq (.reg r_edg_1)
  (.seq (.seq (.reg r_edg_2)
  (.block 0 (.loop r_edg_l13)))
  (.seq (.regx P r_edg_14)
  (.seq (.regx P r_edg_15)
  .ret)))))
def res_edg : List RDesc := [(.tmp 4)]
theorem e_edg_0 (C : FuncId → List AV → AV → Prop) (σ : St) (K : St → Prop) : runReg C r_edg_0 σ K = runOps C [⟨(.mknil 2 30), (some 4), none, [], []⟩] (σ.kills [4]) K := rfl
theorem e_edg_1 (C : FuncId → List AV → AV → Prop) (σ : St) (K : St → Prop) : runReg C r_edg_1 σ K = runOps C [⟨(.mknil 2 30), (some 5), none, [], []⟩] (σ.kills [5]) K := rfl
theorem e_edg_2 (C : FuncId → List AV → AV → Prop) (σ : St) (K : St → Prop) : runReg C r_edg_2 σ K = runOps C t_edg_2 (σ.kills []) K := rfl
theorem e_edg_3 (C : FuncId → List AV → AV → Prop) (σ : St) (K : St → Prop) : runReg C r_edg_3 σ K = runOps C [⟨(.bin .lss (.t 12) (.t 11)), (some 13), none, [], []⟩] (σ.kills []) K := rfl
theorem e_edg_4 (C : FuncId → List AV → AV → Prop) (σ : St) (K : St → Prop) : runReg C r_edg_4 σ K = runOps C t_edg_4 (σ.kills [7]) K := rfl
theorem e_edg_5 (C : FuncId → List AV → AV → Prop) (σ : St) (K : St → Prop) : runReg C r_edg_5 σ K = runOps C t_edg_5 (σ.kills []) K := rfl
theorem e_edg_6 (C : FuncId → List AV → AV → Prop) (σ : St) (K : St → Prop) : runReg C r_edg_6 σ K = runOps C [⟨(.bin .lss (.t 18) (.t 17)), (some 19), none, [], []⟩] (σ.kills []) K := rfl
theorem e_edg_7 (C : FuncId → List AV → AV → Prop) (σ : St) (K : St → Prop) : runReg C r_edg_7 σ K = runOps C t_edg_7 (σ.kills [9]) K := rfl
theorem e_edg_8 (C : FuncId → List AV → AV → Prop) (σ : St) (K : St → Prop) : runReg C r_edg_8 σ K = runOps C t_edg_8 (σ.kills [24]) K := rfl
theorem e_edg_9 (C : FuncId → List AV → AV → Prop) (σ : St) (K : St → Prop) : runReg C r_edg_9 σ K = runOps C t_edg_9 (σ.kills [31]) K := rfl
theorem e_edg_10 (C : FuncId → List AV → AV → Prop) (σ : St) (K : St → Prop) : runReg C r_edg_10 σ K = runOps C [⟨(.bin .add (.t 18) (.c (.int .i64 1))), (some 33), none, [], []⟩, ⟨(.mv (.t 33)), (some 18), none, [], []⟩] (σ.kills []) K := rfl
theorem e_edg_12 (C : FuncId → List AV → AV → Prop) (σ : St) (K : St → Prop) : runReg C r_edg_12 σ K = runOps C [⟨(.bin .add (.t 12) (.c (.int .i64 1))), (some 34), none, [], []⟩, ⟨(.mv (.t 34)), (some 12), none, [], []⟩] (σ.kills []) K := rfl
theorem fn_edg {args : List AV} {r : AV} (ha : args.length.ble Try.f5.ntmps = true) (h : run (AFn Try.prog) (ir_edg Try.prog) (endQ res_edg r) (initSt args)) : AFn Try.prog 5 args r :=
  AFn.of_code (pv := false) (hint := fun i => if [12,13].contains i then [1] else []) (c := Try.f5.body.getD .skip) (by kernel_rfl) (by kernel_rfl) Try.func5 (by kernel_rfl) (by kernel_rfl) (by kernel_rfl) (of_decide_eq_true (by kernel_rfl)) (Nat.le_of_ble_eq_true ha) (Nat.le_of_ble_eq_true (by kernel_rfl)) (run_ok h)
attribute [local go_sem ↓] ir_agw
attribute [local go_sem] res_agw e_agw_0 t_agw_0 e_agw_1 t_agw_1
attribute [local go_sem ↓] ir_edg
attribute [local go_sem] res_edg e_edg_0 e_edg_1 e_edg_2 t_edg_2 e_edg_3 e_edg_4 t_edg_4 e_edg_5 t_edg_5 e_edg_6 e_edg_7 t_edg_7 e_edg_8 t_edg_8 e_edg_9 t_edg_9 e_edg_10 e_edg_12 r_edg_14 r_edg_15
theorem mcalling_exW {P : Program} {f : FuncId} {args : List AV} {T : Nat → AV} {H : Nat → Option Arr} {d : Nat} {R : St → (St → Prop) → Prop} {K : St → Prop} {r : AV} (h : ∃ H', MFn P f args H r H') (k : ∀ H', R ⟨upd T d r, H'⟩ K) : MCalling P f args T H d R K := by
  obtain ⟨H', h⟩ := h
  exact ⟨r, H', h, k H'⟩
/-- two latches that cannot be had together -/
def agB (a b : Hld) : Bool := (a.slot == b.slot) && ((a.thread != b.thread) && (a.wr || b.wr))
theorem agw_ok (a b : Hld) : AFn Try.prog 7 [a.a, b.a] (.bool (agB a b)) := by
  refine fn_agw rfl ?_
  unfold agB
  obtain ⟨at_, as_, aw⟩ := a
  obtain ⟨bt, bs, bw⟩ := b
  cases q1 : as_ == bs <;> cases q2 : at_ != bt <;> cases aw <;> cases bw <;> (simp (maxSteps := 4000000) only [go_sem, ↓reduceIte, reduceCtorEq, Nat.reduceEqDiff, Nat.reduceBEq, Nat.reduceAdd, Nat.reduceSub, Nat.reduceMul, Nat.reduceLT, Nat.reduceLeDiff, Nat.reduceBNe, Int.reduceBEq, Int.reduceBNe, Int.reduceLT, Int.reduceLE, evW, retM, edA, Hld.a, q1, q2])
def edgW (w : Hld) (hs : List Hld) : List Edge := (hs.filter fun h => agB w h).map fun h => (w.thread, h.thread)
def edgL (ws hs : List Hld) : List Edge := ws.flatMap fun w => edgW w hs
theorem edgW_snoc {w : Hld} {hs : List Hld} {j : Nat} {h : Hld} (hj : hs[j]? = some h) : edgW w (hs.take (j + 1)) = edgW w (hs.take j) ++ (if agB w h then [(w.thread, h.thread)] else []) := by
  unfold edgW
  rw [takeW hj, List.filter_append, List.map_append]
  cases hb : agB w h <;> simp [hb]
theorem edgL_snoc {ws hs : List Hld} {j : Nat} {w : Hld} (hj : ws[j]? = some w) : edgL (ws.take (j + 1)) hs = edgL (ws.take j) hs ++ edgW w hs := by
  unfold edgL
  rw [takeW hj, List.flatMap_append]; simp
theorem edgW_len {w : Hld} {hs : List Hld} : (edgW w hs).length ≤ hs.length := by
  unfold edgW; rw [List.length_map]; exact List.length_filter_le _ _
theorem edgL_len {hs : List Hld} : ∀ {ws : List Hld}, (edgL ws hs).length ≤ ws.length * hs.length
  | [] => by simp [edgL]
  | w :: ws => by
    have h1 := edgL_len (hs := hs) (ws := ws)
    have h2 := edgW_len (w := w) (hs := hs)
    unfold edgL at h1 ⊢
    rw [List.flatMap_cons, List.length_append, List.length_cons, Nat.add_mul]
    omega
/-- what waits.Edges hands back -/
def edgesL (hs ws : List Hld) : List Edge := comE (msE (edgL ws hs))
theorem atH {l : List Hld} {j : Nat} {h : Hld} (hj : l[j]? = some h) : (l.map Hld.a).getD j .und = .agg [.int .i64 h.thread, .int .i64 h.slot, .bool h.wr] := by
  rw [List.getD_eq_getElem?_getD, List.getElem?_map, hj]; rfl
def HldArr (w : Hld) : Option Arr := some ⟨3, 28, [.agg [.int .i64 w.thread, .int .i64 w.slot, .bool w.wr]], 0⟩
def edgI (hs ws : List Hld) (i : Nat) (w : Hld) (k : Nat) (σ : St) : Prop :=
  ∃ (j : Nat) (out : List Edge), j ≤ hs.length ∧ k = hs.length - j ∧ out = edgL (ws.take i) hs ++ edgW w (hs.take j) ∧ σ.T 0 = .sl (hs.map Hld.a) ∧ σ.T 5 = .rs 5 0 out.length ∧ σ.H 5 = ObjE out ∧ σ.T 7 = .ptr 7 0 0 ∧ σ.H 7 = HldArr w ∧
    σ.T 10 = .sl (ws.map Hld.a) ∧ σ.T 11 = .int .i64 ws.length ∧ σ.T 12 = .int .i64 i ∧ σ.T 16 = .sl (hs.map Hld.a) ∧ σ.T 17 = .int .i64 hs.length ∧ σ.T 18 = .int .i64 j
def edgO (hs ws : List Hld) (k : Nat) (σ : St) : Prop :=
  ∃ (i : Nat) (out : List Edge), i ≤ ws.length ∧ k = ws.length - i ∧ out = edgL (ws.take i) hs ∧ σ.T 0 = .sl (hs.map Hld.a) ∧ σ.T 5 = .rs 5 0 out.length ∧ σ.H 5 = ObjE out ∧
    σ.T 10 = .sl (ws.map Hld.a) ∧ σ.T 11 = .int .i64 ws.length ∧ σ.T 12 = .int .i64 i
set_option maxHeartbeats 8000000 in
theorem edg_ok (hs ws : List Hld) (hh : hs.length ≤ 1000) (hw : ws.length ≤ 1000) : AFn Try.prog 5 [.sl (hs.map Hld.a), .sl (ws.map Hld.a)] (.sl ((edgesL hs ws).map edA)) := by
  refine fn_edg rfl ?_
  simp (maxSteps := 4000000) only [go_sem, ↓reduceIte, reduceCtorEq, Nat.reduceEqDiff, Nat.reduceBEq, Nat.reduceAdd, Nat.reduceSub, Nat.reduceMul, Nat.reduceLT, Nat.reduceLeDiff, Nat.reduceBNe, Int.reduceBEq, Int.reduceBNe, Int.reduceLT, Int.reduceLE, evW, retM, edA, Hld.a, List.length_map]
  refine run_loop (edgO hs ws) (k := ws.length) ⟨0, [], Nat.zero_le _, rfl, rfl, ?_, ?_, ?_, ?_, ?_, ?_⟩ ?_
  · (simp (maxSteps := 4000000) only [go_sem, ↓reduceIte, reduceCtorEq, Nat.reduceEqDiff, Nat.reduceBEq, Nat.reduceAdd, Nat.reduceSub, Nat.reduceMul, Nat.reduceLT, Nat.reduceLeDiff, Nat.reduceBNe, Int.reduceBEq, Int.reduceBNe, Int.reduceLT, Int.reduceLE, evW, retM, edA, Hld.a]) <;> rfl
  · (simp (maxSteps := 4000000) only [go_sem, ↓reduceIte, reduceCtorEq, Nat.reduceEqDiff, Nat.reduceBEq, Nat.reduceAdd, Nat.reduceSub, Nat.reduceMul, Nat.reduceLT, Nat.reduceLeDiff, Nat.reduceBNe, Int.reduceBEq, Int.reduceBNe, Int.reduceLT, Int.reduceLE, evW, retM, edA, Hld.a]) <;> rfl
  · (simp (maxSteps := 4000000) only [go_sem, ↓reduceIte, reduceCtorEq, Nat.reduceEqDiff, Nat.reduceBEq, Nat.reduceAdd, Nat.reduceSub, Nat.reduceMul, Nat.reduceLT, Nat.reduceLeDiff, Nat.reduceBNe, Int.reduceBEq, Int.reduceBNe, Int.reduceLT, Int.reduceLE, evW, retM, edA, Hld.a]) <;> rfl
  · (simp (maxSteps := 4000000) only [go_sem, ↓reduceIte, reduceCtorEq, Nat.reduceEqDiff, Nat.reduceBEq, Nat.reduceAdd, Nat.reduceSub, Nat.reduceMul, Nat.reduceLT, Nat.reduceLeDiff, Nat.reduceBNe, Int.reduceBEq, Int.reduceBNe, Int.reduceLT, Int.reduceLE, evW, retM, edA, Hld.a]) <;> rfl
  · (simp (maxSteps := 4000000) only [go_sem, ↓reduceIte, reduceCtorEq, Nat.reduceEqDiff, Nat.reduceBEq, Nat.reduceAdd, Nat.reduceSub, Nat.reduceMul, Nat.reduceLT, Nat.reduceLeDiff, Nat.reduceBNe, Int.reduceBEq, Int.reduceBNe, Int.reduceLT, Int.reduceLE, evW, retM, edA, Hld.a, List.length_map]) <;> rfl
  · (simp (maxSteps := 4000000) only [go_sem, ↓reduceIte, reduceCtorEq, Nat.reduceEqDiff, Nat.reduceBEq, Nat.reduceAdd, Nat.reduceSub, Nat.reduceMul, Nat.reduceLT, Nat.reduceLeDiff, Nat.reduceBNe, Int.reduceBEq, Int.reduceBNe, Int.reduceLT, Int.reduceLE, evW, retM, edA, Hld.a]) <;> rfl
  rintro k σ ⟨i, out, hi, rfl, hout, t0, t5, h5, t10, t11, t12⟩
  simp only [r_edg_l13]
  have hlen : (edgL ws hs).length ≤ 1000000 := by
    have h1 := edgL_len (hs := hs) (ws := ws)
    have h2 : ws.length * hs.length ≤ 1000 * 1000 := Nat.mul_le_mul hw hh
    omega
  by_cases hlt : i < ws.length
  case neg =>
    have hlt' : ¬ (i : Int) < (ws.length : Int) := by omega
    rw [List.take_of_length_le (by omega)] at hout
    subst hout
    have h5' := h5
    unfold ObjE at h5'
    simp (maxSteps := 4000000) only [go_sem, ↓reduceIte, reduceCtorEq, Nat.reduceEqDiff, Nat.reduceBEq, Nat.reduceAdd, Nat.reduceSub, Nat.reduceMul, Nat.reduceLT, Nat.reduceLeDiff, Nat.reduceBNe, Int.reduceBEq, Int.reduceBNe, Int.reduceLT, Int.reduceLE, evW, retM, edA, Hld.a, t12, t11, t5, h5', hlt']
    refine mcalling (sf_ok _ 5 (edgL ws hs) hlen ?_) ?_
    · simp (maxSteps := 4000000) only [go_sem, ↓reduceIte, reduceCtorEq, Nat.reduceEqDiff, Nat.reduceBEq, Nat.reduceAdd, Nat.reduceSub, Nat.reduceMul, Nat.reduceLT, Nat.reduceLeDiff, Nat.reduceBNe, Int.reduceBEq, Int.reduceBNe, Int.reduceLT, Int.reduceLE, evW, retM, edA, Hld.a, h5]
    have hO : ∀ l : List Edge, (ObjE l).isSome = true := fun l => rfl
    have hml : (msE (edgL ws hs)).length = (edgL ws hs).length := length_msE
    simp (maxSteps := 4000000) only [go_sem, ↓reduceIte, reduceCtorEq, Nat.reduceEqDiff, Nat.reduceBEq, Nat.reduceAdd, Nat.reduceSub, Nat.reduceMul, Nat.reduceLT, Nat.reduceLeDiff, Nat.reduceBNe, Int.reduceBEq, Int.reduceBNe, Int.reduceLT, Int.reduceLE, evW, retM, edA, Hld.a, t5, hO]
    refine mcalling_exW (r := .sl ((edgesL hs ws).map edA)) ?_ fun H' => ?_
    · rw [← hml]
      refine cpt_ok _ 5 (msE (edgL ws hs)) (by omega) ?_
      simp (maxSteps := 4000000) only [go_sem, ↓reduceIte, reduceCtorEq, Nat.reduceEqDiff, Nat.reduceBEq, Nat.reduceAdd, Nat.reduceSub, Nat.reduceMul, Nat.reduceLT, Nat.reduceLeDiff, Nat.reduceBNe, Int.reduceBEq, Int.reduceBNe, Int.reduceLT, Int.reduceLE, evW, retM, edA, Hld.a]
    · simp (maxSteps := 4000000) only [go_sem, ↓reduceIte, reduceCtorEq, Nat.reduceEqDiff, Nat.reduceBEq, Nat.reduceAdd, Nat.reduceSub, Nat.reduceMul, Nat.reduceLT, Nat.reduceLeDiff, Nat.reduceBNe, Int.reduceBEq, Int.reduceBNe, Int.reduceLT, Int.reduceLE, evW, retM, edA, Hld.a]
  have hlt' : (i : Int) < (ws.length : Int) := by omega
  obtain ⟨w, hwi⟩ := getW hlt
  have hge := atH hwi
  have z0 : (0 : Int) ≤ (i : Int) := Int.natCast_nonneg _
  have hwn := wrapW (j := i) (by omega)
  unfold ObjE at h5
  simp (maxSteps := 4000000) only [go_sem, ↓reduceIte, reduceCtorEq, Nat.reduceEqDiff, Nat.reduceBEq, Nat.reduceAdd, Nat.reduceSub, Nat.reduceMul, Nat.reduceLT, Nat.reduceLeDiff, Nat.reduceBNe, Int.reduceBEq, Int.reduceBNe, Int.reduceLT, Int.reduceLE, evW, retM, edA, Hld.a, t0, t10, t11, t12, t5, h5, hlt', hlt, hge, z0, Int.toNat_natCast, List.length_map]
  refine run_loop (edgI hs ws i w) (k := hs.length) ⟨0, out, Nat.zero_le _, rfl, by rw [hout]; simp [edgW], ?_, ?_, ?_, ?_, ?_, ?_, ?_, ?_, ?_, ?_, ?_⟩ ?_
  · simp (maxSteps := 4000000) only [go_sem, ↓reduceIte, reduceCtorEq, Nat.reduceEqDiff, Nat.reduceBEq, Nat.reduceAdd, Nat.reduceSub, Nat.reduceMul, Nat.reduceLT, Nat.reduceLeDiff, Nat.reduceBNe, Int.reduceBEq, Int.reduceBNe, Int.reduceLT, Int.reduceLE, evW, retM, edA, Hld.a, t0]
  · simp (maxSteps := 4000000) only [go_sem, ↓reduceIte, reduceCtorEq, Nat.reduceEqDiff, Nat.reduceBEq, Nat.reduceAdd, Nat.reduceSub, Nat.reduceMul, Nat.reduceLT, Nat.reduceLeDiff, Nat.reduceBNe, Int.reduceBEq, Int.reduceBNe, Int.reduceLT, Int.reduceLE, evW, retM, edA, Hld.a, t5]
  · simp (maxSteps := 4000000) only [go_sem, ↓reduceIte, reduceCtorEq, Nat.reduceEqDiff, Nat.reduceBEq, Nat.reduceAdd, Nat.reduceSub, Nat.reduceMul, Nat.reduceLT, Nat.reduceLeDiff, Nat.reduceBNe, Int.reduceBEq, Int.reduceBNe, Int.reduceLT, Int.reduceLE, evW, retM, edA, Hld.a, h5, ObjE]
  · simp (maxSteps := 4000000) only [go_sem, ↓reduceIte, reduceCtorEq, Nat.reduceEqDiff, Nat.reduceBEq, Nat.reduceAdd, Nat.reduceSub, Nat.reduceMul, Nat.reduceLT, Nat.reduceLeDiff, Nat.reduceBNe, Int.reduceBEq, Int.reduceBNe, Int.reduceLT, Int.reduceLE, evW, retM, edA, Hld.a]
  · simp (maxSteps := 4000000) only [go_sem, ↓reduceIte, reduceCtorEq, Nat.reduceEqDiff, Nat.reduceBEq, Nat.reduceAdd, Nat.reduceSub, Nat.reduceMul, Nat.reduceLT, Nat.reduceLeDiff, Nat.reduceBNe, Int.reduceBEq, Int.reduceBNe, Int.reduceLT, Int.reduceLE, evW, retM, edA, Hld.a, HldArr]
  · simp (maxSteps := 4000000) only [go_sem, ↓reduceIte, reduceCtorEq, Nat.reduceEqDiff, Nat.reduceBEq, Nat.reduceAdd, Nat.reduceSub, Nat.reduceMul, Nat.reduceLT, Nat.reduceLeDiff, Nat.reduceBNe, Int.reduceBEq, Int.reduceBNe, Int.reduceLT, Int.reduceLE, evW, retM, edA, Hld.a, t10]
  · simp (maxSteps := 4000000) only [go_sem, ↓reduceIte, reduceCtorEq, Nat.reduceEqDiff, Nat.reduceBEq, Nat.reduceAdd, Nat.reduceSub, Nat.reduceMul, Nat.reduceLT, Nat.reduceLeDiff, Nat.reduceBNe, Int.reduceBEq, Int.reduceBNe, Int.reduceLT, Int.reduceLE, evW, retM, edA, Hld.a, t11]
  · simp (maxSteps := 4000000) only [go_sem, ↓reduceIte, reduceCtorEq, Nat.reduceEqDiff, Nat.reduceBEq, Nat.reduceAdd, Nat.reduceSub, Nat.reduceMul, Nat.reduceLT, Nat.reduceLeDiff, Nat.reduceBNe, Int.reduceBEq, Int.reduceBNe, Int.reduceLT, Int.reduceLE, evW, retM, edA, Hld.a, t12]
  · simp (maxSteps := 4000000) only [go_sem, ↓reduceIte, reduceCtorEq, Nat.reduceEqDiff, Nat.reduceBEq, Nat.reduceAdd, Nat.reduceSub, Nat.reduceMul, Nat.reduceLT, Nat.reduceLeDiff, Nat.reduceBNe, Int.reduceBEq, Int.reduceBNe, Int.reduceLT, Int.reduceLE, evW, retM, edA, Hld.a]
  · simp (maxSteps := 4000000) only [go_sem, ↓reduceIte, reduceCtorEq, Nat.reduceEqDiff, Nat.reduceBEq, Nat.reduceAdd, Nat.reduceSub, Nat.reduceMul, Nat.reduceLT, Nat.reduceLeDiff, Nat.reduceBNe, Int.reduceBEq, Int.reduceBNe, Int.reduceLT, Int.reduceLE, evW, retM, edA, Hld.a]
  · (simp (maxSteps := 4000000) only [go_sem, ↓reduceIte, reduceCtorEq, Nat.reduceEqDiff, Nat.reduceBEq, Nat.reduceAdd, Nat.reduceSub, Nat.reduceMul, Nat.reduceLT, Nat.reduceLeDiff, Nat.reduceBNe, Int.reduceBEq, Int.reduceBNe, Int.reduceLT, Int.reduceLE, evW, retM, edA, Hld.a]) <;> rfl
  clear hout t0 t5 h5 t10 t11 t12
  rintro k σ ⟨j, out, hj, rfl, hout, t0, t5, h5, t7, h7, t10, t11, t12, t16, t17, t18⟩
  simp only [r_edg_l11]
  by_cases hjl : j < hs.length
  case neg =>
    have hjl' : ¬ (j : Int) < (hs.length : Int) := by omega
    have hfull : hs.take j = hs := List.take_of_length_le (by omega)
    rw [hfull, ← edgL_snoc hwi] at hout
    simp (maxSteps := 4000000) only [go_sem, ↓reduceIte, reduceCtorEq, Nat.reduceEqDiff, Nat.reduceBEq, Nat.reduceAdd, Nat.reduceSub, Nat.reduceMul, Nat.reduceLT, Nat.reduceLeDiff, Nat.reduceBNe, Int.reduceBEq, Int.reduceBNe, Int.reduceLT, Int.reduceLE, evW, retM, edA, Hld.a, t12, t17, t18, hjl', hwn]
    (repeat refine And.intro (by omega) ?_)
    refine ⟨ws.length - (i + 1), by omega, i + 1, out, hlt, rfl, hout, ?_, ?_, ?_, ?_, ?_, ?_⟩
    · simp (maxSteps := 4000000) only [go_sem, ↓reduceIte, reduceCtorEq, Nat.reduceEqDiff, Nat.reduceBEq, Nat.reduceAdd, Nat.reduceSub, Nat.reduceMul, Nat.reduceLT, Nat.reduceLeDiff, Nat.reduceBNe, Int.reduceBEq, Int.reduceBNe, Int.reduceLT, Int.reduceLE, evW, retM, edA, Hld.a, t0]
    · simp (maxSteps := 4000000) only [go_sem, ↓reduceIte, reduceCtorEq, Nat.reduceEqDiff, Nat.reduceBEq, Nat.reduceAdd, Nat.reduceSub, Nat.reduceMul, Nat.reduceLT, Nat.reduceLeDiff, Nat.reduceBNe, Int.reduceBEq, Int.reduceBNe, Int.reduceLT, Int.reduceLE, evW, retM, edA, Hld.a, t5]
    · simp (maxSteps := 4000000) only [go_sem, ↓reduceIte, reduceCtorEq, Nat.reduceEqDiff, Nat.reduceBEq, Nat.reduceAdd, Nat.reduceSub, Nat.reduceMul, Nat.reduceLT, Nat.reduceLeDiff, Nat.reduceBNe, Int.reduceBEq, Int.reduceBNe, Int.reduceLT, Int.reduceLE, evW, retM, edA, Hld.a, h5]
    · simp (maxSteps := 4000000) only [go_sem, ↓reduceIte, reduceCtorEq, Nat.reduceEqDiff, Nat.reduceBEq, Nat.reduceAdd, Nat.reduceSub, Nat.reduceMul, Nat.reduceLT, Nat.reduceLeDiff, Nat.reduceBNe, Int.reduceBEq, Int.reduceBNe, Int.reduceLT, Int.reduceLE, evW, retM, edA, Hld.a, t10]
    · simp (maxSteps := 4000000) only [go_sem, ↓reduceIte, reduceCtorEq, Nat.reduceEqDiff, Nat.reduceBEq, Nat.reduceAdd, Nat.reduceSub, Nat.reduceMul, Nat.reduceLT, Nat.reduceLeDiff, Nat.reduceBNe, Int.reduceBEq, Int.reduceBNe, Int.reduceLT, Int.reduceLE, evW, retM, edA, Hld.a, t11]
    · simp (maxSteps := 4000000) only [go_sem, ↓reduceIte, reduceCtorEq, Nat.reduceEqDiff, Nat.reduceBEq, Nat.reduceAdd, Nat.reduceSub, Nat.reduceMul, Nat.reduceLT, Nat.reduceLeDiff, Nat.reduceBNe, Int.reduceBEq, Int.reduceBNe, Int.reduceLT, Int.reduceLE, evW, retM, edA, Hld.a, hwn]
  have hjl' : (j : Int) < (hs.length : Int) := by omega
  obtain ⟨h, hhj⟩ := getW hjl
  have hgh := atH hhj
  have zj : (0 : Int) ≤ (j : Int) := Int.natCast_nonneg _
  have hwj := wrapW (j := j) (by omega)
  have hsn := edgW_snoc (w := w) hhj
  have hol : out.length ≤ 1001000 := by
    have h1 := edgL_len (hs := hs) (ws := ws.take i)
    have h2 := edgW_len (w := w) (hs := hs.take j)
    have h3 : (ws.take i).length * hs.length ≤ 1000 * 1000 := Nat.mul_le_mul (by rw [List.length_take]; omega) hh
    rw [List.length_take] at h2
    rw [hout, List.length_append]
    omega
  have tk : List.take out.length (out.map edA) = out.map edA := List.take_of_length_le (by simp)
  have c := agw_ok w h
  simp only [Hld.a] at c
  unfold ObjE at h5
  unfold HldArr at h7
  cases hag : agB w h with
  | false =>
    rw [hag] at c hsn
    rw [if_neg (by decide), List.append_nil] at hsn
    (repeat (first | simp (maxSteps := 4000000) only [go_sem, ↓reduceIte, reduceCtorEq, Nat.reduceEqDiff, Nat.reduceBEq, Nat.reduceAdd, Nat.reduceSub, Nat.reduceMul, Nat.reduceLT, Nat.reduceLeDiff, Nat.reduceBNe, Int.reduceBEq, Int.reduceBNe, Int.reduceLT, Int.reduceLE, evW, retM, edA, Hld.a, t0, t5, h5, t7, h7, t10, t11, t12, t16, t17, t18, hjl', hjl, hgh, zj, hwj, Int.toNat_natCast, List.length_map] | refine calling (c) ?_ | refine callingH (c) ?_ | refine And.intro (by omega) ?_ | refine And.intro (fun d hd => by (repeat (rcases hd with rfl | hd; · exact ⟨rfl, rfl⟩)); cases hd) ?_))
    (repeat refine And.intro (by omega) ?_)
    refine ⟨hs.length - (j + 1), by omega, j + 1, out, hjl, rfl, by rw [hsn]; exact hout, ?_, ?_, ?_, ?_, ?_, ?_, ?_, ?_, ?_, ?_, ?_⟩
    · simp (maxSteps := 4000000) only [go_sem, ↓reduceIte, reduceCtorEq, Nat.reduceEqDiff, Nat.reduceBEq, Nat.reduceAdd, Nat.reduceSub, Nat.reduceMul, Nat.reduceLT, Nat.reduceLeDiff, Nat.reduceBNe, Int.reduceBEq, Int.reduceBNe, Int.reduceLT, Int.reduceLE, evW, retM, edA, Hld.a, t0]
    · simp (maxSteps := 4000000) only [go_sem, ↓reduceIte, reduceCtorEq, Nat.reduceEqDiff, Nat.reduceBEq, Nat.reduceAdd, Nat.reduceSub, Nat.reduceMul, Nat.reduceLT, Nat.reduceLeDiff, Nat.reduceBNe, Int.reduceBEq, Int.reduceBNe, Int.reduceLT, Int.reduceLE, evW, retM, edA, Hld.a, t5]
    · simp (maxSteps := 4000000) only [go_sem, ↓reduceIte, reduceCtorEq, Nat.reduceEqDiff, Nat.reduceBEq, Nat.reduceAdd, Nat.reduceSub, Nat.reduceMul, Nat.reduceLT, Nat.reduceLeDiff, Nat.reduceBNe, Int.reduceBEq, Int.reduceBNe, Int.reduceLT, Int.reduceLE, evW, retM, edA, Hld.a, h5, ObjE]
    · simp (maxSteps := 4000000) only [go_sem, ↓reduceIte, reduceCtorEq, Nat.reduceEqDiff, Nat.reduceBEq, Nat.reduceAdd, Nat.reduceSub, Nat.reduceMul, Nat.reduceLT, Nat.reduceLeDiff, Nat.reduceBNe, Int.reduceBEq, Int.reduceBNe, Int.reduceLT, Int.reduceLE, evW, retM, edA, Hld.a, t7]
    · simp (maxSteps := 4000000) only [go_sem, ↓reduceIte, reduceCtorEq, Nat.reduceEqDiff, Nat.reduceBEq, Nat.reduceAdd, Nat.reduceSub, Nat.reduceMul, Nat.reduceLT, Nat.reduceLeDiff, Nat.reduceBNe, Int.reduceBEq, Int.reduceBNe, Int.reduceLT, Int.reduceLE, evW, retM, edA, Hld.a, h7, HldArr]
    · simp (maxSteps := 4000000) only [go_sem, ↓reduceIte, reduceCtorEq, Nat.reduceEqDiff, Nat.reduceBEq, Nat.reduceAdd, Nat.reduceSub, Nat.reduceMul, Nat.reduceLT, Nat.reduceLeDiff, Nat.reduceBNe, Int.reduceBEq, Int.reduceBNe, Int.reduceLT, Int.reduceLE, evW, retM, edA, Hld.a, t10]
    · simp (maxSteps := 4000000) only [go_sem, ↓reduceIte, reduceCtorEq, Nat.reduceEqDiff, Nat.reduceBEq, Nat.reduceAdd, Nat.reduceSub, Nat.reduceMul, Nat.reduceLT, Nat.reduceLeDiff, Nat.reduceBNe, Int.reduceBEq, Int.reduceBNe, Int.reduceLT, Int.reduceLE, evW, retM, edA, Hld.a, t11]
    · simp (maxSteps := 4000000) only [go_sem, ↓reduceIte, reduceCtorEq, Nat.reduceEqDiff, Nat.reduceBEq, Nat.reduceAdd, Nat.reduceSub, Nat.reduceMul, Nat.reduceLT, Nat.reduceLeDiff, Nat.reduceBNe, Int.reduceBEq, Int.reduceBNe, Int.reduceLT, Int.reduceLE, evW, retM, edA, Hld.a, t12]
    · simp (maxSteps := 4000000) only [go_sem, ↓reduceIte, reduceCtorEq, Nat.reduceEqDiff, Nat.reduceBEq, Nat.reduceAdd, Nat.reduceSub, Nat.reduceMul, Nat.reduceLT, Nat.reduceLeDiff, Nat.reduceBNe, Int.reduceBEq, Int.reduceBNe, Int.reduceLT, Int.reduceLE, evW, retM, edA, Hld.a, t16]
    · simp (maxSteps := 4000000) only [go_sem, ↓reduceIte, reduceCtorEq, Nat.reduceEqDiff, Nat.reduceBEq, Nat.reduceAdd, Nat.reduceSub, Nat.reduceMul, Nat.reduceLT, Nat.reduceLeDiff, Nat.reduceBNe, Int.reduceBEq, Int.reduceBNe, Int.reduceLT, Int.reduceLE, evW, retM, edA, Hld.a, t17]
    · simp (maxSteps := 4000000) only [go_sem, ↓reduceIte, reduceCtorEq, Nat.reduceEqDiff, Nat.reduceBEq, Nat.reduceAdd, Nat.reduceSub, Nat.reduceMul, Nat.reduceLT, Nat.reduceLeDiff, Nat.reduceBNe, Int.reduceBEq, Int.reduceBNe, Int.reduceLT, Int.reduceLE, evW, retM, edA, Hld.a, hwj]
  | true =>
    rw [hag] at c hsn
    rw [if_pos rfl] at hsn
    (repeat (first | simp (maxSteps := 4000000) only [go_sem, ↓reduceIte, reduceCtorEq, Nat.reduceEqDiff, Nat.reduceBEq, Nat.reduceAdd, Nat.reduceSub, Nat.reduceMul, Nat.reduceLT, Nat.reduceLeDiff, Nat.reduceBNe, Int.reduceBEq, Int.reduceBNe, Int.reduceLT, Int.reduceLE, evW, retM, edA, Hld.a, t0, t5, h5, t7, h7, t10, t11, t12, t16, t17, t18, hjl', hjl, hgh, zj, hwj, tk, Int.toNat_natCast, List.length_map, Nat.zero_add] | refine calling (c) ?_ | refine callingH (c) ?_ | refine And.intro (by omega) ?_ | refine And.intro (fun d hd => by (repeat (rcases hd with rfl | hd; · exact ⟨rfl, rfl⟩)); cases hd) ?_))
    have one : ∀ d : AV, d = .agg [.int .i64 w.thread, .int .i64 h.thread] ∨ False → d.cells.length = 2 ∧ d.cells.all AV.one = true := fun d hd => by
      rcases hd with rfl | hd
      · exact ⟨rfl, rfl⟩
      · cases hd
    have hml : (out ++ [(w.thread, h.thread)]).length = out.length + 1 := List.length_append
    have hmm : (out ++ [(w.thread, h.thread)]).map edA = out.map edA ++ [.agg [.int .i64 w.thread, .int .i64 h.thread]] := List.map_append
    refine ⟨⟨⟨by omega, by omega⟩, one⟩, hs.length - (j + 1), by omega, j + 1, out ++ [(w.thread, h.thread)], hjl, rfl, by rw [hsn, ← List.append_assoc, ← hout], ?_, ?_, ?_, ?_, ?_, ?_, ?_, ?_, ?_, ?_, ?_⟩
    · simp (maxSteps := 4000000) only [go_sem, ↓reduceIte, reduceCtorEq, Nat.reduceEqDiff, Nat.reduceBEq, Nat.reduceAdd, Nat.reduceSub, Nat.reduceMul, Nat.reduceLT, Nat.reduceLeDiff, Nat.reduceBNe, Int.reduceBEq, Int.reduceBNe, Int.reduceLT, Int.reduceLE, evW, retM, edA, Hld.a, t0]
    · simp (maxSteps := 4000000) only [go_sem, ↓reduceIte, reduceCtorEq, Nat.reduceEqDiff, Nat.reduceBEq, Nat.reduceAdd, Nat.reduceSub, Nat.reduceMul, Nat.reduceLT, Nat.reduceLeDiff, Nat.reduceBNe, Int.reduceBEq, Int.reduceBNe, Int.reduceLT, Int.reduceLE, evW, retM, edA, Hld.a, hml]
    · simp (maxSteps := 4000000) only [go_sem, ↓reduceIte, reduceCtorEq, Nat.reduceEqDiff, Nat.reduceBEq, Nat.reduceAdd, Nat.reduceSub, Nat.reduceMul, Nat.reduceLT, Nat.reduceLeDiff, Nat.reduceBNe, Int.reduceBEq, Int.reduceBNe, Int.reduceLT, Int.reduceLE, evW, retM, edA, Hld.a, h5, ObjE, hmm, tk]
    · simp (maxSteps := 4000000) only [go_sem, ↓reduceIte, reduceCtorEq, Nat.reduceEqDiff, Nat.reduceBEq, Nat.reduceAdd, Nat.reduceSub, Nat.reduceMul, Nat.reduceLT, Nat.reduceLeDiff, Nat.reduceBNe, Int.reduceBEq, Int.reduceBNe, Int.reduceLT, Int.reduceLE, evW, retM, edA, Hld.a, t7]
    · simp (maxSteps := 4000000) only [go_sem, ↓reduceIte, reduceCtorEq, Nat.reduceEqDiff, Nat.reduceBEq, Nat.reduceAdd, Nat.reduceSub, Nat.reduceMul, Nat.reduceLT, Nat.reduceLeDiff, Nat.reduceBNe, Int.reduceBEq, Int.reduceBNe, Int.reduceLT, Int.reduceLE, evW, retM, edA, Hld.a, h7, HldArr]
    · simp (maxSteps := 4000000) only [go_sem, ↓reduceIte, reduceCtorEq, Nat.reduceEqDiff, Nat.reduceBEq, Nat.reduceAdd, Nat.reduceSub, Nat.reduceMul, Nat.reduceLT, Nat.reduceLeDiff, Nat.reduceBNe, Int.reduceBEq, Int.reduceBNe, Int.reduceLT, Int.reduceLE, evW, retM, edA, Hld.a, t10]
    · simp (maxSteps := 4000000) only [go_sem, ↓reduceIte, reduceCtorEq, Nat.reduceEqDiff, Nat.reduceBEq, Nat.reduceAdd, Nat.reduceSub, Nat.reduceMul, Nat.reduceLT, Nat.reduceLeDiff, Nat.reduceBNe, Int.reduceBEq, Int.reduceBNe, Int.reduceLT, Int.reduceLE, evW, retM, edA, Hld.a, t11]
    · simp (maxSteps := 4000000) only [go_sem, ↓reduceIte, reduceCtorEq, Nat.reduceEqDiff, Nat.reduceBEq, Nat.reduceAdd, Nat.reduceSub, Nat.reduceMul, Nat.reduceLT, Nat.reduceLeDiff, Nat.reduceBNe, Int.reduceBEq, Int.reduceBNe, Int.reduceLT, Int.reduceLE, evW, retM, edA, Hld.a, t12]
    · simp (maxSteps := 4000000) only [go_sem, ↓reduceIte, reduceCtorEq, Nat.reduceEqDiff, Nat.reduceBEq, Nat.reduceAdd, Nat.reduceSub, Nat.reduceMul, Nat.reduceLT, Nat.reduceLeDiff, Nat.reduceBNe, Int.reduceBEq, Int.reduceBNe, Int.reduceLT, Int.reduceLE, evW, retM, edA, Hld.a, t16]
    · simp (maxSteps := 4000000) only [go_sem, ↓reduceIte, reduceCtorEq, Nat.reduceEqDiff, Nat.reduceBEq, Nat.reduceAdd, Nat.reduceSub, Nat.reduceMul, Nat.reduceLT, Nat.reduceLeDiff, Nat.reduceBNe, Int.reduceBEq, Int.reduceBNe, Int.reduceLT, Int.reduceLE, evW, retM, edA, Hld.a, t17]
    · simp (maxSteps := 4000000) only [go_sem, ↓reduceIte, reduceCtorEq, Nat.reduceEqDiff, Nat.reduceBEq, Nat.reduceAdd, Nat.reduceSub, Nat.reduceMul, Nat.reduceLT, Nat.reduceLeDiff, Nat.reduceBNe, Int.reduceBEq, Int.reduceBNe, Int.reduceLT, Int.reduceLE, evW, retM, edA, Hld.a, hwj]
end
section
/-
  Edges that came in; the laws at what came in.
-/
open Go.RowKit
set_option linter.unusedVariables false
set_option linter.unusedSimpArgs false
set_option maxRecDepth 100000
theorem w_sl {α : Type} (f : α → AV) (ok : α → Prop) {T : Ty} {ds : List AV} (h : TypedC (.sl T) ds) (hel : ∀ c, TypedC T c → ∃ a, packT T c = f a ∧ ok a) : ∃ l : List α, ds = [.sl (l.map f)] ∧ l.length ≤ 281474976710656 ∧ ∀ a, a ∈ l → ok a := by
  cases h with
  | sl T ls hlen h =>
    have : ∃ l : List α, ls.map (packT T) = l.map f ∧ l.length = ls.length ∧ ∀ a, a ∈ l → ok a := by
      clear hlen
      induction ls with
      | nil => exact ⟨[], rfl, rfl, fun a ha => by cases ha⟩
      | cons c ls ih =>
        obtain ⟨l, h1, h2, h3⟩ := ih fun x hx => h x (List.mem_cons_of_mem _ hx)
        obtain ⟨a, ha, hok⟩ := hel c (h c (List.mem_cons_self ..))
        refine ⟨a :: l, by rw [List.map_cons, List.map_cons, h1, ha], by rw [List.length_cons, List.length_cons, h2], fun b hb => ?_⟩
        rcases List.mem_cons.1 hb with rfl | hb
        · exact hok
        · exact h3 b hb
    obtain ⟨l, h1, h2, h3⟩ := this
    exact ⟨l, by rw [h1], by omega, h3⟩
theorem w_one {w : World} {T : Ty} {v : Value} {ds : List AV} (h : ReadsAs w T [v] ds) : ∃ d, ds = [d] ∧ VR (fun b _ => b < w.heap.size) w d v := by
  obtain ⟨h1, h2, h3⟩ := h
  match ds, h2 with
  | [d], _ => exact ⟨d, rfl, h3 0 d v rfl rfl⟩
theorem w_run {f : FuncId} {w : World} {ds : List AV} {vs : List Value} (hl : ds.length = vs.length) (h : ∀ (j : Nat) (d : AV) (u : Value), ds[j]? = some d → vs[j]? = some u → VR (fun b _ => b < w.heap.size) w d u) (hA : AFn Try.prog f ds (.bool true)) :
    Calls Try.prog f ⟨vs⟩ w fun e w' => e = .returned (.bool true) ∧ Below w.heap.size w w' := by
  have := hA.calls w (fun b _ => b < w.heap.size) vs trivial (fun b o hb => hb) hl h
  refine this.mono fun e w' ⟨u, he, hb, hr⟩ => ?_
  have hr' : VR _ w' (.bool true) u := hr
  cases hr'
  exact ⟨he, hb⟩
end
section
/-
  Who waits for whom: the document, and the law, walked.
-/
open Go.RowKit
set_option linter.unusedVariables false
set_option linter.unusedSimpArgs false
set_option maxRecDepth 100000
attribute [local go_sem ↓] runOp headOp
/-! ### percolate/percolateref13.Against -/
def t_rag_0 : List ROp := [⟨(.box 3 28 (.t 0)), (some 2), none, [3], []⟩, ⟨(.box 3 28 (.t 1)), (some 3), none, [], []⟩, ⟨(.mv (.c (.bool false))), (some 4), none, [], []⟩]
def r_rag_0 : Reg := ⟨[], t_rag_0, [2, 3], [], false⟩
def t_rag_1 : List ROp := [⟨(.faddr 1 (.t 2)), (some 5), none, [], []⟩, ⟨(.load 1 false (.t 5)), (some 6), none, [], []⟩, ⟨(.faddr 1 (.t 3)), (some 7), none, [], []⟩, ⟨(.load 1 false (.t 7)), (some 8), none, [], []⟩, ⟨(.bin .eql (.t 6) (.t 8)), (some 9), none, [], []⟩, ⟨(.mv (.t 9)), (some 10), none, [], []⟩, ⟨(.faddr 0 (.t 2)), (some 11), (some (10, true)), [], []⟩, ⟨(.load 1 false (.t 11)), (some 12), (some (10, true)), [], []⟩, ⟨(.faddr 0 (.t 3)), (some 13), (some (10, true)), [], []⟩, ⟨(.load 1 false (.t 13)), (some 14), (some (10, true)), [], []⟩, ⟨(.bin .neq (.t 12) (.t 14)), (some 15), (some (10, true)), [], []⟩, ⟨(.pick (.t 10) (.t 15) (.c (.bool false))), (some 16), none, [], []⟩, ⟨(.mv (.t 16)), (some 17), none, [], []⟩, ⟨(.faddr 2 (.t 2)), (some 18), (some (17, true)), [], []⟩, ⟨(.load 1 false (.t 18)), (some 19), (some (17, true)), [], []⟩, ⟨(.mv (.t 19)), (some 20), (some (17, true)), [], []⟩, ⟨(.faddr 2 (.t 3)), (some 21), (some (20, false)), [], []⟩, ⟨(.load 1 false (.t 21)), (some 22), (some (20, false)), [], []⟩, ⟨(.pick (.t 20) (.c (.bool true)) (.t 22)), (some 23), (some (17, true)), [], []⟩, ⟨(.pick (.t 17) (.t 23) (.c (.bool false))), (some 24), none, [], []⟩, ⟨(.mv (.t 24)), (some 4), none, [], []⟩]
def r_rag_1 : Reg := ⟨[], t_rag_1, [], [], false⟩
def ir_rag : IR := (.seq (.reg r_rag_0)
  (.seq (.reg r_rag_1)
  .ret))
def res_rag : List RDesc := [(.tmp 4)]
theorem e_rag_0 (C : FuncId → List AV → AV → Prop) (σ : St) (K : St → Prop) : runReg C r_rag_0 σ K = runOps C t_rag_0 (σ.kills [2, 3]) K := rfl
theorem e_rag_1 (C : FuncId → List AV → AV → Prop) (σ : St) (K : St → Prop) : runReg C r_rag_1 σ K = runOps C t_rag_1 (σ.kills []) K := rfl
theorem fn_rag {args : List AV} {r : AV} (ha : args.length.ble Try.f8.ntmps = true) (h : run (AFn Try.prog) ir_rag (endQ res_rag r) (initSt args)) : AFn Try.prog 8 args r :=
  AFn.of_code (pv := false) (hint := fun _ => []) (c := Try.f8.body.getD .skip) (by kernel_rfl) (by kernel_rfl) Try.func8 (by kernel_rfl) (by kernel_rfl) (by kernel_rfl) (of_decide_eq_true (by kernel_rfl)) (Nat.le_of_ble_eq_true ha) (Nat.le_of_ble_eq_true (by kernel_rfl)) (run_ok h)
/-! ### percolate/percolateref13.Rising -/
def r_rri_0 : Reg := ⟨[], [⟨(.mv (.c (.bool false))), (some 2), none, [], []⟩], [], [], false⟩
def r_rri_1 : Reg := ⟨[], [⟨(.mv (.c (.int .i64 1))), (some 3), none, [], []⟩], [], [], false⟩
def t_rri_2 : List ROp := [⟨(.mv (.t 3)), (some 4), none, [], []⟩, ⟨(.mv (.t 0)), (some 5), none, [], []⟩, ⟨(.len false (.t 5)), (some 6), none, [], []⟩, ⟨(.bin .lss (.t 4) (.t 6)), (some 7), none, [], []⟩]
def r_rri_2 : Reg := ⟨[], t_rri_2, [], [], false⟩
def t_rri_3 : List ROp := [⟨(.bin .geq (.t 41) (.t 46)), (some 47), (some (35, true)), [], []⟩, ⟨(.pick (.t 35) (.t 47) (.c (.bool false))), (some 48), (some (22, false)), [], []⟩, ⟨(.pick (.t 22) (.c (.bool true)) (.t 48)), (some 49), none, [], []⟩]
def h_rri_3 : List ROp := [⟨(.mv (.t 0)), (some 10), none, [], []⟩, ⟨(.mv (.t 3)), (some 11), none, [], []⟩, ⟨(.bin .sub (.t 11) (.c (.int .i64 1))), (some 12), none, [], []⟩, ⟨(.iaddr 2 (.t 10) (.t 12)), (some 13), none, [], []⟩, ⟨(.faddr 0 (.t 13)), (some 14), none, [], []⟩, ⟨(.load 1 false (.t 14)), (some 15), none, [], []⟩, ⟨(.mv (.t 0)), (some 16), none, [], []⟩, ⟨(.mv (.t 3)), (some 17), none, [], []⟩, ⟨(.iaddr 2 (.t 16) (.t 17)), (some 18), none, [], []⟩, ⟨(.faddr 0 (.t 18)), (some 19), none, [], []⟩, ⟨(.load 1 false (.t 19)), (some 20), none, [], []⟩, ⟨(.bin .gtr (.t 15) (.t 20)), (some 21), none, [], []⟩, ⟨(.mv (.t 21)), (some 22), none, [], []⟩, ⟨(.mv (.t 0)), (some 23), (some (22, false)), [], []⟩, ⟨(.mv (.t 3)), (some 24), (some (22, false)), [], []⟩, ⟨(.bin .sub (.t 24) (.c (.int .i64 1))), (some 25), (some (22, false)), [], []⟩, ⟨(.iaddr 2 (.t 23) (.t 25)), (some 26), (some (22, false)), [], []⟩, ⟨(.faddr 0 (.t 26)), (some 27), (some (22, false)), [], []⟩, ⟨(.load 1 false (.t 27)), (some 28), (some (22, false)), [], []⟩, ⟨(.mv (.t 0)), (some 29), (some (22, false)), [], []⟩, ⟨(.mv (.t 3)), (some 30), (some (22, false)), [], []⟩, ⟨(.iaddr 2 (.t 29) (.t 30)), (some 31), (some (22, false)), [], []⟩, ⟨(.faddr 0 (.t 31)), (some 32), (some (22, false)), [], []⟩, ⟨(.load 1 false (.t 32)), (some 33), (some (22, false)), [], []⟩, ⟨(.bin .eql (.t 28) (.t 33)), (some 34), (some (22, false)), [], []⟩, ⟨(.mv (.t 34)), (some 35), (some (22, false)), [], []⟩, ⟨(.mv (.t 0)), (some 36), (some (35, true)), [], []⟩, ⟨(.mv (.t 3)), (some 37), (some (35, true)), [], []⟩, ⟨(.bin .sub (.t 37) (.c (.int .i64 1))), (some 38), (some (35, true)), [], []⟩, ⟨(.iaddr 2 (.t 36) (.t 38)), (some 39), (some (35, true)), [], []⟩, ⟨(.faddr 1 (.t 39)), (some 40), (some (35, true)), [], []⟩, ⟨(.load 1 false (.t 40)), (some 41), (some (35, true)), [], []⟩, ⟨(.mv (.t 0)), (some 42), (some (35, true)), [], []⟩, ⟨(.mv (.t 3)), (some 43), (some (35, true)), [], []⟩, ⟨(.iaddr 2 (.t 42) (.t 43)), (some 44), (some (35, true)), [], []⟩, ⟨(.faddr 1 (.t 44)), (some 45), (some (35, true)), [], []⟩, ⟨(.load 1 false (.t 45)), (some 46), (some (35, true)), [], []⟩]
def r_rri_3 : Reg := ⟨h_rri_3, t_rri_3, [], [], true⟩
def r_rri_4 : Reg := ⟨[], [⟨(.mv (.c (.bool false))), (some 2), none, [], []⟩], [], [], false⟩
def t_rri_5 : List ROp := [⟨(.mv (.t 3)), (some 8), none, [], []⟩, ⟨(.bin .add (.t 8) (.c (.int .i64 1))), (some 9), none, [], []⟩, ⟨(.mv (.t 9)), (some 3), none, [], []⟩]
def r_rri_5 : Reg := ⟨[], t_rri_5, [], [], false⟩
def r_rri_l6 : IR := (.seq (.seq (.reg r_rri_2)
  (.cond (.t 7) .skip
  (.exit 0)))
  (.seq (.block 1 (.seq (.reg r_rri_3)
  (.cond (.t 49) (.seq (.reg r_rri_4)
  .ret)
  .skip)))
  (.reg r_rri_5)))
def r_rri_7 : Reg := ⟨[], [⟨(.mv (.c (.bool true))), (some 2), none, [], []⟩], [], [], false⟩
def ir_rri : IR := (.seq (.reg r_rri_0)
  (.seq (.seq (.reg r_rri_1)
  (.block 0 (.loop r_rri_l6)))
  (.seq (.reg r_rri_7)
  .ret)))
def res_rri : List RDesc := [(.tmp 2)]
theorem e_rri_0 (C : FuncId → List AV → AV → Prop) (σ : St) (K : St → Prop) : runReg C r_rri_0 σ K = runOps C [⟨(.mv (.c (.bool false))), (some 2), none, [], []⟩] (σ.kills []) K := rfl
theorem e_rri_1 (C : FuncId → List AV → AV → Prop) (σ : St) (K : St → Prop) : runReg C r_rri_1 σ K = runOps C [⟨(.mv (.c (.int .i64 1))), (some 3), none, [], []⟩] (σ.kills []) K := rfl
theorem e_rri_2 (C : FuncId → List AV → AV → Prop) (σ : St) (K : St → Prop) : runReg C r_rri_2 σ K = runOps C t_rri_2 (σ.kills []) K := rfl
theorem e_rri_3 (C : FuncId → List AV → AV → Prop) (σ : St) (K : St → Prop) : runReg C r_rri_3 σ K = runHead C [] t_rri_3 h_rri_3 (σ.kills []) K := rfl
theorem e_rri_4 (C : FuncId → List AV → AV → Prop) (σ : St) (K : St → Prop) : runReg C r_rri_4 σ K = runOps C [⟨(.mv (.c (.bool false))), (some 2), none, [], []⟩] (σ.kills []) K := rfl
theorem e_rri_5 (C : FuncId → List AV → AV → Prop) (σ : St) (K : St → Prop) : runReg C r_rri_5 σ K = runOps C t_rri_5 (σ.kills []) K := rfl
theorem e_rri_7 (C : FuncId → List AV → AV → Prop) (σ : St) (K : St → Prop) : runReg C r_rri_7 σ K = runOps C [⟨(.mv (.c (.bool true))), (some 2), none, [], []⟩] (σ.kills []) K := rfl
theorem fn_rri {args : List AV} {r : AV} (ha : args.length.ble Try.f6.ntmps = true) (h : run (AFn Try.prog) ir_rri (endQ res_rri r) (initSt args)) : AFn Try.prog 6 args r :=
  AFn.of_code (pv := false) (hint := fun _ => []) (c := Try.f6.body.getD .skip) (by kernel_rfl) (by kernel_rfl) Try.func6 (by kernel_rfl) (by kernel_rfl) (by kernel_rfl) (of_decide_eq_true (by kernel_rfl)) (Nat.le_of_ble_eq_true ha) (Nat.le_of_ble_eq_true (by kernel_rfl)) (run_ok h)
/-! ### percolate/percolateref13.Has -/
def r_rha_0 : Reg := ⟨[], [⟨(.mv (.c (.bool false))), (some 6), none, [], []⟩], [], [], false⟩
def r_rha_1 : Reg := ⟨[], [⟨(.mv (.c (.int .i64 0))), (some 7), none, [], []⟩], [], [], false⟩
def t_rha_2 : List ROp := [⟨(.mv (.t 7)), (some 8), none, [], []⟩, ⟨(.mv (.t 0)), (some 9), none, [], []⟩, ⟨(.len false (.t 9)), (some 10), none, [], []⟩, ⟨(.bin .lss (.t 8) (.t 10)), (some 11), none, [], []⟩]
def r_rha_2 : Reg := ⟨[], t_rha_2, [], [], false⟩
def t_rha_3 : List ROp := [⟨(.mv (.t 0)), (some 14), none, [], []⟩, ⟨(.mv (.t 7)), (some 15), none, [], []⟩, ⟨(.iaddr 2 (.t 14) (.t 15)), (some 16), none, [], []⟩, ⟨(.faddr 0 (.t 16)), (some 17), none, [], []⟩, ⟨(.load 1 false (.t 17)), (some 18), none, [], []⟩, ⟨(.mv (.t 1)), (some 19), none, [], []⟩, ⟨(.bin .eql (.t 18) (.t 19)), (some 20), none, [], []⟩, ⟨(.mv (.t 20)), (some 21), none, [], []⟩, ⟨(.mv (.t 0)), (some 22), (some (21, true)), [], []⟩, ⟨(.mv (.t 7)), (some 23), (some (21, true)), [], []⟩, ⟨(.iaddr 2 (.t 22) (.t 23)), (some 24), (some (21, true)), [], []⟩, ⟨(.faddr 1 (.t 24)), (some 25), (some (21, true)), [], []⟩, ⟨(.load 1 false (.t 25)), (some 26), (some (21, true)), [], []⟩, ⟨(.mv (.t 2)), (some 27), (some (21, true)), [], []⟩, ⟨(.bin .eql (.t 26) (.t 27)), (some 28), (some (21, true)), [], []⟩, ⟨(.pick (.t 21) (.t 28) (.c (.bool false))), (some 29), none, [], []⟩]
def r_rha_3 : Reg := ⟨[], t_rha_3, [], [], false⟩
def r_rha_4 : Reg := ⟨[], [⟨(.mv (.c (.bool true))), (some 6), none, [], []⟩], [], [], false⟩
def t_rha_5 : List ROp := [⟨(.mv (.t 7)), (some 12), none, [], []⟩, ⟨(.bin .add (.t 12) (.c (.int .i64 1))), (some 13), none, [], []⟩, ⟨(.mv (.t 13)), (some 7), none, [], []⟩]
def r_rha_5 : Reg := ⟨[], t_rha_5, [], [], false⟩
def r_rha_l6 : IR := (.seq (.seq (.reg r_rha_2)
  (.cond (.t 11) .skip
  (.exit 0)))
  (.seq (.block 1 (.seq (.reg r_rha_3)
  (.cond (.t 29) (.seq (.reg r_rha_4)
  .ret)
  .skip)))
  (.reg r_rha_5)))
def r_rha_7 : Reg := ⟨[], [⟨(.mv (.c (.bool false))), (some 6), none, [], []⟩], [], [], false⟩
def ir_rha : IR := (.seq (.reg r_rha_0)
  (.seq (.seq (.reg r_rha_1)
  (.block 0 (.loop r_rha_l6)))
  (.seq (.reg r_rha_7)
  .ret)))
def res_rha : List RDesc := [(.tmp 6)]
theorem e_rha_0 (C : FuncId → List AV → AV → Prop) (σ : St) (K : St → Prop) : runReg C r_rha_0 σ K = runOps C [⟨(.mv (.c (.bool false))), (some 6), none, [], []⟩] (σ.kills []) K := rfl
theorem e_rha_1 (C : FuncId → List AV → AV → Prop) (σ : St) (K : St → Prop) : runReg C r_rha_1 σ K = runOps C [⟨(.mv (.c (.int .i64 0))), (some 7), none, [], []⟩] (σ.kills []) K := rfl
theorem e_rha_2 (C : FuncId → List AV → AV → Prop) (σ : St) (K : St → Prop) : runReg C r_rha_2 σ K = runOps C t_rha_2 (σ.kills []) K := rfl
theorem e_rha_3 (C : FuncId → List AV → AV → Prop) (σ : St) (K : St → Prop) : runReg C r_rha_3 σ K = runOps C t_rha_3 (σ.kills []) K := rfl
theorem e_rha_4 (C : FuncId → List AV → AV → Prop) (σ : St) (K : St → Prop) : runReg C r_rha_4 σ K = runOps C [⟨(.mv (.c (.bool true))), (some 6), none, [], []⟩] (σ.kills []) K := rfl
theorem e_rha_5 (C : FuncId → List AV → AV → Prop) (σ : St) (K : St → Prop) : runReg C r_rha_5 σ K = runOps C t_rha_5 (σ.kills []) K := rfl
theorem e_rha_7 (C : FuncId → List AV → AV → Prop) (σ : St) (K : St → Prop) : runReg C r_rha_7 σ K = runOps C [⟨(.mv (.c (.bool false))), (some 6), none, [], []⟩] (σ.kills []) K := rfl
theorem fn_rha {args : List AV} {r : AV} (ha : args.length.ble Try.f9.ntmps = true) (h : run (AFn Try.prog) ir_rha (endQ res_rha r) (initSt args)) : AFn Try.prog 9 args r :=
  AFn.of_code (pv := false) (hint := fun _ => []) (c := Try.f9.body.getD .skip) (by kernel_rfl) (by kernel_rfl) Try.func9 (by kernel_rfl) (by kernel_rfl) (by kernel_rfl) (of_decide_eq_true (by kernel_rfl)) (Nat.le_of_ble_eq_true ha) (Nat.le_of_ble_eq_true (by kernel_rfl)) (run_ok h)
/-! ### percolate/percolatelaw13.WaitsEdges -/
def r_we_0 : Reg := ⟨[], [⟨(.mv (.c (.bool false))), (some 4), none, [], []⟩], [], [], false⟩
def t_we_1 : List ROp := [⟨(.mv (.t 0)), (some 15), none, [], []⟩, ⟨(.len false (.t 15)), (some 16), none, [], []⟩, ⟨(.bin .gtr (.t 16) (.c (.int .i64 60))), (some 17), none, [], []⟩, ⟨(.mv (.t 17)), (some 18), none, [], []⟩, ⟨(.mv (.t 1)), (some 19), (some (18, false)), [], []⟩, ⟨(.len false (.t 19)), (some 20), (some (18, false)), [], []⟩, ⟨(.bin .gtr (.t 20) (.c (.int .i64 60))), (some 21), (some (18, false)), [], []⟩, ⟨(.pick (.t 18) (.c (.bool true)) (.t 21)), (some 22), none, [], []⟩]
def r_we_1 : Reg := ⟨[], t_we_1, [], [], false⟩
def r_we_2 : Reg := ⟨[], [⟨(.callv (.c (.clo 4 [] [])) []), (some 23), none, [], []⟩, ⟨(.mv (.t 23)), (some 4), none, [], []⟩], [23], [], false⟩
def t_we_3 : List ROp := [⟨(.mv (.t 0)), (some 24), none, [26], []⟩, ⟨(.mv (.t 1)), (some 25), none, [26], []⟩, ⟨(.callv (.c (.clo 5 [] [])) [(.t 24), (.t 25)]), (some 26), none, [], []⟩, ⟨(.mv (.t 26)), (some 5), none, [], []⟩]
def r_we_3 : Reg := ⟨[], t_we_3, [26], [], false⟩
def t_we_4 : List ROp := [⟨(.mv (.t 5)), (some 27), none, [28], []⟩, ⟨(.callv (.c (.clo 6 [] [])) [(.t 27)]), (some 28), none, [], []⟩, ⟨(.un .not (.t 28)), (some 29), none, [], []⟩]
def r_we_4 : Reg := ⟨[], t_we_4, [28], [], false⟩
def r_we_5 : Reg := ⟨[], [⟨(.mv (.c (.bool false))), (some 4), none, [], []⟩], [], [], false⟩
def r_we_6 : Reg := ⟨[], [⟨(.mknil 2 30), (some 6), none, [], []⟩], [6], [], false⟩
def t_we_7 : List ROp := [⟨(.mv (.t 1)), (some 30), none, [], []⟩, ⟨(.len false (.t 30)), (some 31), none, [], []⟩, ⟨(.mv (.c (.int .i64 0))), (some 32), none, [], []⟩]
def r_we_7 : Reg := ⟨[], t_we_7, [], [], false⟩
def r_we_8 : Reg := ⟨[], [⟨(.bin .lss (.t 32) (.t 31)), (some 33), none, [], []⟩], [], [], false⟩
def t_we_9 : List ROp := [⟨(.iaddr 3 (.t 30) (.t 32)), (some 34), none, [8], []⟩, ⟨(.load 3 true (.t 34)), (some 35), none, [8], []⟩, ⟨(.alloc 3 28 (.agg [(.int .i64 0), (.int .i64 0), (.bool false)])), (some 8), none, [], []⟩, ⟨(.store 3 (.t 8) (.t 35)), none, none, [], []⟩]
def r_we_9 : Reg := ⟨[], t_we_9, [8], [], false⟩
def t_we_10 : List ROp := [⟨(.mv (.t 0)), (some 36), none, [], []⟩, ⟨(.len false (.t 36)), (some 37), none, [], []⟩, ⟨(.mv (.c (.int .i64 0))), (some 38), none, [], []⟩]
def r_we_10 : Reg := ⟨[], t_we_10, [], [], false⟩
def r_we_11 : Reg := ⟨[], [⟨(.bin .lss (.t 38) (.t 37)), (some 39), none, [], []⟩], [], [], false⟩
def t_we_12 : List ROp := [⟨(.iaddr 3 (.t 36) (.t 38)), (some 40), none, [10], []⟩, ⟨(.load 3 true (.t 40)), (some 41), none, [10], []⟩, ⟨(.alloc 3 28 (.agg [(.int .i64 0), (.int .i64 0), (.bool false)])), (some 10), none, [], []⟩, ⟨(.store 3 (.t 10) (.t 41)), none, none, [], []⟩]
def r_we_12 : Reg := ⟨[], t_we_12, [10], [], false⟩
def t_we_13 : List ROp := [⟨(.callv (.c (.clo 8 [] [])) [(.t 45), (.t 46)]), (some 47), none, [], []⟩, ⟨(.beq true (.t 44) (.t 47)), (some 48), none, [], []⟩]
def h_we_13 : List ROp := [⟨(.load 3 true (.t 8)), (some 42), none, [44, 47], []⟩, ⟨(.load 3 true (.t 10)), (some 43), none, [44, 47], []⟩, ⟨(.callv (.c (.clo 7 [] [])) [(.t 42), (.t 43)]), (some 44), none, [47], []⟩, ⟨(.load 3 true (.t 8)), (some 45), none, [44, 47], []⟩, ⟨(.load 3 true (.t 10)), (some 46), none, [44, 47], []⟩]
def r_we_13 : Reg := ⟨h_we_13, t_we_13, [44, 47], [], true⟩
def r_we_14 : Reg := ⟨[], [⟨(.mv (.c (.bool false))), (some 4), none, [], []⟩], [], [], false⟩
def t_we_15 : List ROp := [⟨(.load 3 true (.t 8)), (some 49), none, [51], []⟩, ⟨(.load 3 true (.t 10)), (some 50), none, [51], []⟩, ⟨(.callv (.c (.clo 8 [] [])) [(.t 49), (.t 50)]), (some 51), none, [], []⟩]
def r_we_15 : Reg := ⟨[], t_we_15, [51], [], false⟩
def t_we_16 : List ROp := [⟨(.mv (.t 6)), (some 52), none, [58], []⟩, ⟨(.faddr 0 (.t 8)), (some 53), none, [58], []⟩, ⟨(.load 1 false (.t 53)), (some 54), none, [58], []⟩, ⟨(.faddr 0 (.t 10)), (some 55), none, [58], []⟩, ⟨(.load 1 false (.t 55)), (some 56), none, [58], []⟩, ⟨(.bld [(.int .i64 0), (.int .i64 0)] [⟨0, 1, (.t 54)⟩, ⟨1, 1, (.t 56)⟩]), (some 57), none, [58], []⟩, ⟨(.bsl 2 30 [(.t 57)]), (some 58), none, [], []⟩, ⟨(.append 2 30 16 (.t 52) (.t 58)), (some 59), none, [], []⟩, ⟨(.mv (.t 59)), (some 6), none, [], []⟩]
def r_we_16 : Reg := ⟨[], t_we_16, [58], [], false⟩
def r_we_17 : Reg := ⟨[], [⟨(.bin .add (.t 38) (.c (.int .i64 1))), (some 60), none, [], []⟩, ⟨(.mv (.t 60)), (some 38), none, [], []⟩], [], [], false⟩
def r_we_l18 : IR := (.seq (.reg r_we_11)
  (.seq (.cond (.t 39) .skip
  (.exit 2))
  (.seq (.block 3 (.seq (.reg r_we_12)
  (.seq (.seq (.reg r_we_13)
  (.cond (.t 48) (.seq (.reg r_we_14)
  .ret)
  .skip))
  (.seq (.reg r_we_15)
  (.cond (.t 51) (.reg r_we_16)
  .skip)))))
  (.reg r_we_17))))
def r_we_19 : Reg := ⟨[], [⟨(.bin .add (.t 32) (.c (.int .i64 1))), (some 61), none, [], []⟩, ⟨(.mv (.t 61)), (some 32), none, [], []⟩], [], [], false⟩
def r_we_l20 : IR := (.seq (.reg r_we_8)
  (.seq (.cond (.t 33) .skip
  (.exit 0))
  (.seq (.block 1 (.seq (.reg r_we_9)
  (.seq (.reg r_we_10)
  (.block 2 (.loop r_we_l18)))))
  (.reg r_we_19))))
def t_we_21 : List ROp := [⟨(.mv (.t 6)), (some 62), none, [], []⟩, ⟨(.len false (.t 62)), (some 63), none, [], []⟩, ⟨(.mv (.c (.int .i64 0))), (some 64), none, [], []⟩]
def r_we_21 : Reg := ⟨[], t_we_21, [], [], false⟩
def r_we_22 : Reg := ⟨[], [⟨(.bin .lss (.t 64) (.t 63)), (some 65), none, [], []⟩], [], [], false⟩
def t_we_23 : List ROp := [⟨(.iaddr 2 (.t 62) (.t 64)), (some 66), none, [12], []⟩, ⟨(.load 2 true (.t 66)), (some 67), none, [12], []⟩, ⟨(.alloc 2 30 (.agg [(.int .i64 0), (.int .i64 0)])), (some 12), none, [], []⟩, ⟨(.store 2 (.t 12) (.t 67)), none, none, [], []⟩]
def r_we_23 : Reg := ⟨[], t_we_23, [12], [], false⟩
def t_we_24 : List ROp := [⟨(.mv (.t 5)), (some 68), none, [73], []⟩, ⟨(.faddr 0 (.t 12)), (some 69), none, [73], []⟩, ⟨(.load 1 false (.t 69)), (some 70), none, [73], []⟩, ⟨(.faddr 1 (.t 12)), (some 71), none, [73], []⟩, ⟨(.load 1 false (.t 71)), (some 72), none, [73], []⟩, ⟨(.callv (.c (.clo 9 [] [])) [(.t 68), (.t 70), (.t 72)]), (some 73), none, [], []⟩, ⟨(.un .not (.t 73)), (some 74), none, [], []⟩]
def r_we_24 : Reg := ⟨[], t_we_24, [73], [], false⟩
def r_we_25 : Reg := ⟨[], [⟨(.mv (.c (.bool false))), (some 4), none, [], []⟩], [], [], false⟩
def r_we_26 : Reg := ⟨[], [⟨(.bin .add (.t 64) (.c (.int .i64 1))), (some 75), none, [], []⟩, ⟨(.mv (.t 75)), (some 64), none, [], []⟩], [], [], false⟩
def r_we_l27 : IR := (.seq (.reg r_we_22)
  (.seq (.cond (.t 65) .skip
  (.exit 4))
  (.seq (.block 5 (.seq (.reg r_we_23)
  (.seq (.reg r_we_24)
  (.cond (.t 74) (.seq (.reg r_we_25)
  .ret)
  .skip))))
  (.reg r_we_26))))
def t_we_28 : List ROp := [⟨(.mv (.t 5)), (some 76), none, [], []⟩, ⟨(.len false (.t 76)), (some 77), none, [], []⟩, ⟨(.mv (.c (.int .i64 0))), (some 78), none, [], []⟩]
def r_we_28 : Reg := ⟨[], t_we_28, [], [], false⟩
def r_we_29 : Reg := ⟨[], [⟨(.bin .lss (.t 78) (.t 77)), (some 79), none, [], []⟩], [], [], false⟩
def t_we_30 : List ROp := [⟨(.iaddr 2 (.t 76) (.t 78)), (some 80), none, [14], []⟩, ⟨(.load 2 true (.t 80)), (some 81), none, [14], []⟩, ⟨(.alloc 2 30 (.agg [(.int .i64 0), (.int .i64 0)])), (some 14), none, [], []⟩, ⟨(.store 2 (.t 14) (.t 81)), none, none, [], []⟩]
def r_we_30 : Reg := ⟨[], t_we_30, [14], [], false⟩
def t_we_31 : List ROp := [⟨(.mv (.t 6)), (some 82), none, [87], []⟩, ⟨(.faddr 0 (.t 14)), (some 83), none, [87], []⟩, ⟨(.load 1 false (.t 83)), (some 84), none, [87], []⟩, ⟨(.faddr 1 (.t 14)), (some 85), none, [87], []⟩, ⟨(.load 1 false (.t 85)), (some 86), none, [87], []⟩, ⟨(.callv (.c (.clo 9 [] [])) [(.t 82), (.t 84), (.t 86)]), (some 87), none, [], []⟩, ⟨(.un .not (.t 87)), (some 88), none, [], []⟩]
def r_we_31 : Reg := ⟨[], t_we_31, [87], [], false⟩
def r_we_32 : Reg := ⟨[], [⟨(.mv (.c (.bool false))), (some 4), none, [], []⟩], [], [], false⟩
def r_we_33 : Reg := ⟨[], [⟨(.bin .add (.t 78) (.c (.int .i64 1))), (some 89), none, [], []⟩, ⟨(.mv (.t 89)), (some 78), none, [], []⟩], [], [], false⟩
def r_we_l34 : IR := (.seq (.reg r_we_29)
  (.seq (.cond (.t 79) .skip
  (.exit 6))
  (.seq (.block 7 (.seq (.reg r_we_30)
  (.seq (.reg r_we_31)
  (.cond (.t 88) (.seq (.reg r_we_32)
  .ret)
  .skip))))
  (.reg r_we_33))))
def r_we_35 : Reg := ⟨[], [⟨(.callv (.c (.clo 4 [] [])) []), (some 90), none, [], []⟩, ⟨(.mv (.t 90)), (some 4), none, [], []⟩], [90], [], false⟩
def ir_we : IR := (.seq (.reg r_we_0)
  (.seq (.seq (.reg r_we_1)
  (.cond (.t 22) (.seq (.reg r_we_2)
  .ret)
  .skip))
  (.seq (.reg r_we_3)
  (.seq (.seq (.reg r_we_4)
  (.cond (.t 29) (.seq (.reg r_we_5)
  .ret)
  .skip))
  (.seq (.reg r_we_6)
  (.seq (.seq (.reg r_we_7)
  (.block 0 (.loop r_we_l20)))
  (.seq (.seq (.reg r_we_21)
  (.block 4 (.loop r_we_l27)))
  (.seq (.seq (.reg r_we_28)
  (.block 6 (.loop r_we_l34)))
  (.seq (.reg r_we_35)
  .ret)))))))))
def res_we : List RDesc := [(.tmp 4)]
theorem e_we_0 (C : FuncId → List AV → AV → Prop) (σ : St) (K : St → Prop) : runReg C r_we_0 σ K = runOps C [⟨(.mv (.c (.bool false))), (some 4), none, [], []⟩] (σ.kills []) K := rfl
theorem e_we_1 (C : FuncId → List AV → AV → Prop) (σ : St) (K : St → Prop) : runReg C r_we_1 σ K = runOps C t_we_1 (σ.kills []) K := rfl
theorem e_we_2 (C : FuncId → List AV → AV → Prop) (σ : St) (K : St → Prop) : runReg C r_we_2 σ K = runOps C [⟨(.callv (.c (.clo 4 [] [])) []), (some 23), none, [], []⟩, ⟨(.mv (.t 23)), (some 4), none, [], []⟩] (σ.kills [23]) K := rfl
theorem e_we_3 (C : FuncId → List AV → AV → Prop) (σ : St) (K : St → Prop) : runReg C r_we_3 σ K = runOps C t_we_3 (σ.kills [26]) K := rfl
theorem e_we_4 (C : FuncId → List AV → AV → Prop) (σ : St) (K : St → Prop) : runReg C r_we_4 σ K = runOps C t_we_4 (σ.kills [28]) K := rfl
theorem e_we_5 (C : FuncId → List AV → AV → Prop) (σ : St) (K : St → Prop) : runReg C r_we_5 σ K = runOps C [⟨(.mv (.c (.bool false))), (some 4), none, [], []⟩] (σ.kills []) K := rfl
theorem e_we_6 (C : FuncId → List AV → AV → Prop) (σ : St) (K : St → Prop) : runReg C r_we_6 σ K = runOps C [⟨(.mknil 2 30), (some 6), none, [], []⟩] (σ.kills [6]) K := rfl
theorem e_we_7 (C : FuncId → List AV → AV → Prop) (σ : St) (K : St → Prop) : runReg C r_we_7 σ K = runOps C t_we_7 (σ.kills []) K := rfl
theorem e_we_8 (C : FuncId → List AV → AV → Prop) (σ : St) (K : St → Prop) : runReg C r_we_8 σ K = runOps C [⟨(.bin .lss (.t 32) (.t 31)), (some 33), none, [], []⟩] (σ.kills []) K := rfl
theorem e_we_9 (C : FuncId → List AV → AV → Prop) (σ : St) (K : St → Prop) : runReg C r_we_9 σ K = runOps C t_we_9 (σ.kills [8]) K := rfl
theorem e_we_10 (C : FuncId → List AV → AV → Prop) (σ : St) (K : St → Prop) : runReg C r_we_10 σ K = runOps C t_we_10 (σ.kills []) K := rfl
theorem e_we_11 (C : FuncId → List AV → AV → Prop) (σ : St) (K : St → Prop) : runReg C r_we_11 σ K = runOps C [⟨(.bin .lss (.t 38) (.t 37)), (some 39), none, [], []⟩] (σ.kills []) K := rfl
theorem e_we_12 (C : FuncId → List AV → AV → Prop) (σ : St) (K : St → Prop) : runReg C r_we_12 σ K = runOps C t_we_12 (σ.kills [10]) K := rfl
theorem e_we_13 (C : FuncId → List AV → AV → Prop) (σ : St) (K : St → Prop) : runReg C r_we_13 σ K = runHead C [] t_we_13 h_we_13 (σ.kills [44, 47]) K := rfl
theorem e_we_14 (C : FuncId → List AV → AV → Prop) (σ : St) (K : St → Prop) : runReg C r_we_14 σ K = runOps C [⟨(.mv (.c (.bool false))), (some 4), none, [], []⟩] (σ.kills []) K := rfl
theorem e_we_15 (C : FuncId → List AV → AV → Prop) (σ : St) (K : St → Prop) : runReg C r_we_15 σ K = runOps C t_we_15 (σ.kills [51]) K := rfl
theorem e_we_16 (C : FuncId → List AV → AV → Prop) (σ : St) (K : St → Prop) : runReg C r_we_16 σ K = runOps C t_we_16 (σ.kills [58]) K := rfl
theorem e_we_17 (C : FuncId → List AV → AV → Prop) (σ : St) (K : St → Prop) : runReg C r_we_17 σ K = runOps C [⟨(.bin .add (.t 38) (.c (.int .i64 1))), (some 60), none, [], []⟩, ⟨(.mv (.t 60)), (some 38), none, [], []⟩] (σ.kills []) K := rfl
theorem e_we_19 (C : FuncId → List AV → AV → Prop) (σ : St) (K : St → Prop) : runReg C r_we_19 σ K = runOps C [⟨(.bin .add (.t 32) (.c (.int .i64 1))), (some 61), none, [], []⟩, ⟨(.mv (.t 61)), (some 32), none, [], []⟩] (σ.kills []) K := rfl
theorem e_we_21 (C : FuncId → List AV → AV → Prop) (σ : St) (K : St → Prop) : runReg C r_we_21 σ K = runOps C t_we_21 (σ.kills []) K := rfl
theorem e_we_22 (C : FuncId → List AV → AV → Prop) (σ : St) (K : St → Prop) : runReg C r_we_22 σ K = runOps C [⟨(.bin .lss (.t 64) (.t 63)), (some 65), none, [], []⟩] (σ.kills []) K := rfl
theorem e_we_23 (C : FuncId → List AV → AV → Prop) (σ : St) (K : St → Prop) : runReg C r_we_23 σ K = runOps C t_we_23 (σ.kills [12]) K := rfl
theorem e_we_24 (C : FuncId → List AV → AV → Prop) (σ : St) (K : St → Prop) : runReg C r_we_24 σ K = runOps C t_we_24 (σ.kills [73]) K := rfl
theorem e_we_25 (C : FuncId → List AV → AV → Prop) (σ : St) (K : St → Prop) : runReg C r_we_25 σ K = runOps C [⟨(.mv (.c (.bool false))), (some 4), none, [], []⟩] (σ.kills []) K := rfl
theorem e_we_26 (C : FuncId → List AV → AV → Prop) (σ : St) (K : St → Prop) : runReg C r_we_26 σ K = runOps C [⟨(.bin .add (.t 64) (.c (.int .i64 1))), (some 75), none, [], []⟩, ⟨(.mv (.t 75)), (some 64), none, [], []⟩] (σ.kills []) K := rfl
theorem e_we_28 (C : FuncId → List AV → AV → Prop) (σ : St) (K : St → Prop) : runReg C r_we_28 σ K = runOps C t_we_28 (σ.kills []) K := rfl
theorem e_we_29 (C : FuncId → List AV → AV → Prop) (σ : St) (K : St → Prop) : runReg C r_we_29 σ K = runOps C [⟨(.bin .lss (.t 78) (.t 77)), (some 79), none, [], []⟩] (σ.kills []) K := rfl
theorem e_we_30 (C : FuncId → List AV → AV → Prop) (σ : St) (K : St → Prop) : runReg C r_we_30 σ K = runOps C t_we_30 (σ.kills [14]) K := rfl
theorem e_we_31 (C : FuncId → List AV → AV → Prop) (σ : St) (K : St → Prop) : runReg C r_we_31 σ K = runOps C t_we_31 (σ.kills [87]) K := rfl
theorem e_we_32 (C : FuncId → List AV → AV → Prop) (σ : St) (K : St → Prop) : runReg C r_we_32 σ K = runOps C [⟨(.mv (.c (.bool false))), (some 4), none, [], []⟩] (σ.kills []) K := rfl
theorem e_we_33 (C : FuncId → List AV → AV → Prop) (σ : St) (K : St → Prop) : runReg C r_we_33 σ K = runOps C [⟨(.bin .add (.t 78) (.c (.int .i64 1))), (some 89), none, [], []⟩, ⟨(.mv (.t 89)), (some 78), none, [], []⟩] (σ.kills []) K := rfl
theorem e_we_35 (C : FuncId → List AV → AV → Prop) (σ : St) (K : St → Prop) : runReg C r_we_35 σ K = runOps C [⟨(.callv (.c (.clo 4 [] [])) []), (some 90), none, [], []⟩, ⟨(.mv (.t 90)), (some 4), none, [], []⟩] (σ.kills [90]) K := rfl
theorem fn_we {args : List AV} {r : AV} (ha : args.length.ble Try.f3.ntmps = true) (h : run (AFn Try.prog) ir_we (endQ res_we r) (initSt args)) : AFn Try.prog 3 args r :=
  AFn.of_code (pv := false) (hint := fun _ => []) (c := Try.f3.body.getD .skip) (by kernel_rfl) (by kernel_rfl) Try.func3 (by kernel_rfl) (by kernel_rfl) (by kernel_rfl) (of_decide_eq_true (by kernel_rfl)) (Nat.le_of_ble_eq_true ha) (Nat.le_of_ble_eq_true (by kernel_rfl)) (run_ok h)
attribute [local go_sem ↓] ir_rag
attribute [local go_sem] res_rag e_rag_0 t_rag_0 e_rag_1 t_rag_1
attribute [local go_sem ↓] ir_rri
attribute [local go_sem] res_rri e_rri_0 e_rri_1 e_rri_2 t_rri_2 e_rri_3 t_rri_3 h_rri_3 e_rri_4 e_rri_5 t_rri_5 e_rri_7
attribute [local go_sem ↓] ir_rha
attribute [local go_sem] res_rha e_rha_0 e_rha_1 e_rha_2 t_rha_2 e_rha_3 t_rha_3 e_rha_4 e_rha_5 t_rha_5 e_rha_7
attribute [local go_sem ↓] ir_we
attribute [local go_sem] res_we e_we_0 e_we_1 t_we_1 e_we_2 e_we_3 t_we_3 e_we_4 t_we_4 e_we_5 e_we_6 e_we_7 t_we_7 e_we_8 e_we_9 t_we_9 e_we_10 t_we_10 e_we_11 e_we_12 t_we_12 e_we_13 t_we_13 h_we_13 e_we_14 e_we_15 t_we_15 e_we_16 t_we_16 e_we_17 e_we_19 e_we_21 t_we_21 e_we_22 e_we_23 t_we_23 e_we_24 t_we_24 e_we_25 e_we_26 e_we_28 t_we_28 e_we_29 e_we_30 t_we_30 e_we_31 t_we_31 e_we_32 e_we_33 e_we_35
theorem rag_ok (a b : Hld) : AFn Try.prog 8 [a.a, b.a] (.bool (agB a b)) := by
  refine fn_rag rfl ?_
  unfold agB
  obtain ⟨at_, as_, aw⟩ := a
  obtain ⟨bt, bs, bw⟩ := b
  cases q1 : as_ == bs <;> cases q2 : at_ != bt <;> cases aw <;> cases bw <;> (simp (maxSteps := 4000000) only [go_sem, ↓reduceIte, reduceCtorEq, Nat.reduceEqDiff, Nat.reduceBEq, Nat.reduceAdd, Nat.reduceSub, Nat.reduceMul, Nat.reduceLT, Nat.reduceLeDiff, Nat.reduceBNe, Int.reduceBEq, Int.reduceBNe, Int.reduceLT, Int.reduceLE, edA, Hld.a, q1, q2])
def rriInv (l : List Edge) (k : Nat) (σ : St) : Prop :=
  ∃ i : Nat, k = l.length - (i + 1) ∧ σ.T 0 = .sl (l.map edA) ∧ σ.T 3 = .int .i64 ((i + 1 : Nat) : Int)
set_option maxHeartbeats 4000000 in
theorem rri_ok (l : List Edge) (hr : RiseE l) (hl : l.length ≤ 1000000) : AFn Try.prog 6 [.sl (l.map edA)] (.bool true) := by
  refine fn_rri rfl ?_
  simp (maxSteps := 4000000) only [go_sem, ↓reduceIte, reduceCtorEq, Nat.reduceEqDiff, Nat.reduceBEq, Nat.reduceAdd, Nat.reduceSub, Nat.reduceMul, Nat.reduceLT, Nat.reduceLeDiff, Nat.reduceBNe, Int.reduceBEq, Int.reduceBNe, Int.reduceLT, Int.reduceLE, edA, Hld.a]
  refine run_loop (rriInv l) (k := l.length - 1) ⟨0, rfl, ?_, ?_⟩ ?_
  · (simp (maxSteps := 4000000) only [go_sem, ↓reduceIte, reduceCtorEq, Nat.reduceEqDiff, Nat.reduceBEq, Nat.reduceAdd, Nat.reduceSub, Nat.reduceMul, Nat.reduceLT, Nat.reduceLeDiff, Nat.reduceBNe, Int.reduceBEq, Int.reduceBNe, Int.reduceLT, Int.reduceLE, edA, Hld.a]) <;> rfl
  · (simp (maxSteps := 4000000) only [go_sem, ↓reduceIte, reduceCtorEq, Nat.reduceEqDiff, Nat.reduceBEq, Nat.reduceAdd, Nat.reduceSub, Nat.reduceMul, Nat.reduceLT, Nat.reduceLeDiff, Nat.reduceBNe, Int.reduceBEq, Int.reduceBNe, Int.reduceLT, Int.reduceLE, edA, Hld.a]) <;> rfl
  rintro k σ ⟨i, rfl, t0, t3⟩
  simp only [r_rri_l6]
  by_cases hlt : i + 1 < l.length
  case neg =>
    have hlt' : ¬ ((i + 1 : Nat) : Int) < (l.length : Int) := by omega
    simp (maxSteps := 4000000) only [go_sem, ↓reduceIte, reduceCtorEq, Nat.reduceEqDiff, Nat.reduceBEq, Nat.reduceAdd, Nat.reduceSub, Nat.reduceMul, Nat.reduceLT, Nat.reduceLeDiff, Nat.reduceBNe, Int.reduceBEq, Int.reduceBNe, Int.reduceLT, Int.reduceLE, edA, Hld.a, t0, t3, hlt', List.length_map]
  have hlt' : ((i + 1 : Nat) : Int) < (l.length : Int) := by omega
  obtain ⟨x, hx⟩ := getW hlt
  obtain ⟨y, hy⟩ := getW (show i < l.length by omega)
  have hgx := atE hx
  have hgy := atE hy
  have hwm := wrapM i (by omega)
  have hw := wrapW (j := i + 1) (by omega)
  have z0 : ∀ a : Nat, (0 : Int) ≤ (a : Int) := fun a => Int.natCast_nonneg a
  have hil : i < l.length := by omega
  have hil' : (i : Int) < (l.length : Int) := by omega
  have hyx : LtE y x := by
    have h1 := (List.getElem?_eq_some_iff.1 hy).2
    have h2 := (List.getElem?_eq_some_iff.1 hx).2
    have := List.pairwise_iff_getElem.1 hr i (i + 1) hil hlt (by omega)
    rwa [h1, h2] at this
  have g1 : ¬ x.1 < y.1 := by unfold LtE at hyx; omega
  rcases hyx with h1 | ⟨h1, h2⟩
  · have g2 : (y.1 == x.1) = false := by simp; omega
    simp (maxSteps := 4000000) only [go_sem, ↓reduceIte, reduceCtorEq, Nat.reduceEqDiff, Nat.reduceBEq, Nat.reduceAdd, Nat.reduceSub, Nat.reduceMul, Nat.reduceLT, Nat.reduceLeDiff, Nat.reduceBNe, Int.reduceBEq, Int.reduceBNe, Int.reduceLT, Int.reduceLE, edA, Hld.a, t0, t3, hlt', hlt, hgx, hgy, hwm, hw, z0, hil, hil', g1, g2, Int.toNat_natCast, List.length_map]
    (repeat refine And.intro (by omega) ?_)
    refine ⟨l.length - (i + 1 + 1), by omega, i + 1, rfl, ?_, ?_⟩
    · simp (maxSteps := 4000000) only [go_sem, ↓reduceIte, reduceCtorEq, Nat.reduceEqDiff, Nat.reduceBEq, Nat.reduceAdd, Nat.reduceSub, Nat.reduceMul, Nat.reduceLT, Nat.reduceLeDiff, Nat.reduceBNe, Int.reduceBEq, Int.reduceBNe, Int.reduceLT, Int.reduceLE, edA, Hld.a, t0]
    · simp (maxSteps := 4000000) only [go_sem, ↓reduceIte, reduceCtorEq, Nat.reduceEqDiff, Nat.reduceBEq, Nat.reduceAdd, Nat.reduceSub, Nat.reduceMul, Nat.reduceLT, Nat.reduceLeDiff, Nat.reduceBNe, Int.reduceBEq, Int.reduceBNe, Int.reduceLT, Int.reduceLE, edA, Hld.a, hw]
  · have g2 : (y.1 == x.1) = true := by simp [h1]
    have g3 : ¬ x.2 ≤ y.2 := by omega
    simp (maxSteps := 4000000) only [go_sem, ↓reduceIte, reduceCtorEq, Nat.reduceEqDiff, Nat.reduceBEq, Nat.reduceAdd, Nat.reduceSub, Nat.reduceMul, Nat.reduceLT, Nat.reduceLeDiff, Nat.reduceBNe, Int.reduceBEq, Int.reduceBNe, Int.reduceLT, Int.reduceLE, edA, Hld.a, t0, t3, hlt', hlt, hgx, hgy, hwm, hw, z0, hil, hil', g1, g2, g3, Int.toNat_natCast, List.length_map]
    (repeat refine And.intro (by omega) ?_)
    refine ⟨l.length - (i + 1 + 1), by omega, i + 1, rfl, ?_, ?_⟩
    · simp (maxSteps := 4000000) only [go_sem, ↓reduceIte, reduceCtorEq, Nat.reduceEqDiff, Nat.reduceBEq, Nat.reduceAdd, Nat.reduceSub, Nat.reduceMul, Nat.reduceLT, Nat.reduceLeDiff, Nat.reduceBNe, Int.reduceBEq, Int.reduceBNe, Int.reduceLT, Int.reduceLE, edA, Hld.a, t0]
    · simp (maxSteps := 4000000) only [go_sem, ↓reduceIte, reduceCtorEq, Nat.reduceEqDiff, Nat.reduceBEq, Nat.reduceAdd, Nat.reduceSub, Nat.reduceMul, Nat.reduceLT, Nat.reduceLeDiff, Nat.reduceBNe, Int.reduceBEq, Int.reduceBNe, Int.reduceLT, Int.reduceLE, edA, Hld.a, hw]
def hasEd (l : List Edge) (a b : Int) : Bool := l.any fun e => (e.1 == a) && (e.2 == b)
theorem hasEd_mem {l : List Edge} {e : Edge} (h : e ∈ l) : hasEd l e.1 e.2 = true := List.any_eq_true.2 ⟨e, h, by simp⟩
def rhaInv (l : List Edge) (a b : Int) (R : Bool) (k : Nat) (σ : St) : Prop :=
  ∃ j : Nat, j ≤ l.length ∧ k = l.length - j ∧ σ.T 0 = .sl (l.map edA) ∧ σ.T 1 = .int .i64 a ∧ σ.T 2 = .int .i64 b ∧ σ.T 7 = .int .i64 j ∧ hasEd (l.drop j) a b = R
set_option maxHeartbeats 4000000 in
theorem rha_ok (l : List Edge) (a b : Int) (hl : l.length ≤ 1000000) : AFn Try.prog 9 [.sl (l.map edA), .int .i64 a, .int .i64 b] (.bool (hasEd l a b)) := by
  refine fn_rha rfl ?_
  obtain ⟨R, hR⟩ : ∃ R, hasEd l a b = R := ⟨_, rfl⟩
  rw [hR]
  simp (maxSteps := 4000000) only [go_sem, ↓reduceIte, reduceCtorEq, Nat.reduceEqDiff, Nat.reduceBEq, Nat.reduceAdd, Nat.reduceSub, Nat.reduceMul, Nat.reduceLT, Nat.reduceLeDiff, Nat.reduceBNe, Int.reduceBEq, Int.reduceBNe, Int.reduceLT, Int.reduceLE, edA, Hld.a]
  refine run_loop (rhaInv l a b R) (k := l.length) ⟨0, by omega, rfl, ?_, ?_, ?_, ?_, hR⟩ ?_
  · (simp (maxSteps := 4000000) only [go_sem, ↓reduceIte, reduceCtorEq, Nat.reduceEqDiff, Nat.reduceBEq, Nat.reduceAdd, Nat.reduceSub, Nat.reduceMul, Nat.reduceLT, Nat.reduceLeDiff, Nat.reduceBNe, Int.reduceBEq, Int.reduceBNe, Int.reduceLT, Int.reduceLE, edA, Hld.a]) <;> rfl
  · (simp (maxSteps := 4000000) only [go_sem, ↓reduceIte, reduceCtorEq, Nat.reduceEqDiff, Nat.reduceBEq, Nat.reduceAdd, Nat.reduceSub, Nat.reduceMul, Nat.reduceLT, Nat.reduceLeDiff, Nat.reduceBNe, Int.reduceBEq, Int.reduceBNe, Int.reduceLT, Int.reduceLE, edA, Hld.a]) <;> rfl
  · (simp (maxSteps := 4000000) only [go_sem, ↓reduceIte, reduceCtorEq, Nat.reduceEqDiff, Nat.reduceBEq, Nat.reduceAdd, Nat.reduceSub, Nat.reduceMul, Nat.reduceLT, Nat.reduceLeDiff, Nat.reduceBNe, Int.reduceBEq, Int.reduceBNe, Int.reduceLT, Int.reduceLE, edA, Hld.a]) <;> rfl
  · (simp (maxSteps := 4000000) only [go_sem, ↓reduceIte, reduceCtorEq, Nat.reduceEqDiff, Nat.reduceBEq, Nat.reduceAdd, Nat.reduceSub, Nat.reduceMul, Nat.reduceLT, Nat.reduceLeDiff, Nat.reduceBNe, Int.reduceBEq, Int.reduceBNe, Int.reduceLT, Int.reduceLE, edA, Hld.a]) <;> rfl
  clear hR
  rintro k σ ⟨j, hj, rfl, t0, t1, t2, t7, hr⟩
  simp only [r_rha_l6]
  by_cases hlt : j < l.length
  case neg =>
    have hlt' : ¬ (j : Int) < (l.length : Int) := by omega
    rw [List.drop_eq_nil_of_le (by omega)] at hr
    have hr : false = R := hr
    subst hr
    simp (maxSteps := 4000000) only [go_sem, ↓reduceIte, reduceCtorEq, Nat.reduceEqDiff, Nat.reduceBEq, Nat.reduceAdd, Nat.reduceSub, Nat.reduceMul, Nat.reduceLT, Nat.reduceLeDiff, Nat.reduceBNe, Int.reduceBEq, Int.reduceBNe, Int.reduceLT, Int.reduceLE, edA, Hld.a, t0, t1, t2, t7, hlt', List.length_map]
  have hlt' : (j : Int) < (l.length : Int) := by omega
  obtain ⟨x, hx⟩ := getW hlt
  have hgx := atE hx
  have hw := wrapW (j := j) (by omega)
  have z0 : (0 : Int) ≤ (j : Int) := Int.natCast_nonneg _
  rw [dropW hx] at hr
  unfold hasEd at hr
  rw [List.any_cons] at hr
  cases q1 : x.1 == a <;> cases q2 : x.2 == b <;> rw [q1, q2] at hr
  case true.true =>
    have hr : true = R := by simpa using hr
    subst hr
    simp (maxSteps := 4000000) only [go_sem, ↓reduceIte, reduceCtorEq, Nat.reduceEqDiff, Nat.reduceBEq, Nat.reduceAdd, Nat.reduceSub, Nat.reduceMul, Nat.reduceLT, Nat.reduceLeDiff, Nat.reduceBNe, Int.reduceBEq, Int.reduceBNe, Int.reduceLT, Int.reduceLE, edA, Hld.a, t0, t1, t2, t7, hlt', hgx, q1, q2, hlt, z0, List.length_map, Int.toNat_natCast]
  all_goals
    have hr : hasEd (l.drop (j + 1)) a b = R := by unfold hasEd; simpa using hr
    simp (maxSteps := 4000000) only [go_sem, ↓reduceIte, reduceCtorEq, Nat.reduceEqDiff, Nat.reduceBEq, Nat.reduceAdd, Nat.reduceSub, Nat.reduceMul, Nat.reduceLT, Nat.reduceLeDiff, Nat.reduceBNe, Int.reduceBEq, Int.reduceBNe, Int.reduceLT, Int.reduceLE, edA, Hld.a, t0, t1, t2, t7, hlt', hgx, q1, q2, hw, hlt, z0, List.length_map, Int.toNat_natCast]
    (repeat refine And.intro (by omega) ?_)
    refine ⟨l.length - (j + 1), by omega, j + 1, by omega, rfl, ?_, ?_, ?_, ?_, hr⟩
    · simp (maxSteps := 4000000) only [go_sem, ↓reduceIte, reduceCtorEq, Nat.reduceEqDiff, Nat.reduceBEq, Nat.reduceAdd, Nat.reduceSub, Nat.reduceMul, Nat.reduceLT, Nat.reduceLeDiff, Nat.reduceBNe, Int.reduceBEq, Int.reduceBNe, Int.reduceLT, Int.reduceLE, edA, Hld.a, t0]
    · simp (maxSteps := 4000000) only [go_sem, ↓reduceIte, reduceCtorEq, Nat.reduceEqDiff, Nat.reduceBEq, Nat.reduceAdd, Nat.reduceSub, Nat.reduceMul, Nat.reduceLT, Nat.reduceLeDiff, Nat.reduceBNe, Int.reduceBEq, Int.reduceBNe, Int.reduceLT, Int.reduceLE, edA, Hld.a, t1]
    · simp (maxSteps := 4000000) only [go_sem, ↓reduceIte, reduceCtorEq, Nat.reduceEqDiff, Nat.reduceBEq, Nat.reduceAdd, Nat.reduceSub, Nat.reduceMul, Nat.reduceLT, Nat.reduceLeDiff, Nat.reduceBNe, Int.reduceBEq, Int.reduceBNe, Int.reduceLT, Int.reduceLE, edA, Hld.a, t2]
    · simp (maxSteps := 4000000) only [go_sem, ↓reduceIte, reduceCtorEq, Nat.reduceEqDiff, Nat.reduceBEq, Nat.reduceAdd, Nat.reduceSub, Nat.reduceMul, Nat.reduceLT, Nat.reduceLeDiff, Nat.reduceBNe, Int.reduceBEq, Int.reduceBNe, Int.reduceLT, Int.reduceLE, edA, Hld.a, hw]
theorem rise_edgesL {hs ws : List Hld} : RiseE (edgesL hs ws) := rise_comE (sorted_msE _)
theorem mem_edgesL {hs ws : List Hld} {e : Edge} : e ∈ edgesL hs ws ↔ e ∈ edgL ws hs := by
  unfold edgesL; rw [mem_comE, mem_msE]
theorem nodupE {l : List Edge} (h : RiseE l) : l.Nodup := h.imp fun h e => by subst e; exact LtE.irrefl h
theorem sub_lenE {a b : List Edge} (ha : a.Nodup) (h : ∀ x, x ∈ a → x ∈ b) : a.length ≤ b.length := by
  induction a generalizing b with
  | nil => exact Nat.zero_le _
  | cons x a ih =>
    have hx := List.nodup_cons.1 ha
    have hb := h x (by simp)
    have := ih (b := b.erase x) hx.2 (fun y hy => (List.mem_erase_of_ne (fun (e : y = x) => hx.1 (by rw [← e]; exact hy))).2 (h y (List.mem_cons_of_mem _ hy)))
    rw [List.length_erase_of_mem hb] at this
    have : 0 < b.length := List.length_pos_of_mem hb
    simp only [List.length_cons]
    omega
theorem edgesL_len {hs ws : List Hld} : (edgesL hs ws).length ≤ ws.length * hs.length :=
  Nat.le_trans (sub_lenE (nodupE rise_edgesL) fun e he => mem_edgesL.1 he) edgL_len
def weI (hs ws : List Hld) (i : Nat) (w : Hld) (k : Nat) (σ : St) : Prop :=
  ∃ (j : Nat) (out : List Edge), j ≤ hs.length ∧ k = hs.length - j ∧ out = edgL (ws.take i) hs ++ edgW w (hs.take j) ∧ σ.T 0 = .sl (hs.map Hld.a) ∧ σ.T 5 = .sl ((edgesL hs ws).map edA) ∧ σ.T 6 = .rs 6 0 out.length ∧ σ.H 6 = ObjE out ∧ σ.T 8 = .ptr 8 0 0 ∧ σ.H 8 = HldArr w ∧
    σ.T 30 = .sl (ws.map Hld.a) ∧ σ.T 31 = .int .i64 ws.length ∧ σ.T 32 = .int .i64 i ∧ σ.T 36 = .sl (hs.map Hld.a) ∧ σ.T 37 = .int .i64 hs.length ∧ σ.T 38 = .int .i64 j
def weO (hs ws : List Hld) (k : Nat) (σ : St) : Prop :=
  ∃ (i : Nat) (out : List Edge), i ≤ ws.length ∧ k = ws.length - i ∧ out = edgL (ws.take i) hs ∧ σ.T 0 = .sl (hs.map Hld.a) ∧ σ.T 5 = .sl ((edgesL hs ws).map edA) ∧ σ.T 6 = .rs 6 0 out.length ∧ σ.H 6 = ObjE out ∧
    σ.T 30 = .sl (ws.map Hld.a) ∧ σ.T 31 = .int .i64 ws.length ∧ σ.T 32 = .int .i64 i
def weA (hs ws : List Hld) (k : Nat) (σ : St) : Prop :=
  ∃ (i p : Nat), i ≤ (edgL ws hs).length ∧ k = (edgL ws hs).length - i ∧ p ≤ (edgL ws hs).length ∧ σ.T 5 = .sl ((edgesL hs ws).map edA) ∧ σ.T 6 = .rs 6 0 (edgL ws hs).length ∧ σ.H 6 = some ⟨2, 30, (edgL ws hs).map edA, p⟩ ∧
    σ.T 62 = .rs 6 0 (edgL ws hs).length ∧ σ.T 63 = .int .i64 (edgL ws hs).length ∧ σ.T 64 = .int .i64 i
def weB (hs ws : List Hld) (k : Nat) (σ : St) : Prop :=
  ∃ (i p : Nat), i ≤ (edgesL hs ws).length ∧ k = (edgesL hs ws).length - i ∧ p ≤ (edgL ws hs).length ∧ σ.T 6 = .rs 6 0 (edgL ws hs).length ∧ σ.H 6 = some ⟨2, 30, (edgL ws hs).map edA, p⟩ ∧
    σ.T 76 = .sl ((edgesL hs ws).map edA) ∧ σ.T 77 = .int .i64 (edgesL hs ws).length ∧ σ.T 78 = .int .i64 i
set_option maxHeartbeats 16000000 in
theorem we_ok (hs ws : List Hld) : AFn Try.prog 3 [.sl (hs.map Hld.a), .sl (ws.map Hld.a)] (.bool true) := by
  refine fn_we rfl ?_
  have c0 := aw13_ok
  by_cases hh : hs.length ≤ 60
  case neg =>
    have hh' : (60 : Int) < (hs.length : Int) := by omega
    (repeat (first | simp (maxSteps := 4000000) only [go_sem, ↓reduceIte, reduceCtorEq, Nat.reduceEqDiff, Nat.reduceBEq, Nat.reduceAdd, Nat.reduceSub, Nat.reduceMul, Nat.reduceLT, Nat.reduceLeDiff, Nat.reduceBNe, Int.reduceBEq, Int.reduceBNe, Int.reduceLT, Int.reduceLE, edA, Hld.a, hh', List.length_map] | refine calling (c0) ?_ | refine callingH (c0) ?_ | refine And.intro (by omega) ?_ | refine And.intro (fun d hd => by (repeat (rcases hd with rfl | hd; · exact ⟨rfl, rfl⟩)); cases hd) ?_))
  have hh' : ¬ (60 : Int) < (hs.length : Int) := by omega
  by_cases hw : ws.length ≤ 60
  case neg =>
    have hw' : (60 : Int) < (ws.length : Int) := by omega
    (repeat (first | simp (maxSteps := 4000000) only [go_sem, ↓reduceIte, reduceCtorEq, Nat.reduceEqDiff, Nat.reduceBEq, Nat.reduceAdd, Nat.reduceSub, Nat.reduceMul, Nat.reduceLT, Nat.reduceLeDiff, Nat.reduceBNe, Int.reduceBEq, Int.reduceBNe, Int.reduceLT, Int.reduceLE, edA, Hld.a, hh', hw', List.length_map] | refine calling (c0) ?_ | refine callingH (c0) ?_ | refine And.intro (by omega) ?_ | refine And.intro (fun d hd => by (repeat (rcases hd with rfl | hd; · exact ⟨rfl, rfl⟩)); cases hd) ?_))
  have hw' : ¬ (60 : Int) < (ws.length : Int) := by omega
  have hprod : ws.length * hs.length ≤ 60 * 60 := Nat.mul_le_mul hw hh
  have hel : (edgesL hs ws).length ≤ 3600 := by have := edgesL_len (hs := hs) (ws := ws); omega
  have hal : (edgL ws hs).length ≤ 3600 := by have := edgL_len (hs := hs) (ws := ws); omega
  have c1 := edg_ok hs ws (by omega) (by omega)
  have c2 := rri_ok (edgesL hs ws) rise_edgesL (by omega)
  (repeat (first | simp (maxSteps := 4000000) only [go_sem, ↓reduceIte, reduceCtorEq, Nat.reduceEqDiff, Nat.reduceBEq, Nat.reduceAdd, Nat.reduceSub, Nat.reduceMul, Nat.reduceLT, Nat.reduceLeDiff, Nat.reduceBNe, Int.reduceBEq, Int.reduceBNe, Int.reduceLT, Int.reduceLE, edA, Hld.a, hh', hw', List.length_map] | refine calling (c1) ?_ | refine callingH (c1) ?_ | refine calling (c2) ?_ | refine callingH (c2) ?_ | refine And.intro (by omega) ?_ | refine And.intro (fun d hd => by (repeat (rcases hd with rfl | hd; · exact ⟨rfl, rfl⟩)); cases hd) ?_))
  refine run_loop (weO hs ws) (k := ws.length) ⟨0, [], Nat.zero_le _, rfl, rfl, ?_, ?_, ?_, ?_, ?_, ?_, ?_⟩ ?_
  · (simp (maxSteps := 4000000) only [go_sem, ↓reduceIte, reduceCtorEq, Nat.reduceEqDiff, Nat.reduceBEq, Nat.reduceAdd, Nat.reduceSub, Nat.reduceMul, Nat.reduceLT, Nat.reduceLeDiff, Nat.reduceBNe, Int.reduceBEq, Int.reduceBNe, Int.reduceLT, Int.reduceLE, edA, Hld.a]) <;> rfl
  · (simp (maxSteps := 4000000) only [go_sem, ↓reduceIte, reduceCtorEq, Nat.reduceEqDiff, Nat.reduceBEq, Nat.reduceAdd, Nat.reduceSub, Nat.reduceMul, Nat.reduceLT, Nat.reduceLeDiff, Nat.reduceBNe, Int.reduceBEq, Int.reduceBNe, Int.reduceLT, Int.reduceLE, edA, Hld.a]) <;> rfl
  · (simp (maxSteps := 4000000) only [go_sem, ↓reduceIte, reduceCtorEq, Nat.reduceEqDiff, Nat.reduceBEq, Nat.reduceAdd, Nat.reduceSub, Nat.reduceMul, Nat.reduceLT, Nat.reduceLeDiff, Nat.reduceBNe, Int.reduceBEq, Int.reduceBNe, Int.reduceLT, Int.reduceLE, edA, Hld.a]) <;> rfl
  · (simp (maxSteps := 4000000) only [go_sem, ↓reduceIte, reduceCtorEq, Nat.reduceEqDiff, Nat.reduceBEq, Nat.reduceAdd, Nat.reduceSub, Nat.reduceMul, Nat.reduceLT, Nat.reduceLeDiff, Nat.reduceBNe, Int.reduceBEq, Int.reduceBNe, Int.reduceLT, Int.reduceLE, edA, Hld.a]) <;> rfl
  · (simp (maxSteps := 4000000) only [go_sem, ↓reduceIte, reduceCtorEq, Nat.reduceEqDiff, Nat.reduceBEq, Nat.reduceAdd, Nat.reduceSub, Nat.reduceMul, Nat.reduceLT, Nat.reduceLeDiff, Nat.reduceBNe, Int.reduceBEq, Int.reduceBNe, Int.reduceLT, Int.reduceLE, edA, Hld.a]) <;> rfl
  · (simp (maxSteps := 4000000) only [go_sem, ↓reduceIte, reduceCtorEq, Nat.reduceEqDiff, Nat.reduceBEq, Nat.reduceAdd, Nat.reduceSub, Nat.reduceMul, Nat.reduceLT, Nat.reduceLeDiff, Nat.reduceBNe, Int.reduceBEq, Int.reduceBNe, Int.reduceLT, Int.reduceLE, edA, Hld.a, List.length_map]) <;> rfl
  · (simp (maxSteps := 4000000) only [go_sem, ↓reduceIte, reduceCtorEq, Nat.reduceEqDiff, Nat.reduceBEq, Nat.reduceAdd, Nat.reduceSub, Nat.reduceMul, Nat.reduceLT, Nat.reduceLeDiff, Nat.reduceBNe, Int.reduceBEq, Int.reduceBNe, Int.reduceLT, Int.reduceLE, edA, Hld.a]) <;> rfl
  rintro k σ ⟨i, out, hi, rfl, hout, t0, t5, t6, h6, t30, t31, t32⟩
  simp only [r_we_l20]
  by_cases hlt : i < ws.length
  case neg =>
    have hlt' : ¬ (i : Int) < (ws.length : Int) := by omega
    rw [List.take_of_length_le (by omega)] at hout
    subst hout
    unfold ObjE at h6
    simp (maxSteps := 4000000) only [go_sem, ↓reduceIte, reduceCtorEq, Nat.reduceEqDiff, Nat.reduceBEq, Nat.reduceAdd, Nat.reduceSub, Nat.reduceMul, Nat.reduceLT, Nat.reduceLeDiff, Nat.reduceBNe, Int.reduceBEq, Int.reduceBNe, Int.reduceLT, Int.reduceLE, edA, Hld.a, t5, t6, h6, t31, t32, hlt']
    have tk : List.take (edgL ws hs).length ((edgL ws hs).map edA) = (edgL ws hs).map edA := List.take_of_length_le (by simp)
    refine run_loop (weA hs ws) (k := (edgL ws hs).length) ⟨0, 0, Nat.zero_le _, rfl, Nat.zero_le _, ?_, ?_, ?_, ?_, ?_, ?_⟩ ?_
    · simp (maxSteps := 4000000) only [go_sem, ↓reduceIte, reduceCtorEq, Nat.reduceEqDiff, Nat.reduceBEq, Nat.reduceAdd, Nat.reduceSub, Nat.reduceMul, Nat.reduceLT, Nat.reduceLeDiff, Nat.reduceBNe, Int.reduceBEq, Int.reduceBNe, Int.reduceLT, Int.reduceLE, edA, Hld.a, t5]
    · simp (maxSteps := 4000000) only [go_sem, ↓reduceIte, reduceCtorEq, Nat.reduceEqDiff, Nat.reduceBEq, Nat.reduceAdd, Nat.reduceSub, Nat.reduceMul, Nat.reduceLT, Nat.reduceLeDiff, Nat.reduceBNe, Int.reduceBEq, Int.reduceBNe, Int.reduceLT, Int.reduceLE, edA, Hld.a, t6]
    · simp (maxSteps := 4000000) only [go_sem, ↓reduceIte, reduceCtorEq, Nat.reduceEqDiff, Nat.reduceBEq, Nat.reduceAdd, Nat.reduceSub, Nat.reduceMul, Nat.reduceLT, Nat.reduceLeDiff, Nat.reduceBNe, Int.reduceBEq, Int.reduceBNe, Int.reduceLT, Int.reduceLE, edA, Hld.a, h6]
    · simp (maxSteps := 4000000) only [go_sem, ↓reduceIte, reduceCtorEq, Nat.reduceEqDiff, Nat.reduceBEq, Nat.reduceAdd, Nat.reduceSub, Nat.reduceMul, Nat.reduceLT, Nat.reduceLeDiff, Nat.reduceBNe, Int.reduceBEq, Int.reduceBNe, Int.reduceLT, Int.reduceLE, edA, Hld.a]
    · simp (maxSteps := 4000000) only [go_sem, ↓reduceIte, reduceCtorEq, Nat.reduceEqDiff, Nat.reduceBEq, Nat.reduceAdd, Nat.reduceSub, Nat.reduceMul, Nat.reduceLT, Nat.reduceLeDiff, Nat.reduceBNe, Int.reduceBEq, Int.reduceBNe, Int.reduceLT, Int.reduceLE, edA, Hld.a]
    · (simp (maxSteps := 4000000) only [go_sem, ↓reduceIte, reduceCtorEq, Nat.reduceEqDiff, Nat.reduceBEq, Nat.reduceAdd, Nat.reduceSub, Nat.reduceMul, Nat.reduceLT, Nat.reduceLeDiff, Nat.reduceBNe, Int.reduceBEq, Int.reduceBNe, Int.reduceLT, Int.reduceLE, edA, Hld.a]) <;> rfl
    clear t0 t5 t6 h6 t30 t31 t32
    rintro k σ ⟨i, p, hi, rfl, hp, t5, t6, h6, t62, t63, t64⟩
    simp only [r_we_l27]
    by_cases hil : i < (edgL ws hs).length
    case neg =>
      have hil' : ¬ (i : Int) < ((edgL ws hs).length : Int) := by omega
      simp (maxSteps := 4000000) only [go_sem, ↓reduceIte, reduceCtorEq, Nat.reduceEqDiff, Nat.reduceBEq, Nat.reduceAdd, Nat.reduceSub, Nat.reduceMul, Nat.reduceLT, Nat.reduceLeDiff, Nat.reduceBNe, Int.reduceBEq, Int.reduceBNe, Int.reduceLT, Int.reduceLE, edA, Hld.a, t5, t6, h6, t63, t64, hil', List.length_map]
      refine run_loop (weB hs ws) (k := (edgesL hs ws).length) ⟨0, p, Nat.zero_le _, rfl, hp, ?_, ?_, ?_, ?_, ?_⟩ ?_
      · simp (maxSteps := 4000000) only [go_sem, ↓reduceIte, reduceCtorEq, Nat.reduceEqDiff, Nat.reduceBEq, Nat.reduceAdd, Nat.reduceSub, Nat.reduceMul, Nat.reduceLT, Nat.reduceLeDiff, Nat.reduceBNe, Int.reduceBEq, Int.reduceBNe, Int.reduceLT, Int.reduceLE, edA, Hld.a, t6]
      · simp (maxSteps := 4000000) only [go_sem, ↓reduceIte, reduceCtorEq, Nat.reduceEqDiff, Nat.reduceBEq, Nat.reduceAdd, Nat.reduceSub, Nat.reduceMul, Nat.reduceLT, Nat.reduceLeDiff, Nat.reduceBNe, Int.reduceBEq, Int.reduceBNe, Int.reduceLT, Int.reduceLE, edA, Hld.a, h6]
      · simp (maxSteps := 4000000) only [go_sem, ↓reduceIte, reduceCtorEq, Nat.reduceEqDiff, Nat.reduceBEq, Nat.reduceAdd, Nat.reduceSub, Nat.reduceMul, Nat.reduceLT, Nat.reduceLeDiff, Nat.reduceBNe, Int.reduceBEq, Int.reduceBNe, Int.reduceLT, Int.reduceLE, edA, Hld.a]
      · (simp (maxSteps := 4000000) only [go_sem, ↓reduceIte, reduceCtorEq, Nat.reduceEqDiff, Nat.reduceBEq, Nat.reduceAdd, Nat.reduceSub, Nat.reduceMul, Nat.reduceLT, Nat.reduceLeDiff, Nat.reduceBNe, Int.reduceBEq, Int.reduceBNe, Int.reduceLT, Int.reduceLE, edA, Hld.a, List.length_map])
      · (simp (maxSteps := 4000000) only [go_sem, ↓reduceIte, reduceCtorEq, Nat.reduceEqDiff, Nat.reduceBEq, Nat.reduceAdd, Nat.reduceSub, Nat.reduceMul, Nat.reduceLT, Nat.reduceLeDiff, Nat.reduceBNe, Int.reduceBEq, Int.reduceBNe, Int.reduceLT, Int.reduceLE, edA, Hld.a]) <;> rfl
      clear t5 t6 h6 t62 t63 t64
      rintro k σ ⟨i, p, hi, rfl, hp, t6, h6, t76, t77, t78⟩
      simp only [r_we_l34]
      by_cases hil : i < (edgesL hs ws).length
      case neg =>
        have hil' : ¬ (i : Int) < ((edgesL hs ws).length : Int) := by omega
        (repeat (first | simp (maxSteps := 4000000) only [go_sem, ↓reduceIte, reduceCtorEq, Nat.reduceEqDiff, Nat.reduceBEq, Nat.reduceAdd, Nat.reduceSub, Nat.reduceMul, Nat.reduceLT, Nat.reduceLeDiff, Nat.reduceBNe, Int.reduceBEq, Int.reduceBNe, Int.reduceLT, Int.reduceLE, edA, Hld.a, t77, t78, hil', List.length_map] | refine calling (c0) ?_ | refine callingH (c0) ?_ | refine And.intro (by omega) ?_ | refine And.intro (fun d hd => by (repeat (rcases hd with rfl | hd; · exact ⟨rfl, rfl⟩)); cases hd) ?_))
      have hil' : (i : Int) < ((edgesL hs ws).length : Int) := by omega
      obtain ⟨e, he⟩ := getW hil
      have hge := atE he
      have zi : (0 : Int) ≤ (i : Int) := Int.natCast_nonneg _
      have hwi := wrapW (j := i) (by omega)
      have c := rha_ok (edgL ws hs) e.1 e.2 (by omega)
      rw [hasEd_mem (mem_edgesL.1 (List.mem_of_getElem? he))] at c
      (repeat (first | simp (maxSteps := 4000000) only [go_sem, ↓reduceIte, reduceCtorEq, Nat.reduceEqDiff, Nat.reduceBEq, Nat.reduceAdd, Nat.reduceSub, Nat.reduceMul, Nat.reduceLT, Nat.reduceLeDiff, Nat.reduceBNe, Int.reduceBEq, Int.reduceBNe, Int.reduceLT, Int.reduceLE, edA, Hld.a, t6, h6, t76, t77, t78, hil', hil, hge, zi, hwi, tk, Int.toNat_natCast, List.length_map] | refine calling (c) ?_ | refine callingH (c) ?_ | refine And.intro (by omega) ?_ | refine And.intro (fun d hd => by (repeat (rcases hd with rfl | hd; · exact ⟨rfl, rfl⟩)); cases hd) ?_))
      refine ⟨(edgesL hs ws).length - (i + 1), by omega, i + 1, p, hil, rfl, hp, ?_, ?_, ?_, ?_, ?_⟩
      · simp (maxSteps := 4000000) only [go_sem, ↓reduceIte, reduceCtorEq, Nat.reduceEqDiff, Nat.reduceBEq, Nat.reduceAdd, Nat.reduceSub, Nat.reduceMul, Nat.reduceLT, Nat.reduceLeDiff, Nat.reduceBNe, Int.reduceBEq, Int.reduceBNe, Int.reduceLT, Int.reduceLE, edA, Hld.a, t6]
      · simp (maxSteps := 4000000) only [go_sem, ↓reduceIte, reduceCtorEq, Nat.reduceEqDiff, Nat.reduceBEq, Nat.reduceAdd, Nat.reduceSub, Nat.reduceMul, Nat.reduceLT, Nat.reduceLeDiff, Nat.reduceBNe, Int.reduceBEq, Int.reduceBNe, Int.reduceLT, Int.reduceLE, edA, Hld.a, h6]
      · simp (maxSteps := 4000000) only [go_sem, ↓reduceIte, reduceCtorEq, Nat.reduceEqDiff, Nat.reduceBEq, Nat.reduceAdd, Nat.reduceSub, Nat.reduceMul, Nat.reduceLT, Nat.reduceLeDiff, Nat.reduceBNe, Int.reduceBEq, Int.reduceBNe, Int.reduceLT, Int.reduceLE, edA, Hld.a, t76]
      · simp (maxSteps := 4000000) only [go_sem, ↓reduceIte, reduceCtorEq, Nat.reduceEqDiff, Nat.reduceBEq, Nat.reduceAdd, Nat.reduceSub, Nat.reduceMul, Nat.reduceLT, Nat.reduceLeDiff, Nat.reduceBNe, Int.reduceBEq, Int.reduceBNe, Int.reduceLT, Int.reduceLE, edA, Hld.a, t77]
      · simp (maxSteps := 4000000) only [go_sem, ↓reduceIte, reduceCtorEq, Nat.reduceEqDiff, Nat.reduceBEq, Nat.reduceAdd, Nat.reduceSub, Nat.reduceMul, Nat.reduceLT, Nat.reduceLeDiff, Nat.reduceBNe, Int.reduceBEq, Int.reduceBNe, Int.reduceLT, Int.reduceLE, edA, Hld.a, hwi]
    have hil' : (i : Int) < ((edgL ws hs).length : Int) := by omega
    obtain ⟨e, he⟩ := getW hil
    have hge := atE he
    have zi : (0 : Int) ≤ (i : Int) := Int.natCast_nonneg _
    have hwi := wrapW (j := i) (by omega)
    have c := rha_ok (edgesL hs ws) e.1 e.2 (by omega)
    rw [hasEd_mem (mem_edgesL.2 (List.mem_of_getElem? he))] at c
    (repeat (first | simp (maxSteps := 4000000) only [go_sem, ↓reduceIte, reduceCtorEq, Nat.reduceEqDiff, Nat.reduceBEq, Nat.reduceAdd, Nat.reduceSub, Nat.reduceMul, Nat.reduceLT, Nat.reduceLeDiff, Nat.reduceBNe, Int.reduceBEq, Int.reduceBNe, Int.reduceLT, Int.reduceLE, edA, Hld.a, t5, t6, h6, t62, t63, t64, hil', hil, hge, zi, hwi, tk, Int.toNat_natCast, List.length_map] | refine calling (c) ?_ | refine callingH (c) ?_ | refine And.intro (by omega) ?_ | refine And.intro (fun d hd => by (repeat (rcases hd with rfl | hd; · exact ⟨rfl, rfl⟩)); cases hd) ?_))
    refine ⟨(edgL ws hs).length - (i + 1), by omega, i + 1, p, hil, rfl, hp, ?_, ?_, ?_, ?_, ?_, ?_⟩
    · simp (maxSteps := 4000000) only [go_sem, ↓reduceIte, reduceCtorEq, Nat.reduceEqDiff, Nat.reduceBEq, Nat.reduceAdd, Nat.reduceSub, Nat.reduceMul, Nat.reduceLT, Nat.reduceLeDiff, Nat.reduceBNe, Int.reduceBEq, Int.reduceBNe, Int.reduceLT, Int.reduceLE, edA, Hld.a, t5]
    · simp (maxSteps := 4000000) only [go_sem, ↓reduceIte, reduceCtorEq, Nat.reduceEqDiff, Nat.reduceBEq, Nat.reduceAdd, Nat.reduceSub, Nat.reduceMul, Nat.reduceLT, Nat.reduceLeDiff, Nat.reduceBNe, Int.reduceBEq, Int.reduceBNe, Int.reduceLT, Int.reduceLE, edA, Hld.a, t6]
    · simp (maxSteps := 4000000) only [go_sem, ↓reduceIte, reduceCtorEq, Nat.reduceEqDiff, Nat.reduceBEq, Nat.reduceAdd, Nat.reduceSub, Nat.reduceMul, Nat.reduceLT, Nat.reduceLeDiff, Nat.reduceBNe, Int.reduceBEq, Int.reduceBNe, Int.reduceLT, Int.reduceLE, edA, Hld.a, h6]
    · simp (maxSteps := 4000000) only [go_sem, ↓reduceIte, reduceCtorEq, Nat.reduceEqDiff, Nat.reduceBEq, Nat.reduceAdd, Nat.reduceSub, Nat.reduceMul, Nat.reduceLT, Nat.reduceLeDiff, Nat.reduceBNe, Int.reduceBEq, Int.reduceBNe, Int.reduceLT, Int.reduceLE, edA, Hld.a, t62]
    · simp (maxSteps := 4000000) only [go_sem, ↓reduceIte, reduceCtorEq, Nat.reduceEqDiff, Nat.reduceBEq, Nat.reduceAdd, Nat.reduceSub, Nat.reduceMul, Nat.reduceLT, Nat.reduceLeDiff, Nat.reduceBNe, Int.reduceBEq, Int.reduceBNe, Int.reduceLT, Int.reduceLE, edA, Hld.a, t63]
    · simp (maxSteps := 4000000) only [go_sem, ↓reduceIte, reduceCtorEq, Nat.reduceEqDiff, Nat.reduceBEq, Nat.reduceAdd, Nat.reduceSub, Nat.reduceMul, Nat.reduceLT, Nat.reduceLeDiff, Nat.reduceBNe, Int.reduceBEq, Int.reduceBNe, Int.reduceLT, Int.reduceLE, edA, Hld.a, hwi]
  have hlt' : (i : Int) < (ws.length : Int) := by omega
  obtain ⟨w, hwi⟩ := getW hlt
  have hge := atH hwi
  have z0 : (0 : Int) ≤ (i : Int) := Int.natCast_nonneg _
  have hwn := wrapW (j := i) (by omega)
  unfold ObjE at h6
  simp (maxSteps := 4000000) only [go_sem, ↓reduceIte, reduceCtorEq, Nat.reduceEqDiff, Nat.reduceBEq, Nat.reduceAdd, Nat.reduceSub, Nat.reduceMul, Nat.reduceLT, Nat.reduceLeDiff, Nat.reduceBNe, Int.reduceBEq, Int.reduceBNe, Int.reduceLT, Int.reduceLE, edA, Hld.a, t0, t5, t6, h6, t30, t31, t32, hlt', hlt, hge, z0, Int.toNat_natCast, List.length_map]
  refine run_loop (weI hs ws i w) (k := hs.length) ⟨0, out, Nat.zero_le _, rfl, by rw [hout]; simp [edgW], ?_, ?_, ?_, ?_, ?_, ?_, ?_, ?_, ?_, ?_, ?_, ?_⟩ ?_
  · simp (maxSteps := 4000000) only [go_sem, ↓reduceIte, reduceCtorEq, Nat.reduceEqDiff, Nat.reduceBEq, Nat.reduceAdd, Nat.reduceSub, Nat.reduceMul, Nat.reduceLT, Nat.reduceLeDiff, Nat.reduceBNe, Int.reduceBEq, Int.reduceBNe, Int.reduceLT, Int.reduceLE, edA, Hld.a, t0]
  · simp (maxSteps := 4000000) only [go_sem, ↓reduceIte, reduceCtorEq, Nat.reduceEqDiff, Nat.reduceBEq, Nat.reduceAdd, Nat.reduceSub, Nat.reduceMul, Nat.reduceLT, Nat.reduceLeDiff, Nat.reduceBNe, Int.reduceBEq, Int.reduceBNe, Int.reduceLT, Int.reduceLE, edA, Hld.a, t5]
  · simp (maxSteps := 4000000) only [go_sem, ↓reduceIte, reduceCtorEq, Nat.reduceEqDiff, Nat.reduceBEq, Nat.reduceAdd, Nat.reduceSub, Nat.reduceMul, Nat.reduceLT, Nat.reduceLeDiff, Nat.reduceBNe, Int.reduceBEq, Int.reduceBNe, Int.reduceLT, Int.reduceLE, edA, Hld.a, t6]
  · simp (maxSteps := 4000000) only [go_sem, ↓reduceIte, reduceCtorEq, Nat.reduceEqDiff, Nat.reduceBEq, Nat.reduceAdd, Nat.reduceSub, Nat.reduceMul, Nat.reduceLT, Nat.reduceLeDiff, Nat.reduceBNe, Int.reduceBEq, Int.reduceBNe, Int.reduceLT, Int.reduceLE, edA, Hld.a, h6, ObjE]
  · simp (maxSteps := 4000000) only [go_sem, ↓reduceIte, reduceCtorEq, Nat.reduceEqDiff, Nat.reduceBEq, Nat.reduceAdd, Nat.reduceSub, Nat.reduceMul, Nat.reduceLT, Nat.reduceLeDiff, Nat.reduceBNe, Int.reduceBEq, Int.reduceBNe, Int.reduceLT, Int.reduceLE, edA, Hld.a]
  · simp (maxSteps := 4000000) only [go_sem, ↓reduceIte, reduceCtorEq, Nat.reduceEqDiff, Nat.reduceBEq, Nat.reduceAdd, Nat.reduceSub, Nat.reduceMul, Nat.reduceLT, Nat.reduceLeDiff, Nat.reduceBNe, Int.reduceBEq, Int.reduceBNe, Int.reduceLT, Int.reduceLE, edA, Hld.a, HldArr]
  · simp (maxSteps := 4000000) only [go_sem, ↓reduceIte, reduceCtorEq, Nat.reduceEqDiff, Nat.reduceBEq, Nat.reduceAdd, Nat.reduceSub, Nat.reduceMul, Nat.reduceLT, Nat.reduceLeDiff, Nat.reduceBNe, Int.reduceBEq, Int.reduceBNe, Int.reduceLT, Int.reduceLE, edA, Hld.a, t30]
  · simp (maxSteps := 4000000) only [go_sem, ↓reduceIte, reduceCtorEq, Nat.reduceEqDiff, Nat.reduceBEq, Nat.reduceAdd, Nat.reduceSub, Nat.reduceMul, Nat.reduceLT, Nat.reduceLeDiff, Nat.reduceBNe, Int.reduceBEq, Int.reduceBNe, Int.reduceLT, Int.reduceLE, edA, Hld.a, t31]
  · simp (maxSteps := 4000000) only [go_sem, ↓reduceIte, reduceCtorEq, Nat.reduceEqDiff, Nat.reduceBEq, Nat.reduceAdd, Nat.reduceSub, Nat.reduceMul, Nat.reduceLT, Nat.reduceLeDiff, Nat.reduceBNe, Int.reduceBEq, Int.reduceBNe, Int.reduceLT, Int.reduceLE, edA, Hld.a, t32]
  · simp (maxSteps := 4000000) only [go_sem, ↓reduceIte, reduceCtorEq, Nat.reduceEqDiff, Nat.reduceBEq, Nat.reduceAdd, Nat.reduceSub, Nat.reduceMul, Nat.reduceLT, Nat.reduceLeDiff, Nat.reduceBNe, Int.reduceBEq, Int.reduceBNe, Int.reduceLT, Int.reduceLE, edA, Hld.a]
  · simp (maxSteps := 4000000) only [go_sem, ↓reduceIte, reduceCtorEq, Nat.reduceEqDiff, Nat.reduceBEq, Nat.reduceAdd, Nat.reduceSub, Nat.reduceMul, Nat.reduceLT, Nat.reduceLeDiff, Nat.reduceBNe, Int.reduceBEq, Int.reduceBNe, Int.reduceLT, Int.reduceLE, edA, Hld.a]
  · (simp (maxSteps := 4000000) only [go_sem, ↓reduceIte, reduceCtorEq, Nat.reduceEqDiff, Nat.reduceBEq, Nat.reduceAdd, Nat.reduceSub, Nat.reduceMul, Nat.reduceLT, Nat.reduceLeDiff, Nat.reduceBNe, Int.reduceBEq, Int.reduceBNe, Int.reduceLT, Int.reduceLE, edA, Hld.a]) <;> rfl
  clear hout t0 t5 t6 h6 t30 t31 t32
  rintro k σ ⟨j, out, hj, rfl, hout, t0, t5, t6, h6, t8, h8, t30, t31, t32, t36, t37, t38⟩
  simp only [r_we_l18]
  by_cases hjl : j < hs.length
  case neg =>
    have hjl' : ¬ (j : Int) < (hs.length : Int) := by omega
    have hfull : hs.take j = hs := List.take_of_length_le (by omega)
    rw [hfull, ← edgL_snoc hwi] at hout
    simp (maxSteps := 4000000) only [go_sem, ↓reduceIte, reduceCtorEq, Nat.reduceEqDiff, Nat.reduceBEq, Nat.reduceAdd, Nat.reduceSub, Nat.reduceMul, Nat.reduceLT, Nat.reduceLeDiff, Nat.reduceBNe, Int.reduceBEq, Int.reduceBNe, Int.reduceLT, Int.reduceLE, edA, Hld.a, t32, t37, t38, hjl', hwn]
    (repeat refine And.intro (by omega) ?_)
    refine ⟨ws.length - (i + 1), by omega, i + 1, out, hlt, rfl, hout, ?_, ?_, ?_, ?_, ?_, ?_, ?_⟩
    · simp (maxSteps := 4000000) only [go_sem, ↓reduceIte, reduceCtorEq, Nat.reduceEqDiff, Nat.reduceBEq, Nat.reduceAdd, Nat.reduceSub, Nat.reduceMul, Nat.reduceLT, Nat.reduceLeDiff, Nat.reduceBNe, Int.reduceBEq, Int.reduceBNe, Int.reduceLT, Int.reduceLE, edA, Hld.a, t0]
    · simp (maxSteps := 4000000) only [go_sem, ↓reduceIte, reduceCtorEq, Nat.reduceEqDiff, Nat.reduceBEq, Nat.reduceAdd, Nat.reduceSub, Nat.reduceMul, Nat.reduceLT, Nat.reduceLeDiff, Nat.reduceBNe, Int.reduceBEq, Int.reduceBNe, Int.reduceLT, Int.reduceLE, edA, Hld.a, t5]
    · simp (maxSteps := 4000000) only [go_sem, ↓reduceIte, reduceCtorEq, Nat.reduceEqDiff, Nat.reduceBEq, Nat.reduceAdd, Nat.reduceSub, Nat.reduceMul, Nat.reduceLT, Nat.reduceLeDiff, Nat.reduceBNe, Int.reduceBEq, Int.reduceBNe, Int.reduceLT, Int.reduceLE, edA, Hld.a, t6]
    · simp (maxSteps := 4000000) only [go_sem, ↓reduceIte, reduceCtorEq, Nat.reduceEqDiff, Nat.reduceBEq, Nat.reduceAdd, Nat.reduceSub, Nat.reduceMul, Nat.reduceLT, Nat.reduceLeDiff, Nat.reduceBNe, Int.reduceBEq, Int.reduceBNe, Int.reduceLT, Int.reduceLE, edA, Hld.a, h6]
    · simp (maxSteps := 4000000) only [go_sem, ↓reduceIte, reduceCtorEq, Nat.reduceEqDiff, Nat.reduceBEq, Nat.reduceAdd, Nat.reduceSub, Nat.reduceMul, Nat.reduceLT, Nat.reduceLeDiff, Nat.reduceBNe, Int.reduceBEq, Int.reduceBNe, Int.reduceLT, Int.reduceLE, edA, Hld.a, t30]
    · simp (maxSteps := 4000000) only [go_sem, ↓reduceIte, reduceCtorEq, Nat.reduceEqDiff, Nat.reduceBEq, Nat.reduceAdd, Nat.reduceSub, Nat.reduceMul, Nat.reduceLT, Nat.reduceLeDiff, Nat.reduceBNe, Int.reduceBEq, Int.reduceBNe, Int.reduceLT, Int.reduceLE, edA, Hld.a, t31]
    · simp (maxSteps := 4000000) only [go_sem, ↓reduceIte, reduceCtorEq, Nat.reduceEqDiff, Nat.reduceBEq, Nat.reduceAdd, Nat.reduceSub, Nat.reduceMul, Nat.reduceLT, Nat.reduceLeDiff, Nat.reduceBNe, Int.reduceBEq, Int.reduceBNe, Int.reduceLT, Int.reduceLE, edA, Hld.a, hwn]
  have hjl' : (j : Int) < (hs.length : Int) := by omega
  obtain ⟨h, hhj⟩ := getW hjl
  have hgh := atH hhj
  have zj : (0 : Int) ≤ (j : Int) := Int.natCast_nonneg _
  have hwj := wrapW (j := j) (by omega)
  have hsn := edgW_snoc (w := w) hhj
  have hol : out.length ≤ 1001000 := by
    have h1 := edgL_len (hs := hs) (ws := ws.take i)
    have h2 := edgW_len (w := w) (hs := hs.take j)
    have h3 : (ws.take i).length * hs.length ≤ 1000 * 1000 := Nat.mul_le_mul (by rw [List.length_take]; omega) (by omega)
    rw [List.length_take] at h2
    rw [hout, List.length_append]
    omega
  have tk : List.take out.length (out.map edA) = out.map edA := List.take_of_length_le (by simp)
  have c := agw_ok w h
  have cr := rag_ok w h
  simp only [Hld.a] at c cr
  unfold ObjE at h6
  unfold HldArr at h8
  cases hag : agB w h with
  | false =>
    rw [hag] at c cr hsn
    rw [if_neg (by decide), List.append_nil] at hsn
    (repeat (first | simp (maxSteps := 4000000) only [go_sem, ↓reduceIte, reduceCtorEq, Nat.reduceEqDiff, Nat.reduceBEq, Nat.reduceAdd, Nat.reduceSub, Nat.reduceMul, Nat.reduceLT, Nat.reduceLeDiff, Nat.reduceBNe, Int.reduceBEq, Int.reduceBNe, Int.reduceLT, Int.reduceLE, edA, Hld.a, t0, t5, t6, h6, t8, h8, t30, t31, t32, t36, t37, t38, hjl', hjl, hgh, zj, hwj, Int.toNat_natCast, List.length_map] | refine calling (c) ?_ | refine callingH (c) ?_ | refine calling (cr) ?_ | refine callingH (cr) ?_ | refine And.intro (by omega) ?_ | refine And.intro (fun d hd => by (repeat (rcases hd with rfl | hd; · exact ⟨rfl, rfl⟩)); cases hd) ?_))
    (repeat refine And.intro (by omega) ?_)
    refine ⟨hs.length - (j + 1), by omega, j + 1, out, hjl, rfl, by rw [hsn]; exact hout, ?_, ?_, ?_, ?_, ?_, ?_, ?_, ?_, ?_, ?_, ?_, ?_⟩
    · simp (maxSteps := 4000000) only [go_sem, ↓reduceIte, reduceCtorEq, Nat.reduceEqDiff, Nat.reduceBEq, Nat.reduceAdd, Nat.reduceSub, Nat.reduceMul, Nat.reduceLT, Nat.reduceLeDiff, Nat.reduceBNe, Int.reduceBEq, Int.reduceBNe, Int.reduceLT, Int.reduceLE, edA, Hld.a, t0]
    · simp (maxSteps := 4000000) only [go_sem, ↓reduceIte, reduceCtorEq, Nat.reduceEqDiff, Nat.reduceBEq, Nat.reduceAdd, Nat.reduceSub, Nat.reduceMul, Nat.reduceLT, Nat.reduceLeDiff, Nat.reduceBNe, Int.reduceBEq, Int.reduceBNe, Int.reduceLT, Int.reduceLE, edA, Hld.a, t5]
    · simp (maxSteps := 4000000) only [go_sem, ↓reduceIte, reduceCtorEq, Nat.reduceEqDiff, Nat.reduceBEq, Nat.reduceAdd, Nat.reduceSub, Nat.reduceMul, Nat.reduceLT, Nat.reduceLeDiff, Nat.reduceBNe, Int.reduceBEq, Int.reduceBNe, Int.reduceLT, Int.reduceLE, edA, Hld.a, t6]
    · simp (maxSteps := 4000000) only [go_sem, ↓reduceIte, reduceCtorEq, Nat.reduceEqDiff, Nat.reduceBEq, Nat.reduceAdd, Nat.reduceSub, Nat.reduceMul, Nat.reduceLT, Nat.reduceLeDiff, Nat.reduceBNe, Int.reduceBEq, Int.reduceBNe, Int.reduceLT, Int.reduceLE, edA, Hld.a, h6, ObjE]
    · simp (maxSteps := 4000000) only [go_sem, ↓reduceIte, reduceCtorEq, Nat.reduceEqDiff, Nat.reduceBEq, Nat.reduceAdd, Nat.reduceSub, Nat.reduceMul, Nat.reduceLT, Nat.reduceLeDiff, Nat.reduceBNe, Int.reduceBEq, Int.reduceBNe, Int.reduceLT, Int.reduceLE, edA, Hld.a, t8]
    · simp (maxSteps := 4000000) only [go_sem, ↓reduceIte, reduceCtorEq, Nat.reduceEqDiff, Nat.reduceBEq, Nat.reduceAdd, Nat.reduceSub, Nat.reduceMul, Nat.reduceLT, Nat.reduceLeDiff, Nat.reduceBNe, Int.reduceBEq, Int.reduceBNe, Int.reduceLT, Int.reduceLE, edA, Hld.a, h8, HldArr]
    · simp (maxSteps := 4000000) only [go_sem, ↓reduceIte, reduceCtorEq, Nat.reduceEqDiff, Nat.reduceBEq, Nat.reduceAdd, Nat.reduceSub, Nat.reduceMul, Nat.reduceLT, Nat.reduceLeDiff, Nat.reduceBNe, Int.reduceBEq, Int.reduceBNe, Int.reduceLT, Int.reduceLE, edA, Hld.a, t30]
    · simp (maxSteps := 4000000) only [go_sem, ↓reduceIte, reduceCtorEq, Nat.reduceEqDiff, Nat.reduceBEq, Nat.reduceAdd, Nat.reduceSub, Nat.reduceMul, Nat.reduceLT, Nat.reduceLeDiff, Nat.reduceBNe, Int.reduceBEq, Int.reduceBNe, Int.reduceLT, Int.reduceLE, edA, Hld.a, t31]
    · simp (maxSteps := 4000000) only [go_sem, ↓reduceIte, reduceCtorEq, Nat.reduceEqDiff, Nat.reduceBEq, Nat.reduceAdd, Nat.reduceSub, Nat.reduceMul, Nat.reduceLT, Nat.reduceLeDiff, Nat.reduceBNe, Int.reduceBEq, Int.reduceBNe, Int.reduceLT, Int.reduceLE, edA, Hld.a, t32]
    · simp (maxSteps := 4000000) only [go_sem, ↓reduceIte, reduceCtorEq, Nat.reduceEqDiff, Nat.reduceBEq, Nat.reduceAdd, Nat.reduceSub, Nat.reduceMul, Nat.reduceLT, Nat.reduceLeDiff, Nat.reduceBNe, Int.reduceBEq, Int.reduceBNe, Int.reduceLT, Int.reduceLE, edA, Hld.a, t36]
    · simp (maxSteps := 4000000) only [go_sem, ↓reduceIte, reduceCtorEq, Nat.reduceEqDiff, Nat.reduceBEq, Nat.reduceAdd, Nat.reduceSub, Nat.reduceMul, Nat.reduceLT, Nat.reduceLeDiff, Nat.reduceBNe, Int.reduceBEq, Int.reduceBNe, Int.reduceLT, Int.reduceLE, edA, Hld.a, t37]
    · simp (maxSteps := 4000000) only [go_sem, ↓reduceIte, reduceCtorEq, Nat.reduceEqDiff, Nat.reduceBEq, Nat.reduceAdd, Nat.reduceSub, Nat.reduceMul, Nat.reduceLT, Nat.reduceLeDiff, Nat.reduceBNe, Int.reduceBEq, Int.reduceBNe, Int.reduceLT, Int.reduceLE, edA, Hld.a, hwj]
  | true =>
    rw [hag] at c cr hsn
    rw [if_pos rfl] at hsn
    (repeat (first | simp (maxSteps := 4000000) only [go_sem, ↓reduceIte, reduceCtorEq, Nat.reduceEqDiff, Nat.reduceBEq, Nat.reduceAdd, Nat.reduceSub, Nat.reduceMul, Nat.reduceLT, Nat.reduceLeDiff, Nat.reduceBNe, Int.reduceBEq, Int.reduceBNe, Int.reduceLT, Int.reduceLE, edA, Hld.a, t0, t5, t6, h6, t8, h8, t30, t31, t32, t36, t37, t38, hjl', hjl, hgh, zj, hwj, tk, Int.toNat_natCast, List.length_map, Nat.zero_add] | refine calling (c) ?_ | refine callingH (c) ?_ | refine calling (cr) ?_ | refine callingH (cr) ?_ | refine And.intro (by omega) ?_ | refine And.intro (fun d hd => by (repeat (rcases hd with rfl | hd; · exact ⟨rfl, rfl⟩)); cases hd) ?_))
    have one : ∀ d : AV, d = .agg [.int .i64 w.thread, .int .i64 h.thread] ∨ False → d.cells.length = 2 ∧ d.cells.all AV.one = true := fun d hd => by
      rcases hd with rfl | hd
      · exact ⟨rfl, rfl⟩
      · cases hd
    have hml : (out ++ [(w.thread, h.thread)]).length = out.length + 1 := List.length_append
    have hmm : (out ++ [(w.thread, h.thread)]).map edA = out.map edA ++ [.agg [.int .i64 w.thread, .int .i64 h.thread]] := List.map_append
    refine ⟨⟨⟨by omega, by omega⟩, one⟩, hs.length - (j + 1), by omega, j + 1, out ++ [(w.thread, h.thread)], hjl, rfl, by rw [hsn, ← List.append_assoc, ← hout], ?_, ?_, ?_, ?_, ?_, ?_, ?_, ?_, ?_, ?_, ?_, ?_⟩
    · simp (maxSteps := 4000000) only [go_sem, ↓reduceIte, reduceCtorEq, Nat.reduceEqDiff, Nat.reduceBEq, Nat.reduceAdd, Nat.reduceSub, Nat.reduceMul, Nat.reduceLT, Nat.reduceLeDiff, Nat.reduceBNe, Int.reduceBEq, Int.reduceBNe, Int.reduceLT, Int.reduceLE, edA, Hld.a, t0]
    · simp (maxSteps := 4000000) only [go_sem, ↓reduceIte, reduceCtorEq, Nat.reduceEqDiff, Nat.reduceBEq, Nat.reduceAdd, Nat.reduceSub, Nat.reduceMul, Nat.reduceLT, Nat.reduceLeDiff, Nat.reduceBNe, Int.reduceBEq, Int.reduceBNe, Int.reduceLT, Int.reduceLE, edA, Hld.a, t5]
    · simp (maxSteps := 4000000) only [go_sem, ↓reduceIte, reduceCtorEq, Nat.reduceEqDiff, Nat.reduceBEq, Nat.reduceAdd, Nat.reduceSub, Nat.reduceMul, Nat.reduceLT, Nat.reduceLeDiff, Nat.reduceBNe, Int.reduceBEq, Int.reduceBNe, Int.reduceLT, Int.reduceLE, edA, Hld.a, hml]
    · simp (maxSteps := 4000000) only [go_sem, ↓reduceIte, reduceCtorEq, Nat.reduceEqDiff, Nat.reduceBEq, Nat.reduceAdd, Nat.reduceSub, Nat.reduceMul, Nat.reduceLT, Nat.reduceLeDiff, Nat.reduceBNe, Int.reduceBEq, Int.reduceBNe, Int.reduceLT, Int.reduceLE, edA, Hld.a, h6, ObjE, hmm, tk]
    · simp (maxSteps := 4000000) only [go_sem, ↓reduceIte, reduceCtorEq, Nat.reduceEqDiff, Nat.reduceBEq, Nat.reduceAdd, Nat.reduceSub, Nat.reduceMul, Nat.reduceLT, Nat.reduceLeDiff, Nat.reduceBNe, Int.reduceBEq, Int.reduceBNe, Int.reduceLT, Int.reduceLE, edA, Hld.a, t8]
    · simp (maxSteps := 4000000) only [go_sem, ↓reduceIte, reduceCtorEq, Nat.reduceEqDiff, Nat.reduceBEq, Nat.reduceAdd, Nat.reduceSub, Nat.reduceMul, Nat.reduceLT, Nat.reduceLeDiff, Nat.reduceBNe, Int.reduceBEq, Int.reduceBNe, Int.reduceLT, Int.reduceLE, edA, Hld.a, h8, HldArr]
    · simp (maxSteps := 4000000) only [go_sem, ↓reduceIte, reduceCtorEq, Nat.reduceEqDiff, Nat.reduceBEq, Nat.reduceAdd, Nat.reduceSub, Nat.reduceMul, Nat.reduceLT, Nat.reduceLeDiff, Nat.reduceBNe, Int.reduceBEq, Int.reduceBNe, Int.reduceLT, Int.reduceLE, edA, Hld.a, t30]
    · simp (maxSteps := 4000000) only [go_sem, ↓reduceIte, reduceCtorEq, Nat.reduceEqDiff, Nat.reduceBEq, Nat.reduceAdd, Nat.reduceSub, Nat.reduceMul, Nat.reduceLT, Nat.reduceLeDiff, Nat.reduceBNe, Int.reduceBEq, Int.reduceBNe, Int.reduceLT, Int.reduceLE, edA, Hld.a, t31]
    · simp (maxSteps := 4000000) only [go_sem, ↓reduceIte, reduceCtorEq, Nat.reduceEqDiff, Nat.reduceBEq, Nat.reduceAdd, Nat.reduceSub, Nat.reduceMul, Nat.reduceLT, Nat.reduceLeDiff, Nat.reduceBNe, Int.reduceBEq, Int.reduceBNe, Int.reduceLT, Int.reduceLE, edA, Hld.a, t32]
    · simp (maxSteps := 4000000) only [go_sem, ↓reduceIte, reduceCtorEq, Nat.reduceEqDiff, Nat.reduceBEq, Nat.reduceAdd, Nat.reduceSub, Nat.reduceMul, Nat.reduceLT, Nat.reduceLeDiff, Nat.reduceBNe, Int.reduceBEq, Int.reduceBNe, Int.reduceLT, Int.reduceLE, edA, Hld.a, t36]
    · simp (maxSteps := 4000000) only [go_sem, ↓reduceIte, reduceCtorEq, Nat.reduceEqDiff, Nat.reduceBEq, Nat.reduceAdd, Nat.reduceSub, Nat.reduceMul, Nat.reduceLT, Nat.reduceLeDiff, Nat.reduceBNe, Int.reduceBEq, Int.reduceBNe, Int.reduceLT, Int.reduceLE, edA, Hld.a, t37]
    · simp (maxSteps := 4000000) only [go_sem, ↓reduceIte, reduceCtorEq, Nat.reduceEqDiff, Nat.reduceBEq, Nat.reduceAdd, Nat.reduceSub, Nat.reduceMul, Nat.reduceLT, Nat.reduceLeDiff, Nat.reduceBNe, Int.reduceBEq, Int.reduceBNe, Int.reduceLT, Int.reduceLE, edA, Hld.a, hwj]
theorem hlds_in {w : World} {v : Value} (h : ∃ ds, ReadsAs w (.sl HldT) [v] ds) : ∃ l : List Hld, (∀ x, x ∈ l → x.ok) ∧ VR (fun b _ => b < w.heap.size) w (.sl (l.map Hld.a)) v := by
  obtain ⟨ds, r⟩ := h
  obtain ⟨d, rfl, u⟩ := w_one r
  obtain ⟨l, hd, _, hok⟩ := w_sl Hld.a Hld.ok r.1 (fun c h => Hld.of h)
  cases hd
  exact ⟨l, hok, u⟩
theorem edges_walk (v0 v1 : Value) (w : World) (f0 : ∃ ds, ReadsAs w (.sl HldT) [v0] ds) (f1 : ∃ ds, ReadsAs w (.sl HldT) [v1] ds) :
    Calls Try.prog 3 #[v0, v1] w fun e w' => e = .returned (.bool true) ∧ Below w.heap.size w w' := by
  obtain ⟨hs, _, u0⟩ := hlds_in f0
  obtain ⟨ws, _, u1⟩ := hlds_in f1
  refine w_run (vs := [v0, v1]) rfl (fun j d x hj hx => ?_) (we_ok hs ws)
  match j with
  | 0 => cases hj; cases hx; exact u0
  | 1 => cases hj; cases hx; exact u1
  | j + 2 => simp at hj
end
section
/-
  'Rows.WaitsEdgesSaid' is proved: the law percolatelaw13.WaitsEdges returns true at every input, and its arguments read as they did. No condition.
-/
namespace waitsEdges
open Go.ChangeShapes Go.WideShapes Go.ChangeAt Go.RowKit
open Go.ChangeMaps (open_string shut_string)
set_option linter.unusedVariables false
set_option maxRecDepth 100000 in
theorem lifted (os : Os) (started : os.Started) (H : Type) (enc : TypeId × Value → H) :
    ReturnsInHanded {} Try.checked os 3 .any (Rows.waitsEdgesSpec.pre6 enc Try.prog Try.f3 Rows.waitsEdgesRow.domain false) (Rows.waitsEdgesSpec.post enc Try.prog Try.f3 false true false false) := by
  refine returnsInHanded_of_change_sized (C := Try.checked) ownK started (by kernel_rfl) Try.func3
    (ChangeSpec.witness6 (enc := enc) (C := Try.checked) false ⟨#[], #[.slice none 0 0, .slice none 0 0], []⟩ 8 (by kernel_rfl) (by kernel_rfl) (by kernel_rfl) (by kernel_rfl)) ?_
  intro W base args ds gs before hval0 hW hcnd hsz _
  have hval : ∀ (j : Nat) t v, Try.f3.params[j]? = some t → args[j]? = some v → Value.okWide Try.prog W .any base t v := hval0
  have hW' := hW
  obtain ⟨p, q, hA0, hV, rfl, hfz, hnd⟩ := hW
  have hA : DataW.TrodAll enc Try.prog W 0 (fun _ => true) true Try.f3.params.toList args.toList ds p := hA0
  rw [Try.params3] at hA hval
  obtain ⟨v0, vs0, d0, ds0, p0, q0, hargs, rfl, rfl, h0, r0⟩ := trodAll_cons hA
  obtain ⟨v1, vs1, d1, ds1, p1, q1, rfl, rfl, rfl, h1, r1⟩ := trodAll_cons r0
  obtain ⟨rfl, rfl, rfl⟩ := trodAll_nil r1
  obtain rfl : args = #[v0, v1] := by cases args; simp_all
  obtain ⟨rfl, rfl⟩ := trodVars_none hV
  have hw0 : (d0.weights Try.prog 22).all (· ≤ reachBytes) = true := weightsEach_mem hsz 0 22 d0 rfl rfl
  obtain ⟨s0, n0, c0, rfl⟩ := okWide_slice Try.underlying22 (hval 0 22 v0 rfl rfl)
  obtain ⟨fu0, ht0⟩ := h0
  have f0 : ∃ ds, ReadsAs W (.sl HldT) [.slice s0 n0 c0] ds := typed_in 8 (x := (d0, p0)) (by kernel_rfl) hw0 ht0
  have hw1 : (d1.weights Try.prog 22).all (· ≤ reachBytes) = true := weightsEach_mem hsz 1 22 d1 rfl rfl
  obtain ⟨s1, n1, c1, rfl⟩ := okWide_slice Try.underlying22 (hval 1 22 v1 rfl rfl)
  obtain ⟨fu1, ht1⟩ := h1
  have f1 : ∃ ds, ReadsAs W (.sl HldT) [.slice s1 n1 c1] ds := typed_in 8 (x := (d1, p1)) (by kernel_rfl) hw1 ht1
  refine (edges_walk _ _ W f0 f1).mono fun e W' ⟨he, hb⟩ => ?_
  subst he
  exact ⟨_, rfl, post_law laidOut hW' rfl rfl rfl rfl rfl Try.underlying4 (by intro t ht; rw [Try.params3] at ht; simp only [List.mem_cons, List.not_mem_nil, or_false] at ht; rcases ht with rfl | rfl <;> exact ⟨by kernel_rfl, of_decide_eq_true (by kernel_rfl)⟩) hb⟩
theorem proved : Rows.WaitsEdgesSaid :=
  OpenClaim.holds_of_wide 3 Try.f3 rfl rfl rfl rfl rfl rfl rfl ⟨rfl, rfl, rfl, rfl, rfl⟩ rfl rfl rfl rfl rfl (by kernel_rfl) Try.func3 (by kernel_rfl)
    (of_decide_eq_true (by kernel_rfl)) (by unfold Func.isWrapper; first | (rw [if_pos (by decide +kernel)]; kernel_rfl) | (rw [if_neg (by decide +kernel)]; exact ⟨rfl, rfl⟩))
    (fun os started H enc _ => lifted os started H enc)
end waitsEdges
end
end Go.Proofs.Ytcpendbmohfjcaa
