/-
  Part 7 of a proof: HsA, HsB, HsC.
-/
import Derived.Test.YtjkicoiiadgebaaHT6
namespace Go.Proofs.Ytjkicoiiadgebaa
attribute [local go_sem] ev0 ev1 ev2 ev3 ev4 evA stHOk.eq_1 stHOk.eq_2 stHSt.eq_1 stHSt.eq_2 okV valV fzV okF valF okBld valBld mxOk.eq_1 mxOk.eq_2 mxVal.eq_1 mxVal.eq_2 cellFit.eq_1 cellFit.eq_2 cellFit.eq_3 cellEq.eq_1 cellEq.eq_2 cellEq.eq_3 upd_at AV.flatB AV.flatBs binIok binIV binSok binSV cellsOk.eq_1 cellsOk.eq_2 cellsVal.eq_1 cellsVal.eq_2 objCells.eq_1 objCells.eq_2 objZ.eq_1 objZ.eq_2 objProt.eq_1 objProt.eq_2 oneObj ptrOk.eq_1 ptrOk.eq_2 ptrOk.eq_3 ptrCells.eq_1 ptrCells.eq_2 ptrCells.eq_3 lenOk.eq_1 lenOk.eq_2 lenOk.eq_3 lenOk.eq_4 lenVal.eq_1 lenVal.eq_2 lenVal.eq_3 lenVal.eq_4 faOk.eq_1 faOk.eq_2 faOk.eq_3 faVal.eq_1 faVal.eq_2 faVal.eq_3 iaOk.eq_1 iaOk.eq_2 iaOk.eq_3 iaVal.eq_1 iaVal.eq_2 iaVal.eq_3 slcLen.eq_1 slcLen.eq_2 slcLen.eq_3 slcLen.eq_4 bdOk.eq_1 bdOk.eq_2 bdVal.eq_1 bdVal.eq_2 slcOk.eq_1 slcOk.eq_2 slcOk.eq_3 slcOk.eq_4 slcVal.eq_1 slcVal.eq_2 slcVal.eq_3 slcVal.eq_4 slcFz.eq_1 slcFz.eq_2 loK.eq_1 loK.eq_2 loK.eq_3 rsVal.eq_1 rsVal.eq_2 rsVal.eq_3 byOk.eq_1 byOk.eq_2 byOk.eq_3 byOk.eq_4 byOk.eq_5 byOk.eq_6 byOk.eq_7 byOk.eq_8 byVal.eq_1 byVal.eq_2 byVal.eq_3 byFz.eq_1 byFz.eq_2 byFz.eq_3 byOks byVals byFzs allOne resSt.eq_1 resSt.eq_2 resName.eq_1 resName.eq_2 stOk.eq_1 stOk.eq_2 stArr.eq_1 stArr.eq_2 stSt.eq_1 stSt.eq_2 AV.patch nameOk_none gB.eq_1 gB.eq_2 gB.eq_3 gIs.eq_1 gIs.eq_2 gIs.eq_3 retV resV resVs evalV cellsV St.byval List.getD_cons_zero List.getD_cons_succ List.getD_nil List.map_cons List.map_nil List.length_cons List.length_nil List.take_succ_cons List.take_zero List.drop_succ_cons List.drop_zero List.headD_cons List.set_cons_zero List.append_nil List.nil_append List.cons_append List.contains_cons List.contains_nil List.elem_cons List.elem_nil List.all_cons List.all_nil List.getElem?_cons_zero List.getElem?_cons_succ List.filterMap_cons List.filterMap_nil Option.isSome_some Option.isSome_none Option.map_some Option.map_none Option.some.injEq AV.int.injEq AV.bool.injEq AV.str.injEq AV.tup.injEq AV.agg.injEq AV.sl.injEq List.cons.injEq Bool.false_eq_true Bool.true_eq_false Bool.not_true Bool.not_false Bool.and_true Bool.true_and Bool.or_false Bool.or_true Bool.false_or Bool.true_or Bool.or_self Bool.and_self Bool.not_eq_true' Bool.not_eq_false' Bool.not_not beq_self_eq_true true_and and_true false_and and_false and_self not_true_eq_false not_false_eq_true forall_const true_implies false_implies implies_true imp_self Nat.lt_add_one Nat.le_refl Nat.zero_le Nat.add_zero Nat.zero_add decide_true decide_false decide_eq_true_eq decide_eq_false_iff_not exists_eq_left exists_eq_left' ge_iff_le gt_iff_lt ite_branch ite_branch' nilOk.eq_1 nilOk.eq_2 nilMay.eq_1 nilMay.eq_2 AV.isSl.eq_1 objTy'.eq_1 objTy'.eq_2 apSt.eq_1 apArr.eq_1 apArr.eq_2 apTwo.eq_1 apTwo.eq_2 apSt2.eq_1 apArr2.eq_1 apArr2.eq_2 slOf.eq_1 fitsV List.mem_cons List.not_mem_nil Bool.false_and Bool.and_false primOk.eq_1 primOk.eq_2 primOk.eq_3 primOk.eq_4 primOk.eq_5 primVal.eq_1 primVal.eq_2 primVal.eq_3 primVal.eq_4 primVal.eq_5 mOk.eq_1 mOk.eq_2 mVal.eq_1 mVal.eq_2 mFz.eq_1 mFz.eq_2 mOks mVals mFzs mCalOk.eq_1 mCalOk.eq_2 mFn.eq_1 mFn.eq_2 mArgs.eq_1 mArgs.eq_2 ckOk.eq_1 ckOk.eq_2 cloOk.eq_1 ptrAt.eq_1 sh.eq_1 sh.eq_2 sh.eq_3 sh.eq_4 sh.eq_5 sh.eq_6 retM shH_small evM entOk.eq_1 entOk.eq_2 ents.eq_1 ents.eq_2 kI.eq_1 mpOk.eq_1 mpR.eq_1 lkV.eq_1 lkV.eq_2 remp.eq_2 evP pvOk.eq_1 pvOk.eq_2 pvVal.eq_1 pvVal.eq_2 plOk.eq_1 plOk.eq_2 plOk.eq_3 plV.eq_1 plV.eq_2 plF.eq_1 plF.eq_2 plVal.eq_1 plVal.eq_2 plFz.eq_1 plFz.eq_2 lpOk.eq_1 lpOk.eq_2 lpVal.eq_1 lpVal.eq_2 lpFz.eq_1 lpFz.eq_2 stpOk.eq_1 stpOk.eq_2 stpSt.eq_1 stpSt.eq_2 stpArr.eq_1 keepS.eq_1 keepS.eq_2
section
/-
  Histories: what is ahead of what, whether two events are one, whether an event may be: the code and the document, walked.
-/
open Go.RowKit
set_option linter.unusedVariables false
set_option linter.unusedSimpArgs false
set_option maxRecDepth 100000
attribute [local go_sem ↓] runOp headOp
/-! ### percolate/history.Before -/
def t_hBef_0 : List ROp := [⟨(.box 15 32 (.t 0)), (some 2), none, [3], []⟩, ⟨(.box 15 32 (.t 1)), (some 3), none, [], []⟩, ⟨(.mv (.c (.bool false))), (some 4), none, [], []⟩]
def r_hBef_0 : Reg := ⟨[], t_hBef_0, [2, 3], [], false⟩
def t_hBef_1 : List ROp := [⟨(.faddr 14 (.t 2)), (some 5), none, [], []⟩, ⟨(.load 1 false (.t 5)), (some 6), none, [], []⟩, ⟨(.mv (.t 6)), (some 7), none, [], []⟩, ⟨(.faddr 13 (.t 2)), (some 8), (some (7, true)), [], []⟩, ⟨(.load 1 false (.t 8)), (some 9), (some (7, true)), [], []⟩, ⟨(.faddr 11 (.t 3)), (some 10), (some (7, true)), [], []⟩, ⟨(.load 1 false (.t 10)), (some 11), (some (7, true)), [], []⟩, ⟨(.bin .lss (.t 9) (.t 11)), (some 12), (some (7, true)), [], []⟩, ⟨(.pick (.t 7) (.t 12) (.c (.bool false))), (some 13), none, [], []⟩, ⟨(.mv (.t 13)), (some 4), none, [], []⟩]
def r_hBef_1 : Reg := ⟨[], t_hBef_1, [], [], false⟩
def ir_hBef : IR := (.seq (.reg r_hBef_0)
  (.seq (.reg r_hBef_1)
  .ret))
def res_hBef : List RDesc := [(.tmp 4)]
theorem e_hBef_0 (C : FuncId → List AV → AV → Prop) (σ : St) (K : St → Prop) : runReg C r_hBef_0 σ K = runOps C t_hBef_0 (σ.kills [2, 3]) K := rfl
theorem e_hBef_1 (C : FuncId → List AV → AV → Prop) (σ : St) (K : St → Prop) : runReg C r_hBef_1 σ K = runOps C t_hBef_1 (σ.kills []) K := rfl
theorem fn_hBef {args : List AV} {r : AV} (ha : args.length.ble Try.f9.ntmps = true) (h : run (AFn Try.prog) ir_hBef (endQ res_hBef r) (initSt args)) : AFn Try.prog 9 args r :=
  AFn.of_code (pv := false) (hint := fun _ => []) (c := Try.f9.body.getD .skip) (by kernel_rfl) (by kernel_rfl) Try.func9 (by kernel_rfl) (by kernel_rfl) (by kernel_rfl) (of_decide_eq_true (by kernel_rfl)) (Nat.le_of_ble_eq_true ha) (Nat.le_of_ble_eq_true (by kernel_rfl)) (run_ok h)
/-! ### percolate/percolateref38.Before -/
def t_rBf_0 : List ROp := [⟨(.box 15 32 (.t 0)), (some 2), none, [3], []⟩, ⟨(.box 15 32 (.t 1)), (some 3), none, [], []⟩, ⟨(.mv (.c (.bool false))), (some 4), none, [], []⟩]
def r_rBf_0 : Reg := ⟨[], t_rBf_0, [2, 3], [], false⟩
def t_rBf_1 : List ROp := [⟨(.faddr 14 (.t 2)), (some 5), none, [], []⟩, ⟨(.load 1 false (.t 5)), (some 6), none, [], []⟩, ⟨(.mv (.t 6)), (some 7), none, [], []⟩, ⟨(.faddr 13 (.t 2)), (some 8), (some (7, true)), [], []⟩, ⟨(.load 1 false (.t 8)), (some 9), (some (7, true)), [], []⟩, ⟨(.faddr 11 (.t 3)), (some 10), (some (7, true)), [], []⟩, ⟨(.load 1 false (.t 10)), (some 11), (some (7, true)), [], []⟩, ⟨(.bin .lss (.t 9) (.t 11)), (some 12), (some (7, true)), [], []⟩, ⟨(.pick (.t 7) (.t 12) (.c (.bool false))), (some 13), none, [], []⟩, ⟨(.mv (.t 13)), (some 4), none, [], []⟩]
def r_rBf_1 : Reg := ⟨[], t_rBf_1, [], [], false⟩
def ir_rBf : IR := (.seq (.reg r_rBf_0)
  (.seq (.reg r_rBf_1)
  .ret))
def res_rBf : List RDesc := [(.tmp 4)]
theorem e_rBf_0 (C : FuncId → List AV → AV → Prop) (σ : St) (K : St → Prop) : runReg C r_rBf_0 σ K = runOps C t_rBf_0 (σ.kills [2, 3]) K := rfl
theorem e_rBf_1 (C : FuncId → List AV → AV → Prop) (σ : St) (K : St → Prop) : runReg C r_rBf_1 σ K = runOps C t_rBf_1 (σ.kills []) K := rfl
theorem fn_rBf {args : List AV} {r : AV} (ha : args.length.ble Try.f10.ntmps = true) (h : run (AFn Try.prog) ir_rBf (endQ res_rBf r) (initSt args)) : AFn Try.prog 10 args r :=
  AFn.of_code (pv := false) (hint := fun _ => []) (c := Try.f10.body.getD .skip) (by kernel_rfl) (by kernel_rfl) Try.func10 (by kernel_rfl) (by kernel_rfl) (by kernel_rfl) (of_decide_eq_true (by kernel_rfl)) (Nat.le_of_ble_eq_true ha) (Nat.le_of_ble_eq_true (by kernel_rfl)) (run_ok h)
attribute [local go_sem ↓] ir_hBef
attribute [local go_sem] res_hBef e_hBef_0 t_hBef_0 e_hBef_1 t_hBef_1
attribute [local go_sem ↓] ir_rBf
attribute [local go_sem] res_rBf e_rBf_0 t_rBf_0 e_rBf_1 t_rBf_1
def befB (a b : Evt) : Bool := a.done && decide (a.ended < b.began)
theorem hBef_ok (a b : Evt) : AFn Try.prog 9 [a.a, b.a] (.bool (befB a b)) := by
  refine fn_hBef rfl ?_
  unfold befB
  cases hd : a.done
  · simp only [Evt.a, hd]
    simp (maxSteps := 4000000) only [go_sem, ↓reduceIte, reduceCtorEq, Nat.reduceEqDiff, Nat.reduceBEq, Nat.reduceAdd, Nat.reduceSub, Nat.reduceMul, Nat.reduceLT, Nat.reduceLeDiff, Nat.reduceBNe, Int.reduceBEq, Int.reduceBNe, Int.reduceLT, Int.reduceLE, Par.a, Opr.a, Ans.a, Evt.a, nul, Bool.false_and]
  · simp only [Evt.a, hd]
    by_cases h : a.ended < b.began
    · rw [decide_eq_true h]
      simp (maxSteps := 4000000) only [go_sem, ↓reduceIte, reduceCtorEq, Nat.reduceEqDiff, Nat.reduceBEq, Nat.reduceAdd, Nat.reduceSub, Nat.reduceMul, Nat.reduceLT, Nat.reduceLeDiff, Nat.reduceBNe, Int.reduceBEq, Int.reduceBNe, Int.reduceLT, Int.reduceLE, Par.a, Opr.a, Ans.a, Evt.a, nul, h]
    · rw [decide_eq_false h]
      simp (maxSteps := 4000000) only [go_sem, ↓reduceIte, reduceCtorEq, Nat.reduceEqDiff, Nat.reduceBEq, Nat.reduceAdd, Nat.reduceSub, Nat.reduceMul, Nat.reduceLT, Nat.reduceLeDiff, Nat.reduceBNe, Int.reduceBEq, Int.reduceBNe, Int.reduceLT, Int.reduceLE, Par.a, Opr.a, Ans.a, Evt.a, nul, h]
theorem rBf_ok (a b : Evt) : AFn Try.prog 10 [a.a, b.a] (.bool (befB a b)) := by
  refine fn_rBf rfl ?_
  unfold befB
  cases hd : a.done
  · simp only [Evt.a, hd]
    simp (maxSteps := 4000000) only [go_sem, ↓reduceIte, reduceCtorEq, Nat.reduceEqDiff, Nat.reduceBEq, Nat.reduceAdd, Nat.reduceSub, Nat.reduceMul, Nat.reduceLT, Nat.reduceLeDiff, Nat.reduceBNe, Int.reduceBEq, Int.reduceBNe, Int.reduceLT, Int.reduceLE, Par.a, Opr.a, Ans.a, Evt.a, nul, Bool.false_and]
  · simp only [Evt.a, hd]
    by_cases h : a.ended < b.began
    · rw [decide_eq_true h]
      simp (maxSteps := 4000000) only [go_sem, ↓reduceIte, reduceCtorEq, Nat.reduceEqDiff, Nat.reduceBEq, Nat.reduceAdd, Nat.reduceSub, Nat.reduceMul, Nat.reduceLT, Nat.reduceLeDiff, Nat.reduceBNe, Int.reduceBEq, Int.reduceBNe, Int.reduceLT, Int.reduceLE, Par.a, Opr.a, Ans.a, Evt.a, nul, h]
    · rw [decide_eq_false h]
      simp (maxSteps := 4000000) only [go_sem, ↓reduceIte, reduceCtorEq, Nat.reduceEqDiff, Nat.reduceBEq, Nat.reduceAdd, Nat.reduceSub, Nat.reduceMul, Nat.reduceLT, Nat.reduceLeDiff, Nat.reduceBNe, Int.reduceBEq, Int.reduceBNe, Int.reduceLT, Int.reduceLE, Par.a, Opr.a, Ans.a, Evt.a, nul, h]
end
section
/-
  Histories: whether pairs, answers, events are one: the code and the document, walked.
-/
open Go.RowKit
set_option linter.unusedVariables false
set_option linter.unusedSimpArgs false
set_option maxRecDepth 100000
attribute [local go_sem ↓] runOp headOp
/-! ### slices.Equal[[]percolate/api.Pair,percolate/api.Pair] -/
def r_peq_0 : Reg := ⟨[], [⟨(.mv (.c (.bool false))), (some 4), none, [], []⟩], [], [], false⟩
def t_peq_1 : List ROp := [⟨(.mv (.t 0)), (some 6), none, [], []⟩, ⟨(.len false (.t 6)), (some 7), none, [], []⟩, ⟨(.mv (.t 1)), (some 8), none, [], []⟩, ⟨(.len false (.t 8)), (some 9), none, [], []⟩, ⟨(.bin .neq (.t 7) (.t 9)), (some 10), none, [], []⟩]
def r_peq_1 : Reg := ⟨[], t_peq_1, [], [], false⟩
def r_peq_2 : Reg := ⟨[], [⟨(.mv (.c (.bool false))), (some 4), none, [], []⟩], [], [], false⟩
def t_peq_3 : List ROp := [⟨(.mv (.t 0)), (some 11), none, [], []⟩, ⟨(.len false (.t 11)), (some 12), none, [], []⟩, ⟨(.mv (.c (.int .i64 0))), (some 13), none, [], []⟩]
def r_peq_3 : Reg := ⟨[], t_peq_3, [], [], false⟩
def r_peq_4 : Reg := ⟨[], [⟨(.bin .lss (.t 13) (.t 12)), (some 14), none, [], []⟩], [], [], false⟩
def r_peq_5 : Reg := ⟨[], [⟨(.mv (.t 13)), (some 15), none, [], []⟩, ⟨(.mv (.t 15)), (some 5), none, [], []⟩], [], [], false⟩
def h_peq_6 : List ROp := [⟨(.mv (.t 0)), (some 16), none, [], []⟩, ⟨(.mv (.t 5)), (some 17), none, [], []⟩, ⟨(.iaddr 2 (.t 16) (.t 17)), (some 18), none, [], []⟩, ⟨(.load 2 true (.t 18)), (some 19), none, [], []⟩, ⟨(.mv (.t 1)), (some 20), none, [], []⟩, ⟨(.mv (.t 5)), (some 21), none, [], []⟩, ⟨(.iaddr 2 (.t 20) (.t 21)), (some 22), none, [], []⟩, ⟨(.load 2 true (.t 22)), (some 23), none, [], []⟩]
def r_peq_6 : Reg := ⟨h_peq_6, [⟨(.feq true [(0, 1), (1, 1)] (.t 19) (.t 23)), (some 24), none, [], []⟩], [], [], true⟩
def r_peq_7 : Reg := ⟨[], [⟨(.mv (.c (.bool false))), (some 4), none, [], []⟩], [], [], false⟩
def r_peq_8 : Reg := ⟨[], [⟨(.bin .add (.t 13) (.c (.int .i64 1))), (some 25), none, [], []⟩, ⟨(.mv (.t 25)), (some 13), none, [], []⟩], [], [], false⟩
def r_peq_l9 : IR := (.seq (.reg r_peq_4)
  (.seq (.cond (.t 14) .skip
  (.exit 0))
  (.seq (.block 1 (.seq (.reg r_peq_5)
  (.seq (.reg r_peq_6)
  (.cond (.t 24) (.seq (.reg r_peq_7)
  .ret)
  .skip))))
  (.reg r_peq_8))))
def r_peq_10 : Reg := ⟨[], [⟨(.mv (.c (.bool true))), (some 4), none, [], []⟩], [], [], false⟩
def ir_peq : IR := (.seq (.reg r_peq_0)
  (.seq (.seq (.reg r_peq_1)
  (.cond (.t 10) (.seq (.reg r_peq_2)
  .ret)
  .skip))
  (.seq (.seq (.reg r_peq_3)
  (.block 0 (.loop r_peq_l9)))
  (.seq (.reg r_peq_10)
  .ret))))
def res_peq : List RDesc := [(.tmp 4)]
theorem e_peq_0 (C : FuncId → List AV → AV → Prop) (σ : St) (K : St → Prop) : runReg C r_peq_0 σ K = runOps C [⟨(.mv (.c (.bool false))), (some 4), none, [], []⟩] (σ.kills []) K := rfl
theorem e_peq_1 (C : FuncId → List AV → AV → Prop) (σ : St) (K : St → Prop) : runReg C r_peq_1 σ K = runOps C t_peq_1 (σ.kills []) K := rfl
theorem e_peq_2 (C : FuncId → List AV → AV → Prop) (σ : St) (K : St → Prop) : runReg C r_peq_2 σ K = runOps C [⟨(.mv (.c (.bool false))), (some 4), none, [], []⟩] (σ.kills []) K := rfl
theorem e_peq_3 (C : FuncId → List AV → AV → Prop) (σ : St) (K : St → Prop) : runReg C r_peq_3 σ K = runOps C t_peq_3 (σ.kills []) K := rfl
theorem e_peq_4 (C : FuncId → List AV → AV → Prop) (σ : St) (K : St → Prop) : runReg C r_peq_4 σ K = runOps C [⟨(.bin .lss (.t 13) (.t 12)), (some 14), none, [], []⟩] (σ.kills []) K := rfl
theorem e_peq_5 (C : FuncId → List AV → AV → Prop) (σ : St) (K : St → Prop) : runReg C r_peq_5 σ K = runOps C [⟨(.mv (.t 13)), (some 15), none, [], []⟩, ⟨(.mv (.t 15)), (some 5), none, [], []⟩] (σ.kills []) K := rfl
theorem e_peq_6 (C : FuncId → List AV → AV → Prop) (σ : St) (K : St → Prop) : runReg C r_peq_6 σ K = runHead C [] [⟨(.feq true [(0, 1), (1, 1)] (.t 19) (.t 23)), (some 24), none, [], []⟩] h_peq_6 (σ.kills []) K := rfl
theorem e_peq_7 (C : FuncId → List AV → AV → Prop) (σ : St) (K : St → Prop) : runReg C r_peq_7 σ K = runOps C [⟨(.mv (.c (.bool false))), (some 4), none, [], []⟩] (σ.kills []) K := rfl
theorem e_peq_8 (C : FuncId → List AV → AV → Prop) (σ : St) (K : St → Prop) : runReg C r_peq_8 σ K = runOps C [⟨(.bin .add (.t 13) (.c (.int .i64 1))), (some 25), none, [], []⟩, ⟨(.mv (.t 25)), (some 13), none, [], []⟩] (σ.kills []) K := rfl
theorem e_peq_10 (C : FuncId → List AV → AV → Prop) (σ : St) (K : St → Prop) : runReg C r_peq_10 σ K = runOps C [⟨(.mv (.c (.bool true))), (some 4), none, [], []⟩] (σ.kills []) K := rfl
theorem fn_peq {args : List AV} {r : AV} (ha : args.length.ble Try.f52.ntmps = true) (h : run (AFn Try.prog) ir_peq (endQ res_peq r) (initSt args)) : AFn Try.prog 52 args r :=
  AFn.of_code (pv := false) (hint := fun _ => []) (c := Try.f52.body.getD .skip) (by kernel_rfl) (by kernel_rfl) Try.func52 (by kernel_rfl) (by kernel_rfl) (by kernel_rfl) (of_decide_eq_true (by kernel_rfl)) (Nat.le_of_ble_eq_true ha) (Nat.le_of_ble_eq_true (by kernel_rfl)) (run_ok h)
/-! ### percolate/percolateref09.Same -/
def r_r9s_0 : Reg := ⟨[], [⟨(.mv (.c (.bool false))), (some 4), none, [], []⟩], [], [], false⟩
def t_r9s_1 : List ROp := [⟨(.mv (.t 0)), (some 6), none, [], []⟩, ⟨(.len false (.t 6)), (some 7), none, [], []⟩, ⟨(.mv (.t 1)), (some 8), none, [], []⟩, ⟨(.len false (.t 8)), (some 9), none, [], []⟩, ⟨(.bin .neq (.t 7) (.t 9)), (some 10), none, [], []⟩]
def r_r9s_1 : Reg := ⟨[], t_r9s_1, [], [], false⟩
def r_r9s_2 : Reg := ⟨[], [⟨(.mv (.c (.bool false))), (some 4), none, [], []⟩], [], [], false⟩
def r_r9s_3 : Reg := ⟨[], [⟨(.mv (.c (.int .i64 0))), (some 5), none, [], []⟩], [], [], false⟩
def t_r9s_4 : List ROp := [⟨(.mv (.t 5)), (some 11), none, [], []⟩, ⟨(.mv (.t 0)), (some 12), none, [], []⟩, ⟨(.len false (.t 12)), (some 13), none, [], []⟩, ⟨(.bin .lss (.t 11) (.t 13)), (some 14), none, [], []⟩]
def r_r9s_4 : Reg := ⟨[], t_r9s_4, [], [], false⟩
def h_r9s_5 : List ROp := [⟨(.mv (.t 0)), (some 17), none, [], []⟩, ⟨(.mv (.t 5)), (some 18), none, [], []⟩, ⟨(.iaddr 2 (.t 17) (.t 18)), (some 19), none, [], []⟩, ⟨(.load 2 true (.t 19)), (some 20), none, [], []⟩, ⟨(.mv (.t 1)), (some 21), none, [], []⟩, ⟨(.mv (.t 5)), (some 22), none, [], []⟩, ⟨(.iaddr 2 (.t 21) (.t 22)), (some 23), none, [], []⟩, ⟨(.load 2 true (.t 23)), (some 24), none, [], []⟩]
def r_r9s_5 : Reg := ⟨h_r9s_5, [⟨(.feq true [(0, 1), (1, 1)] (.t 20) (.t 24)), (some 25), none, [], []⟩], [], [], true⟩
def r_r9s_6 : Reg := ⟨[], [⟨(.mv (.c (.bool false))), (some 4), none, [], []⟩], [], [], false⟩
def t_r9s_7 : List ROp := [⟨(.mv (.t 5)), (some 15), none, [], []⟩, ⟨(.bin .add (.t 15) (.c (.int .i64 1))), (some 16), none, [], []⟩, ⟨(.mv (.t 16)), (some 5), none, [], []⟩]
def r_r9s_7 : Reg := ⟨[], t_r9s_7, [], [], false⟩
def r_r9s_l8 : IR := (.seq (.seq (.reg r_r9s_4)
  (.cond (.t 14) .skip
  (.exit 0)))
  (.seq (.block 1 (.seq (.reg r_r9s_5)
  (.cond (.t 25) (.seq (.reg r_r9s_6)
  .ret)
  .skip)))
  (.reg r_r9s_7)))
def r_r9s_9 : Reg := ⟨[], [⟨(.mv (.c (.bool true))), (some 4), none, [], []⟩], [], [], false⟩
def ir_r9s : IR := (.seq (.reg r_r9s_0)
  (.seq (.seq (.reg r_r9s_1)
  (.cond (.t 10) (.seq (.reg r_r9s_2)
  .ret)
  .skip))
  (.seq (.seq (.reg r_r9s_3)
  (.block 0 (.loop r_r9s_l8)))
  (.seq (.reg r_r9s_9)
  .ret))))
def res_r9s : List RDesc := [(.tmp 4)]
theorem e_r9s_0 (C : FuncId → List AV → AV → Prop) (σ : St) (K : St → Prop) : runReg C r_r9s_0 σ K = runOps C [⟨(.mv (.c (.bool false))), (some 4), none, [], []⟩] (σ.kills []) K := rfl
theorem e_r9s_1 (C : FuncId → List AV → AV → Prop) (σ : St) (K : St → Prop) : runReg C r_r9s_1 σ K = runOps C t_r9s_1 (σ.kills []) K := rfl
theorem e_r9s_2 (C : FuncId → List AV → AV → Prop) (σ : St) (K : St → Prop) : runReg C r_r9s_2 σ K = runOps C [⟨(.mv (.c (.bool false))), (some 4), none, [], []⟩] (σ.kills []) K := rfl
theorem e_r9s_3 (C : FuncId → List AV → AV → Prop) (σ : St) (K : St → Prop) : runReg C r_r9s_3 σ K = runOps C [⟨(.mv (.c (.int .i64 0))), (some 5), none, [], []⟩] (σ.kills []) K := rfl
theorem e_r9s_4 (C : FuncId → List AV → AV → Prop) (σ : St) (K : St → Prop) : runReg C r_r9s_4 σ K = runOps C t_r9s_4 (σ.kills []) K := rfl
theorem e_r9s_5 (C : FuncId → List AV → AV → Prop) (σ : St) (K : St → Prop) : runReg C r_r9s_5 σ K = runHead C [] [⟨(.feq true [(0, 1), (1, 1)] (.t 20) (.t 24)), (some 25), none, [], []⟩] h_r9s_5 (σ.kills []) K := rfl
theorem e_r9s_6 (C : FuncId → List AV → AV → Prop) (σ : St) (K : St → Prop) : runReg C r_r9s_6 σ K = runOps C [⟨(.mv (.c (.bool false))), (some 4), none, [], []⟩] (σ.kills []) K := rfl
theorem e_r9s_7 (C : FuncId → List AV → AV → Prop) (σ : St) (K : St → Prop) : runReg C r_r9s_7 σ K = runOps C t_r9s_7 (σ.kills []) K := rfl
theorem e_r9s_9 (C : FuncId → List AV → AV → Prop) (σ : St) (K : St → Prop) : runReg C r_r9s_9 σ K = runOps C [⟨(.mv (.c (.bool true))), (some 4), none, [], []⟩] (σ.kills []) K := rfl
theorem fn_r9s {args : List AV} {r : AV} (ha : args.length.ble Try.f23.ntmps = true) (h : run (AFn Try.prog) ir_r9s (endQ res_r9s r) (initSt args)) : AFn Try.prog 23 args r :=
  AFn.of_code (pv := false) (hint := fun _ => []) (c := Try.f23.body.getD .skip) (by kernel_rfl) (by kernel_rfl) Try.func23 (by kernel_rfl) (by kernel_rfl) (by kernel_rfl) (of_decide_eq_true (by kernel_rfl)) (Nat.le_of_ble_eq_true ha) (Nat.le_of_ble_eq_true (by kernel_rfl)) (run_ok h)
/-! ### percolate/model.Same -/
def r_mSame_0 : Reg := ⟨[], [⟨(.mv (.c (.bool false))), (some 4), none, [], []⟩], [], [], false⟩
def t_mSame_1 : List ROp := [⟨(.mv (.t 0)), (some 5), none, [7], []⟩, ⟨(.mv (.t 1)), (some 6), none, [7], []⟩, ⟨(.callv (.c (.clo 52 [] [])) [(.t 5), (.t 6)]), (some 7), none, [], []⟩, ⟨(.mv (.t 7)), (some 4), none, [], []⟩]
def r_mSame_1 : Reg := ⟨[], t_mSame_1, [7], [], false⟩
def ir_mSame : IR := (.seq (.reg r_mSame_0)
  (.seq (.reg r_mSame_1)
  .ret))
def res_mSame : List RDesc := [(.tmp 4)]
theorem e_mSame_0 (C : FuncId → List AV → AV → Prop) (σ : St) (K : St → Prop) : runReg C r_mSame_0 σ K = runOps C [⟨(.mv (.c (.bool false))), (some 4), none, [], []⟩] (σ.kills []) K := rfl
theorem e_mSame_1 (C : FuncId → List AV → AV → Prop) (σ : St) (K : St → Prop) : runReg C r_mSame_1 σ K = runOps C t_mSame_1 (σ.kills [7]) K := rfl
theorem fn_mSame {args : List AV} {r : AV} (ha : args.length.ble Try.f38.ntmps = true) (h : run (AFn Try.prog) ir_mSame (endQ res_mSame r) (initSt args)) : AFn Try.prog 38 args r :=
  AFn.of_code (pv := false) (hint := fun _ => []) (c := Try.f38.body.getD .skip) (by kernel_rfl) (by kernel_rfl) Try.func38 (by kernel_rfl) (by kernel_rfl) (by kernel_rfl) (of_decide_eq_true (by kernel_rfl)) (Nat.le_of_ble_eq_true ha) (Nat.le_of_ble_eq_true (by kernel_rfl)) (run_ok h)
/-! ### percolate/answer.Same -/
def t_aSame_0 : List ROp := [⟨(.box 4 30 (.t 0)), (some 2), none, [3], []⟩, ⟨(.box 4 30 (.t 1)), (some 3), none, [], []⟩, ⟨(.mv (.c (.bool false))), (some 4), none, [], []⟩]
def r_aSame_0 : Reg := ⟨[], t_aSame_0, [2, 3], [], false⟩
def t_aSame_1 : List ROp := [⟨(.faddr 0 (.t 2)), (some 5), none, [29], []⟩, ⟨(.load 1 false (.t 5)), (some 6), none, [29], []⟩, ⟨(.faddr 0 (.t 3)), (some 7), none, [29], []⟩, ⟨(.load 1 false (.t 7)), (some 8), none, [29], []⟩, ⟨(.bin .eql (.t 6) (.t 8)), (some 9), none, [29], []⟩, ⟨(.mv (.t 9)), (some 10), none, [29], []⟩, ⟨(.faddr 1 (.t 2)), (some 11), (some (10, true)), [29], []⟩, ⟨(.load 1 false (.t 11)), (some 12), (some (10, true)), [29], []⟩, ⟨(.faddr 1 (.t 3)), (some 13), (some (10, true)), [29], []⟩, ⟨(.load 1 false (.t 13)), (some 14), (some (10, true)), [29], []⟩, ⟨(.beq false (.t 12) (.t 14)), (some 15), (some (10, true)), [29], []⟩, ⟨(.pick (.t 10) (.t 15) (.c (.bool false))), (some 16), none, [29], []⟩, ⟨(.mv (.t 16)), (some 17), none, [29], []⟩, ⟨(.faddr 2 (.t 2)), (some 18), (some (17, true)), [29], []⟩, ⟨(.load 1 false (.t 18)), (some 19), (some (17, true)), [29], []⟩, ⟨(.faddr 2 (.t 3)), (some 20), (some (17, true)), [29], []⟩, ⟨(.load 1 false (.t 20)), (some 21), (some (17, true)), [29], []⟩, ⟨(.bin .eql (.t 19) (.t 21)), (some 22), (some (17, true)), [29], []⟩, ⟨(.pick (.t 17) (.t 22) (.c (.bool false))), (some 23), none, [29], []⟩, ⟨(.mv (.t 23)), (some 24), none, [29], []⟩, ⟨(.faddr 3 (.t 2)), (some 25), (some (24, true)), [29], []⟩, ⟨(.load 1 false (.t 25)), (some 26), (some (24, true)), [29], []⟩, ⟨(.faddr 3 (.t 3)), (some 27), (some (24, true)), [29], []⟩, ⟨(.load 1 false (.t 27)), (some 28), (some (24, true)), [29], []⟩, ⟨(.callv (.c (.clo 38 [] [])) [(.t 26), (.t 28)]), (some 29), (some (24, true)), [], []⟩, ⟨(.pick (.t 24) (.t 29) (.c (.bool false))), (some 30), none, [], []⟩, ⟨(.mv (.t 30)), (some 4), none, [], []⟩]
def r_aSame_1 : Reg := ⟨[], t_aSame_1, [29], [], false⟩
def ir_aSame : IR := (.seq (.reg r_aSame_0)
  (.seq (.reg r_aSame_1)
  .ret))
def res_aSame : List RDesc := [(.tmp 4)]
theorem e_aSame_0 (C : FuncId → List AV → AV → Prop) (σ : St) (K : St → Prop) : runReg C r_aSame_0 σ K = runOps C t_aSame_0 (σ.kills [2, 3]) K := rfl
theorem e_aSame_1 (C : FuncId → List AV → AV → Prop) (σ : St) (K : St → Prop) : runReg C r_aSame_1 σ K = runOps C t_aSame_1 (σ.kills [29]) K := rfl
theorem fn_aSame {args : List AV} {r : AV} (ha : args.length.ble Try.f29.ntmps = true) (h : run (AFn Try.prog) ir_aSame (endQ res_aSame r) (initSt args)) : AFn Try.prog 29 args r :=
  AFn.of_code (pv := false) (hint := fun _ => []) (c := Try.f29.body.getD .skip) (by kernel_rfl) (by kernel_rfl) Try.func29 (by kernel_rfl) (by kernel_rfl) (by kernel_rfl) (of_decide_eq_true (by kernel_rfl)) (Nat.le_of_ble_eq_true ha) (Nat.le_of_ble_eq_true (by kernel_rfl)) (run_ok h)
/-! ### percolate/percolateref10.Same -/
def t_r10s_0 : List ROp := [⟨(.box 4 30 (.t 0)), (some 2), none, [3], []⟩, ⟨(.box 4 30 (.t 1)), (some 3), none, [], []⟩, ⟨(.mv (.c (.bool false))), (some 4), none, [], []⟩]
def r_r10s_0 : Reg := ⟨[], t_r10s_0, [2, 3], [], false⟩
def t_r10s_1 : List ROp := [⟨(.faddr 0 (.t 2)), (some 5), none, [29], []⟩, ⟨(.load 1 false (.t 5)), (some 6), none, [29], []⟩, ⟨(.faddr 0 (.t 3)), (some 7), none, [29], []⟩, ⟨(.load 1 false (.t 7)), (some 8), none, [29], []⟩, ⟨(.bin .eql (.t 6) (.t 8)), (some 9), none, [29], []⟩, ⟨(.mv (.t 9)), (some 10), none, [29], []⟩, ⟨(.faddr 1 (.t 2)), (some 11), (some (10, true)), [29], []⟩, ⟨(.load 1 false (.t 11)), (some 12), (some (10, true)), [29], []⟩, ⟨(.faddr 1 (.t 3)), (some 13), (some (10, true)), [29], []⟩, ⟨(.load 1 false (.t 13)), (some 14), (some (10, true)), [29], []⟩, ⟨(.beq false (.t 12) (.t 14)), (some 15), (some (10, true)), [29], []⟩, ⟨(.pick (.t 10) (.t 15) (.c (.bool false))), (some 16), none, [29], []⟩, ⟨(.mv (.t 16)), (some 17), none, [29], []⟩, ⟨(.faddr 2 (.t 2)), (some 18), (some (17, true)), [29], []⟩, ⟨(.load 1 false (.t 18)), (some 19), (some (17, true)), [29], []⟩, ⟨(.faddr 2 (.t 3)), (some 20), (some (17, true)), [29], []⟩, ⟨(.load 1 false (.t 20)), (some 21), (some (17, true)), [29], []⟩, ⟨(.bin .eql (.t 19) (.t 21)), (some 22), (some (17, true)), [29], []⟩, ⟨(.pick (.t 17) (.t 22) (.c (.bool false))), (some 23), none, [29], []⟩, ⟨(.mv (.t 23)), (some 24), none, [29], []⟩, ⟨(.faddr 3 (.t 2)), (some 25), (some (24, true)), [29], []⟩, ⟨(.load 1 false (.t 25)), (some 26), (some (24, true)), [29], []⟩, ⟨(.faddr 3 (.t 3)), (some 27), (some (24, true)), [29], []⟩, ⟨(.load 1 false (.t 27)), (some 28), (some (24, true)), [29], []⟩, ⟨(.callv (.c (.clo 23 [] [])) [(.t 26), (.t 28)]), (some 29), (some (24, true)), [], []⟩, ⟨(.pick (.t 24) (.t 29) (.c (.bool false))), (some 30), none, [], []⟩, ⟨(.mv (.t 30)), (some 4), none, [], []⟩]
def r_r10s_1 : Reg := ⟨[], t_r10s_1, [29], [], false⟩
def ir_r10s : IR := (.seq (.reg r_r10s_0)
  (.seq (.reg r_r10s_1)
  .ret))
def res_r10s : List RDesc := [(.tmp 4)]
theorem e_r10s_0 (C : FuncId → List AV → AV → Prop) (σ : St) (K : St → Prop) : runReg C r_r10s_0 σ K = runOps C t_r10s_0 (σ.kills [2, 3]) K := rfl
theorem e_r10s_1 (C : FuncId → List AV → AV → Prop) (σ : St) (K : St → Prop) : runReg C r_r10s_1 σ K = runOps C t_r10s_1 (σ.kills [29]) K := rfl
theorem fn_r10s {args : List AV} {r : AV} (ha : args.length.ble Try.f30.ntmps = true) (h : run (AFn Try.prog) ir_r10s (endQ res_r10s r) (initSt args)) : AFn Try.prog 30 args r :=
  AFn.of_code (pv := false) (hint := fun _ => []) (c := Try.f30.body.getD .skip) (by kernel_rfl) (by kernel_rfl) Try.func30 (by kernel_rfl) (by kernel_rfl) (by kernel_rfl) (of_decide_eq_true (by kernel_rfl)) (Nat.le_of_ble_eq_true ha) (Nat.le_of_ble_eq_true (by kernel_rfl)) (run_ok h)
/-! ### percolate/history.Same -/
def t_hSame_0 : List ROp := [⟨(.box 15 32 (.t 0)), (some 2), none, [3], []⟩, ⟨(.box 15 32 (.t 1)), (some 3), none, [], []⟩, ⟨(.mv (.c (.bool false))), (some 4), none, [], []⟩]
def r_hSame_0 : Reg := ⟨[], t_hSame_0, [2, 3], [], false⟩
def t_hSame_1 : List ROp := [⟨(.faddr 11 (.t 2)), (some 6), none, [], []⟩, ⟨(.load 1 false (.t 6)), (some 7), none, [], []⟩, ⟨(.faddr 11 (.t 3)), (some 8), none, [], []⟩, ⟨(.load 1 false (.t 8)), (some 9), none, [], []⟩, ⟨(.bin .eql (.t 7) (.t 9)), (some 10), none, [], []⟩, ⟨(.mv (.t 10)), (some 11), none, [], []⟩, ⟨(.faddr 12 (.t 2)), (some 12), (some (11, true)), [], []⟩, ⟨(.load 1 false (.t 12)), (some 13), (some (11, true)), [], []⟩, ⟨(.faddr 12 (.t 3)), (some 14), (some (11, true)), [], []⟩, ⟨(.load 1 false (.t 14)), (some 15), (some (11, true)), [], []⟩, ⟨(.bin .eql (.t 13) (.t 15)), (some 16), (some (11, true)), [], []⟩, ⟨(.pick (.t 11) (.t 16) (.c (.bool false))), (some 17), none, [], []⟩, ⟨(.mv (.t 17)), (some 18), none, [], []⟩, ⟨(.faddr 13 (.t 2)), (some 19), (some (18, true)), [], []⟩, ⟨(.load 1 false (.t 19)), (some 20), (some (18, true)), [], []⟩, ⟨(.faddr 13 (.t 3)), (some 21), (some (18, true)), [], []⟩, ⟨(.load 1 false (.t 21)), (some 22), (some (18, true)), [], []⟩, ⟨(.bin .eql (.t 20) (.t 22)), (some 23), (some (18, true)), [], []⟩, ⟨(.pick (.t 18) (.t 23) (.c (.bool false))), (some 24), none, [], []⟩, ⟨(.mv (.t 24)), (some 25), none, [], []⟩, ⟨(.faddr 14 (.t 2)), (some 26), (some (25, true)), [], []⟩, ⟨(.load 1 false (.t 26)), (some 27), (some (25, true)), [], []⟩, ⟨(.faddr 14 (.t 3)), (some 28), (some (25, true)), [], []⟩, ⟨(.load 1 false (.t 28)), (some 29), (some (25, true)), [], []⟩, ⟨(.beq false (.t 27) (.t 29)), (some 30), (some (25, true)), [], []⟩, ⟨(.pick (.t 25) (.t 30) (.c (.bool false))), (some 31), none, [], []⟩, ⟨(.mv (.t 31)), (some 5), none, [], []⟩]
def r_hSame_1 : Reg := ⟨[], t_hSame_1, [], [], false⟩
def t_hSame_2 : List ROp := [⟨(.mv (.t 5)), (some 32), none, [52], []⟩, ⟨(.mv (.t 32)), (some 33), none, [52], []⟩, ⟨(.faddr 0 (.t 2)), (some 34), (some (33, true)), [52], []⟩, ⟨(.load 1 false (.t 34)), (some 35), (some (33, true)), [52], []⟩, ⟨(.faddr 0 (.t 3)), (some 36), (some (33, true)), [52], []⟩, ⟨(.load 1 false (.t 36)), (some 37), (some (33, true)), [52], []⟩, ⟨(.bin .eql (.t 35) (.t 37)), (some 38), (some (33, true)), [52], []⟩, ⟨(.pick (.t 33) (.t 38) (.c (.bool false))), (some 39), none, [52], []⟩, ⟨(.mv (.t 39)), (some 40), none, [52], []⟩, ⟨(.faddr 1 (.t 2)), (some 41), (some (40, true)), [52], []⟩, ⟨(.load 6 true (.t 41)), (some 42), (some (40, true)), [52], []⟩, ⟨(.faddr 1 (.t 3)), (some 43), (some (40, true)), [52], []⟩, ⟨(.load 6 true (.t 43)), (some 44), (some (40, true)), [52], []⟩, ⟨(.feq false [(0, 0), (1, 1), (2, 1), (3, 2), (4, 1), (5, 0)] (.t 42) (.t 44)), (some 45), (some (40, true)), [52], []⟩, ⟨(.pick (.t 40) (.t 45) (.c (.bool false))), (some 46), none, [52], []⟩, ⟨(.mv (.t 46)), (some 47), none, [52], []⟩, ⟨(.faddr 7 (.t 2)), (some 48), (some (47, true)), [52], []⟩, ⟨(.load 4 true (.t 48)), (some 49), (some (47, true)), [52], []⟩, ⟨(.faddr 7 (.t 3)), (some 50), (some (47, true)), [52], []⟩, ⟨(.load 4 true (.t 50)), (some 51), (some (47, true)), [52], []⟩, ⟨(.callv (.c (.clo 29 [] [])) [(.t 49), (.t 51)]), (some 52), (some (47, true)), [], []⟩, ⟨(.pick (.t 47) (.t 52) (.c (.bool false))), (some 53), none, [], []⟩, ⟨(.mv (.t 53)), (some 4), none, [], []⟩]
def r_hSame_2 : Reg := ⟨[], t_hSame_2, [52], [], false⟩
def ir_hSame : IR := (.seq (.reg r_hSame_0)
  (.seq (.reg r_hSame_1)
  (.seq (.reg r_hSame_2)
  .ret)))
def res_hSame : List RDesc := [(.tmp 4)]
theorem e_hSame_0 (C : FuncId → List AV → AV → Prop) (σ : St) (K : St → Prop) : runReg C r_hSame_0 σ K = runOps C t_hSame_0 (σ.kills [2, 3]) K := rfl
theorem e_hSame_1 (C : FuncId → List AV → AV → Prop) (σ : St) (K : St → Prop) : runReg C r_hSame_1 σ K = runOps C t_hSame_1 (σ.kills []) K := rfl
theorem e_hSame_2 (C : FuncId → List AV → AV → Prop) (σ : St) (K : St → Prop) : runReg C r_hSame_2 σ K = runOps C t_hSame_2 (σ.kills [52]) K := rfl
theorem fn_hSame {args : List AV} {r : AV} (ha : args.length.ble Try.f11.ntmps = true) (h : run (AFn Try.prog) ir_hSame (endQ res_hSame r) (initSt args)) : AFn Try.prog 11 args r :=
  AFn.of_code (pv := false) (hint := fun _ => []) (c := Try.f11.body.getD .skip) (by kernel_rfl) (by kernel_rfl) Try.func11 (by kernel_rfl) (by kernel_rfl) (by kernel_rfl) (of_decide_eq_true (by kernel_rfl)) (Nat.le_of_ble_eq_true ha) (Nat.le_of_ble_eq_true (by kernel_rfl)) (run_ok h)
/-! ### percolate/percolateref38.Same -/
def t_rSm_0 : List ROp := [⟨(.box 15 32 (.t 0)), (some 2), none, [3], []⟩, ⟨(.box 15 32 (.t 1)), (some 3), none, [], []⟩, ⟨(.mv (.c (.bool false))), (some 4), none, [], []⟩]
def r_rSm_0 : Reg := ⟨[], t_rSm_0, [2, 3], [], false⟩
def t_rSm_1 : List ROp := [⟨(.faddr 0 (.t 2)), (some 5), none, [22], []⟩, ⟨(.load 1 false (.t 5)), (some 6), none, [22], []⟩, ⟨(.faddr 0 (.t 3)), (some 7), none, [22], []⟩, ⟨(.load 1 false (.t 7)), (some 8), none, [22], []⟩, ⟨(.bin .eql (.t 6) (.t 8)), (some 9), none, [22], []⟩, ⟨(.mv (.t 9)), (some 10), none, [22], []⟩, ⟨(.faddr 1 (.t 2)), (some 11), (some (10, true)), [22], []⟩, ⟨(.load 6 true (.t 11)), (some 12), (some (10, true)), [22], []⟩, ⟨(.faddr 1 (.t 3)), (some 13), (some (10, true)), [22], []⟩, ⟨(.load 6 true (.t 13)), (some 14), (some (10, true)), [22], []⟩, ⟨(.feq false [(0, 0), (1, 1), (2, 1), (3, 2), (4, 1), (5, 0)] (.t 12) (.t 14)), (some 15), (some (10, true)), [22], []⟩, ⟨(.pick (.t 10) (.t 15) (.c (.bool false))), (some 16), none, [22], []⟩, ⟨(.mv (.t 16)), (some 17), none, [22], []⟩, ⟨(.faddr 7 (.t 2)), (some 18), (some (17, true)), [22], []⟩, ⟨(.load 4 true (.t 18)), (some 19), (some (17, true)), [22], []⟩, ⟨(.faddr 7 (.t 3)), (some 20), (some (17, true)), [22], []⟩, ⟨(.load 4 true (.t 20)), (some 21), (some (17, true)), [22], []⟩, ⟨(.callv (.c (.clo 30 [] [])) [(.t 19), (.t 21)]), (some 22), (some (17, true)), [], []⟩, ⟨(.pick (.t 17) (.t 22) (.c (.bool false))), (some 23), none, [], []⟩, ⟨(.mv (.t 23)), (some 24), none, [], []⟩, ⟨(.faddr 11 (.t 2)), (some 25), (some (24, true)), [], []⟩, ⟨(.load 1 false (.t 25)), (some 26), (some (24, true)), [], []⟩, ⟨(.faddr 11 (.t 3)), (some 27), (some (24, true)), [], []⟩, ⟨(.load 1 false (.t 27)), (some 28), (some (24, true)), [], []⟩, ⟨(.bin .eql (.t 26) (.t 28)), (some 29), (some (24, true)), [], []⟩, ⟨(.pick (.t 24) (.t 29) (.c (.bool false))), (some 30), none, [], []⟩, ⟨(.mv (.t 30)), (some 31), none, [], []⟩, ⟨(.faddr 12 (.t 2)), (some 32), (some (31, true)), [], []⟩, ⟨(.load 1 false (.t 32)), (some 33), (some (31, true)), [], []⟩, ⟨(.faddr 12 (.t 3)), (some 34), (some (31, true)), [], []⟩, ⟨(.load 1 false (.t 34)), (some 35), (some (31, true)), [], []⟩, ⟨(.bin .eql (.t 33) (.t 35)), (some 36), (some (31, true)), [], []⟩, ⟨(.pick (.t 31) (.t 36) (.c (.bool false))), (some 37), none, [], []⟩, ⟨(.mv (.t 37)), (some 38), none, [], []⟩, ⟨(.faddr 13 (.t 2)), (some 39), (some (38, true)), [], []⟩, ⟨(.load 1 false (.t 39)), (some 40), (some (38, true)), [], []⟩, ⟨(.faddr 13 (.t 3)), (some 41), (some (38, true)), [], []⟩, ⟨(.load 1 false (.t 41)), (some 42), (some (38, true)), [], []⟩, ⟨(.bin .eql (.t 40) (.t 42)), (some 43), (some (38, true)), [], []⟩, ⟨(.pick (.t 38) (.t 43) (.c (.bool false))), (some 44), none, [], []⟩, ⟨(.mv (.t 44)), (some 45), none, [], []⟩, ⟨(.faddr 14 (.t 2)), (some 46), (some (45, true)), [], []⟩, ⟨(.load 1 false (.t 46)), (some 47), (some (45, true)), [], []⟩, ⟨(.faddr 14 (.t 3)), (some 48), (some (45, true)), [], []⟩, ⟨(.load 1 false (.t 48)), (some 49), (some (45, true)), [], []⟩, ⟨(.beq false (.t 47) (.t 49)), (some 50), (some (45, true)), [], []⟩, ⟨(.pick (.t 45) (.t 50) (.c (.bool false))), (some 51), none, [], []⟩, ⟨(.mv (.t 51)), (some 4), none, [], []⟩]
def r_rSm_1 : Reg := ⟨[], t_rSm_1, [22], [], false⟩
def ir_rSm : IR := (.seq (.reg r_rSm_0)
  (.seq (.reg r_rSm_1)
  .ret))
def res_rSm : List RDesc := [(.tmp 4)]
theorem e_rSm_0 (C : FuncId → List AV → AV → Prop) (σ : St) (K : St → Prop) : runReg C r_rSm_0 σ K = runOps C t_rSm_0 (σ.kills [2, 3]) K := rfl
theorem e_rSm_1 (C : FuncId → List AV → AV → Prop) (σ : St) (K : St → Prop) : runReg C r_rSm_1 σ K = runOps C t_rSm_1 (σ.kills [22]) K := rfl
theorem fn_rSm {args : List AV} {r : AV} (ha : args.length.ble Try.f12.ntmps = true) (h : run (AFn Try.prog) ir_rSm (endQ res_rSm r) (initSt args)) : AFn Try.prog 12 args r :=
  AFn.of_code (pv := false) (hint := fun _ => []) (c := Try.f12.body.getD .skip) (by kernel_rfl) (by kernel_rfl) Try.func12 (by kernel_rfl) (by kernel_rfl) (by kernel_rfl) (of_decide_eq_true (by kernel_rfl)) (Nat.le_of_ble_eq_true ha) (Nat.le_of_ble_eq_true (by kernel_rfl)) (run_ok h)
attribute [local go_sem ↓] ir_peq
attribute [local go_sem] res_peq e_peq_0 e_peq_1 t_peq_1 e_peq_2 e_peq_3 t_peq_3 e_peq_4 e_peq_5 e_peq_6 h_peq_6 e_peq_7 e_peq_8 e_peq_10
attribute [local go_sem ↓] ir_r9s
attribute [local go_sem] res_r9s e_r9s_0 e_r9s_1 t_r9s_1 e_r9s_2 e_r9s_3 e_r9s_4 t_r9s_4 e_r9s_5 h_r9s_5 e_r9s_6 e_r9s_7 t_r9s_7 e_r9s_9
attribute [local go_sem ↓] ir_mSame
attribute [local go_sem] res_mSame e_mSame_0 e_mSame_1 t_mSame_1
attribute [local go_sem ↓] ir_aSame
attribute [local go_sem] res_aSame e_aSame_0 t_aSame_0 e_aSame_1 t_aSame_1
attribute [local go_sem ↓] ir_r10s
attribute [local go_sem] res_r10s e_r10s_0 t_r10s_0 e_r10s_1 t_r10s_1
attribute [local go_sem ↓] ir_hSame
attribute [local go_sem] res_hSame e_hSame_0 t_hSame_0 e_hSame_1 t_hSame_1 e_hSame_2 t_hSame_2
attribute [local go_sem ↓] ir_rSm
attribute [local go_sem] res_rSm e_rSm_0 t_rSm_0 e_rSm_1 t_rSm_1
def eqP (a b : Par) : Bool := (a.key.toList == b.key.toList) && (a.val.toList == b.val.toList)
def eqPs : List Par → List Par → Bool
  | [], [] => true
  | x :: a, y :: b => eqP x y && eqPs a b
  | _, _ => false
theorem eqPs_len : ∀ (a b : List Par), a.length ≠ b.length → eqPs a b = false
  | [], [], h => absurd rfl h
  | [], y :: b, _ => rfl
  | x :: a, [], _ => rfl
  | x :: a, y :: b, h => by
    rw [eqPs, eqPs_len a b (fun e => h (by rw [List.length_cons, List.length_cons, e])), Bool.and_false]
def peqInv (a b : List Par) (R : Bool) (k : Nat) (σ : St) : Prop :=
  ∃ j : Nat, j ≤ a.length ∧ k = a.length - j ∧ σ.T 0 = .sl (a.map Par.a) ∧ σ.T 1 = .sl (b.map Par.a) ∧ σ.T 13 = .int .i64 j ∧ σ.T 12 = .int .i64 a.length ∧ eqPs (a.drop j) (b.drop j) = R
set_option maxHeartbeats 1000000 in
theorem peq_ok (a b : List Par) (ha : a.length ≤ 1000000000) (hb : b.length ≤ 1000000000) : AFn Try.prog 52 [.sl (a.map Par.a), .sl (b.map Par.a)] (.bool (eqPs a b)) := by
  refine fn_peq rfl ?_
  by_cases hl : a.length = b.length
  case neg =>
    have hl' : (((a.length : Nat) : Int) != ((b.length : Nat) : Int)) = true := by simp; omega
    rw [eqPs_len a b hl]
    simp (maxSteps := 4000000) only [go_sem, ↓reduceIte, reduceCtorEq, Nat.reduceEqDiff, Nat.reduceBEq, Nat.reduceAdd, Nat.reduceSub, Nat.reduceMul, Nat.reduceLT, Nat.reduceLeDiff, Nat.reduceBNe, Int.reduceBEq, Int.reduceBNe, Int.reduceLT, Int.reduceLE, Par.a, Opr.a, Ans.a, Evt.a, nul, hl', List.length_map]
  have hl' : (((a.length : Nat) : Int) != ((b.length : Nat) : Int)) = false := by simp; omega
  obtain ⟨R, hR⟩ : ∃ R, eqPs a b = R := ⟨_, rfl⟩
  rw [hR]
  simp (maxSteps := 4000000) only [go_sem, ↓reduceIte, reduceCtorEq, Nat.reduceEqDiff, Nat.reduceBEq, Nat.reduceAdd, Nat.reduceSub, Nat.reduceMul, Nat.reduceLT, Nat.reduceLeDiff, Nat.reduceBNe, Int.reduceBEq, Int.reduceBNe, Int.reduceLT, Int.reduceLE, Par.a, Opr.a, Ans.a, Evt.a, nul, hl', List.length_map]
  refine run_loop (peqInv a b R) (k := a.length) ⟨0, by omega, rfl, ?_, ?_, ?_, ?_, hR⟩ ?_
  · (simp (maxSteps := 4000000) only [go_sem, ↓reduceIte, reduceCtorEq, Nat.reduceEqDiff, Nat.reduceBEq, Nat.reduceAdd, Nat.reduceSub, Nat.reduceMul, Nat.reduceLT, Nat.reduceLeDiff, Nat.reduceBNe, Int.reduceBEq, Int.reduceBNe, Int.reduceLT, Int.reduceLE, Par.a, Opr.a, Ans.a, Evt.a, nul]) <;> rfl
  · (simp (maxSteps := 4000000) only [go_sem, ↓reduceIte, reduceCtorEq, Nat.reduceEqDiff, Nat.reduceBEq, Nat.reduceAdd, Nat.reduceSub, Nat.reduceMul, Nat.reduceLT, Nat.reduceLeDiff, Nat.reduceBNe, Int.reduceBEq, Int.reduceBNe, Int.reduceLT, Int.reduceLE, Par.a, Opr.a, Ans.a, Evt.a, nul]) <;> rfl
  · (simp (maxSteps := 4000000) only [go_sem, ↓reduceIte, reduceCtorEq, Nat.reduceEqDiff, Nat.reduceBEq, Nat.reduceAdd, Nat.reduceSub, Nat.reduceMul, Nat.reduceLT, Nat.reduceLeDiff, Nat.reduceBNe, Int.reduceBEq, Int.reduceBNe, Int.reduceLT, Int.reduceLE, Par.a, Opr.a, Ans.a, Evt.a, nul]) <;> rfl
  · (simp (maxSteps := 4000000) only [go_sem, ↓reduceIte, reduceCtorEq, Nat.reduceEqDiff, Nat.reduceBEq, Nat.reduceAdd, Nat.reduceSub, Nat.reduceMul, Nat.reduceLT, Nat.reduceLeDiff, Nat.reduceBNe, Int.reduceBEq, Int.reduceBNe, Int.reduceLT, Int.reduceLE, Par.a, Opr.a, Ans.a, Evt.a, nul, List.length_map]) <;> rfl
  clear hR
  rintro k σ ⟨j, hj, rfl, t0, t1, t5, t8, hr⟩
  simp only [r_peq_l9]
  by_cases hlt : j < a.length
  case neg =>
    have hlt' : ¬ (j : Int) < (a.length : Int) := by omega
    rw [List.drop_eq_nil_of_le (by omega), List.drop_eq_nil_of_le (by omega), eqPs] at hr
    subst hr
    simp (maxSteps := 4000000) only [go_sem, ↓reduceIte, reduceCtorEq, Nat.reduceEqDiff, Nat.reduceBEq, Nat.reduceAdd, Nat.reduceSub, Nat.reduceMul, Nat.reduceLT, Nat.reduceLeDiff, Nat.reduceBNe, Int.reduceBEq, Int.reduceBNe, Int.reduceLT, Int.reduceLE, Par.a, Opr.a, Ans.a, Evt.a, nul, t0, t1, t5, t8, hlt', List.length_map]
  have hlt' : (j : Int) < (a.length : Int) := by omega
  have hlt2 : j < b.length := by omega
  obtain ⟨x, hx⟩ := get_lt hlt
  obtain ⟨y, hy⟩ := get_lt hlt2
  have hgx := at_map (f := Par.a) hx
  have hgy := at_map (f := Par.a) hy
  simp only [Par.a] at hgx hgy
  have hw := wrapS (j := j) (by omega)
  rw [drop_at hx, drop_at hy, eqPs] at hr
  unfold eqP at hr
  cases q1 : x.key.toList == y.key.toList <;> cases q2 : x.val.toList == y.val.toList <;> rw [q1, q2] at hr
  case true.true =>
    rw [Bool.and_self, Bool.true_and] at hr
    simp (maxSteps := 4000000) only [go_sem, ↓reduceIte, reduceCtorEq, Nat.reduceEqDiff, Nat.reduceBEq, Nat.reduceAdd, Nat.reduceSub, Nat.reduceMul, Nat.reduceLT, Nat.reduceLeDiff, Nat.reduceBNe, Int.reduceBEq, Int.reduceBNe, Int.reduceLT, Int.reduceLE, Par.a, Opr.a, Ans.a, Evt.a, nul, t0, t1, t5, t8, hlt', hgx, hgy, q1, q2, hw, hlt, hlt2, List.length_map, Int.toNat_natCast]
    (repeat refine And.intro (by omega) ?_)
    refine ⟨a.length - (j + 1), by omega, j + 1, by omega, rfl, ?_, ?_, ?_, ?_, hr⟩
    · simp (maxSteps := 4000000) only [go_sem, ↓reduceIte, reduceCtorEq, Nat.reduceEqDiff, Nat.reduceBEq, Nat.reduceAdd, Nat.reduceSub, Nat.reduceMul, Nat.reduceLT, Nat.reduceLeDiff, Nat.reduceBNe, Int.reduceBEq, Int.reduceBNe, Int.reduceLT, Int.reduceLE, Par.a, Opr.a, Ans.a, Evt.a, nul, t0]
    · simp (maxSteps := 4000000) only [go_sem, ↓reduceIte, reduceCtorEq, Nat.reduceEqDiff, Nat.reduceBEq, Nat.reduceAdd, Nat.reduceSub, Nat.reduceMul, Nat.reduceLT, Nat.reduceLeDiff, Nat.reduceBNe, Int.reduceBEq, Int.reduceBNe, Int.reduceLT, Int.reduceLE, Par.a, Opr.a, Ans.a, Evt.a, nul, t1]
    · simp (maxSteps := 4000000) only [go_sem, ↓reduceIte, reduceCtorEq, Nat.reduceEqDiff, Nat.reduceBEq, Nat.reduceAdd, Nat.reduceSub, Nat.reduceMul, Nat.reduceLT, Nat.reduceLeDiff, Nat.reduceBNe, Int.reduceBEq, Int.reduceBNe, Int.reduceLT, Int.reduceLE, Par.a, Opr.a, Ans.a, Evt.a, nul, hw]
    · simp (maxSteps := 4000000) only [go_sem, ↓reduceIte, reduceCtorEq, Nat.reduceEqDiff, Nat.reduceBEq, Nat.reduceAdd, Nat.reduceSub, Nat.reduceMul, Nat.reduceLT, Nat.reduceLeDiff, Nat.reduceBNe, Int.reduceBEq, Int.reduceBNe, Int.reduceLT, Int.reduceLE, Par.a, Opr.a, Ans.a, Evt.a, nul, t8]
  all_goals
    simp only [Bool.and_false, Bool.false_and, Bool.and_true, Bool.and_self] at hr
    subst hr
    simp (maxSteps := 4000000) only [go_sem, ↓reduceIte, reduceCtorEq, Nat.reduceEqDiff, Nat.reduceBEq, Nat.reduceAdd, Nat.reduceSub, Nat.reduceMul, Nat.reduceLT, Nat.reduceLeDiff, Nat.reduceBNe, Int.reduceBEq, Int.reduceBNe, Int.reduceLT, Int.reduceLE, Par.a, Opr.a, Ans.a, Evt.a, nul, t0, t1, t5, t8, hlt', hgx, hgy, q1, q2, hlt, hlt2, List.length_map, Int.toNat_natCast]
    all_goals omega
def r9sInv (a b : List Par) (R : Bool) (k : Nat) (σ : St) : Prop :=
  ∃ j : Nat, j ≤ a.length ∧ k = a.length - j ∧ σ.T 0 = .sl (a.map Par.a) ∧ σ.T 1 = .sl (b.map Par.a) ∧ σ.T 5 = .int .i64 j ∧ eqPs (a.drop j) (b.drop j) = R
set_option maxHeartbeats 1000000 in
theorem r9s_ok (a b : List Par) (ha : a.length ≤ 1000000000) (hb : b.length ≤ 1000000000) : AFn Try.prog 23 [.sl (a.map Par.a), .sl (b.map Par.a)] (.bool (eqPs a b)) := by
  refine fn_r9s rfl ?_
  by_cases hl : a.length = b.length
  case neg =>
    have hl' : (((a.length : Nat) : Int) != ((b.length : Nat) : Int)) = true := by simp; omega
    rw [eqPs_len a b hl]
    simp (maxSteps := 4000000) only [go_sem, ↓reduceIte, reduceCtorEq, Nat.reduceEqDiff, Nat.reduceBEq, Nat.reduceAdd, Nat.reduceSub, Nat.reduceMul, Nat.reduceLT, Nat.reduceLeDiff, Nat.reduceBNe, Int.reduceBEq, Int.reduceBNe, Int.reduceLT, Int.reduceLE, Par.a, Opr.a, Ans.a, Evt.a, nul, hl', List.length_map]
  have hl' : (((a.length : Nat) : Int) != ((b.length : Nat) : Int)) = false := by simp; omega
  obtain ⟨R, hR⟩ : ∃ R, eqPs a b = R := ⟨_, rfl⟩
  rw [hR]
  simp (maxSteps := 4000000) only [go_sem, ↓reduceIte, reduceCtorEq, Nat.reduceEqDiff, Nat.reduceBEq, Nat.reduceAdd, Nat.reduceSub, Nat.reduceMul, Nat.reduceLT, Nat.reduceLeDiff, Nat.reduceBNe, Int.reduceBEq, Int.reduceBNe, Int.reduceLT, Int.reduceLE, Par.a, Opr.a, Ans.a, Evt.a, nul, hl', List.length_map]
  refine run_loop (r9sInv a b R) (k := a.length) ⟨0, by omega, rfl, ?_, ?_, ?_, hR⟩ ?_
  · (simp (maxSteps := 4000000) only [go_sem, ↓reduceIte, reduceCtorEq, Nat.reduceEqDiff, Nat.reduceBEq, Nat.reduceAdd, Nat.reduceSub, Nat.reduceMul, Nat.reduceLT, Nat.reduceLeDiff, Nat.reduceBNe, Int.reduceBEq, Int.reduceBNe, Int.reduceLT, Int.reduceLE, Par.a, Opr.a, Ans.a, Evt.a, nul]) <;> rfl
  · (simp (maxSteps := 4000000) only [go_sem, ↓reduceIte, reduceCtorEq, Nat.reduceEqDiff, Nat.reduceBEq, Nat.reduceAdd, Nat.reduceSub, Nat.reduceMul, Nat.reduceLT, Nat.reduceLeDiff, Nat.reduceBNe, Int.reduceBEq, Int.reduceBNe, Int.reduceLT, Int.reduceLE, Par.a, Opr.a, Ans.a, Evt.a, nul]) <;> rfl
  · (simp (maxSteps := 4000000) only [go_sem, ↓reduceIte, reduceCtorEq, Nat.reduceEqDiff, Nat.reduceBEq, Nat.reduceAdd, Nat.reduceSub, Nat.reduceMul, Nat.reduceLT, Nat.reduceLeDiff, Nat.reduceBNe, Int.reduceBEq, Int.reduceBNe, Int.reduceLT, Int.reduceLE, Par.a, Opr.a, Ans.a, Evt.a, nul]) <;> rfl
  clear hR
  rintro k σ ⟨j, hj, rfl, t0, t1, t5, hr⟩
  simp only [r_r9s_l8]
  by_cases hlt : j < a.length
  case neg =>
    have hlt' : ¬ (j : Int) < (a.length : Int) := by omega
    rw [List.drop_eq_nil_of_le (by omega), List.drop_eq_nil_of_le (by omega), eqPs] at hr
    subst hr
    simp (maxSteps := 4000000) only [go_sem, ↓reduceIte, reduceCtorEq, Nat.reduceEqDiff, Nat.reduceBEq, Nat.reduceAdd, Nat.reduceSub, Nat.reduceMul, Nat.reduceLT, Nat.reduceLeDiff, Nat.reduceBNe, Int.reduceBEq, Int.reduceBNe, Int.reduceLT, Int.reduceLE, Par.a, Opr.a, Ans.a, Evt.a, nul, t0, t1, t5, hlt', List.length_map]
  have hlt' : (j : Int) < (a.length : Int) := by omega
  have hlt2 : j < b.length := by omega
  obtain ⟨x, hx⟩ := get_lt hlt
  obtain ⟨y, hy⟩ := get_lt hlt2
  have hgx := at_map (f := Par.a) hx
  have hgy := at_map (f := Par.a) hy
  simp only [Par.a] at hgx hgy
  have hw := wrapS (j := j) (by omega)
  rw [drop_at hx, drop_at hy, eqPs] at hr
  unfold eqP at hr
  cases q1 : x.key.toList == y.key.toList <;> cases q2 : x.val.toList == y.val.toList <;> rw [q1, q2] at hr
  case true.true =>
    rw [Bool.and_self, Bool.true_and] at hr
    simp (maxSteps := 4000000) only [go_sem, ↓reduceIte, reduceCtorEq, Nat.reduceEqDiff, Nat.reduceBEq, Nat.reduceAdd, Nat.reduceSub, Nat.reduceMul, Nat.reduceLT, Nat.reduceLeDiff, Nat.reduceBNe, Int.reduceBEq, Int.reduceBNe, Int.reduceLT, Int.reduceLE, Par.a, Opr.a, Ans.a, Evt.a, nul, t0, t1, t5, hlt', hgx, hgy, q1, q2, hw, hlt, hlt2, List.length_map, Int.toNat_natCast]
    (repeat refine And.intro (by omega) ?_)
    refine ⟨a.length - (j + 1), by omega, j + 1, by omega, rfl, ?_, ?_, ?_, hr⟩
    · simp (maxSteps := 4000000) only [go_sem, ↓reduceIte, reduceCtorEq, Nat.reduceEqDiff, Nat.reduceBEq, Nat.reduceAdd, Nat.reduceSub, Nat.reduceMul, Nat.reduceLT, Nat.reduceLeDiff, Nat.reduceBNe, Int.reduceBEq, Int.reduceBNe, Int.reduceLT, Int.reduceLE, Par.a, Opr.a, Ans.a, Evt.a, nul, t0]
    · simp (maxSteps := 4000000) only [go_sem, ↓reduceIte, reduceCtorEq, Nat.reduceEqDiff, Nat.reduceBEq, Nat.reduceAdd, Nat.reduceSub, Nat.reduceMul, Nat.reduceLT, Nat.reduceLeDiff, Nat.reduceBNe, Int.reduceBEq, Int.reduceBNe, Int.reduceLT, Int.reduceLE, Par.a, Opr.a, Ans.a, Evt.a, nul, t1]
    · simp (maxSteps := 4000000) only [go_sem, ↓reduceIte, reduceCtorEq, Nat.reduceEqDiff, Nat.reduceBEq, Nat.reduceAdd, Nat.reduceSub, Nat.reduceMul, Nat.reduceLT, Nat.reduceLeDiff, Nat.reduceBNe, Int.reduceBEq, Int.reduceBNe, Int.reduceLT, Int.reduceLE, Par.a, Opr.a, Ans.a, Evt.a, nul, hw]
  all_goals
    simp only [Bool.and_false, Bool.false_and, Bool.and_true, Bool.and_self] at hr
    subst hr
    simp (maxSteps := 4000000) only [go_sem, ↓reduceIte, reduceCtorEq, Nat.reduceEqDiff, Nat.reduceBEq, Nat.reduceAdd, Nat.reduceSub, Nat.reduceMul, Nat.reduceLT, Nat.reduceLeDiff, Nat.reduceBNe, Int.reduceBEq, Int.reduceBNe, Int.reduceLT, Int.reduceLE, Par.a, Opr.a, Ans.a, Evt.a, nul, t0, t1, t5, hlt', hgx, hgy, q1, q2, hlt, hlt2, List.length_map, Int.toNat_natCast]
    all_goals omega
theorem mSame_ok (a b : List Par) (ha : a.length ≤ 1000000000) (hb : b.length ≤ 1000000000) : AFn Try.prog 38 [.sl (a.map Par.a), .sl (b.map Par.a)] (.bool (eqPs a b)) := by
  refine fn_mSame rfl ?_
  have c := peq_ok a b ha hb
  (repeat (first | simp (maxSteps := 4000000) only [go_sem, ↓reduceIte, reduceCtorEq, Nat.reduceEqDiff, Nat.reduceBEq, Nat.reduceAdd, Nat.reduceSub, Nat.reduceMul, Nat.reduceLT, Nat.reduceLeDiff, Nat.reduceBNe, Int.reduceBEq, Int.reduceBNe, Int.reduceLT, Int.reduceLE, Par.a, Opr.a, Ans.a, Evt.a, nul] | refine calling (c) ?_ | refine callingH (c) ?_ | refine And.intro (by omega) ?_ | refine And.intro (fun d hd => by (repeat (rcases hd with rfl | hd; · exact ⟨rfl, rfl⟩)); cases hd) ?_))
def ansB (a b : Ans) : Bool := (a.err == b.err) && ((a.has == b.has) && ((a.val.toList == b.val.toList) && eqPs a.prs b.prs))
theorem aSame_ok (a b : Ans) (ha : a.prs.length ≤ 1000000000) (hb : b.prs.length ≤ 1000000000) : AFn Try.prog 29 [a.a, b.a] (.bool (ansB a b)) := by
  refine fn_aSame rfl ?_
  have c := mSame_ok a.prs b.prs ha hb
  unfold ansB
  simp only [Ans.a]
  generalize eqPs a.prs b.prs = r at *
  cases q1 : a.err == b.err
  · (repeat (first | simp (maxSteps := 4000000) only [go_sem, ↓reduceIte, reduceCtorEq, Nat.reduceEqDiff, Nat.reduceBEq, Nat.reduceAdd, Nat.reduceSub, Nat.reduceMul, Nat.reduceLT, Nat.reduceLeDiff, Nat.reduceBNe, Int.reduceBEq, Int.reduceBNe, Int.reduceLT, Int.reduceLE, Par.a, Opr.a, Ans.a, Evt.a, nul, q1, Bool.false_and] | refine calling (c) ?_ | refine callingH (c) ?_ | refine And.intro (by omega) ?_ | refine And.intro (fun d hd => by (repeat (rcases hd with rfl | hd; · exact ⟨rfl, rfl⟩)); cases hd) ?_))
  cases q2 : a.has == b.has
  · (repeat (first | simp (maxSteps := 4000000) only [go_sem, ↓reduceIte, reduceCtorEq, Nat.reduceEqDiff, Nat.reduceBEq, Nat.reduceAdd, Nat.reduceSub, Nat.reduceMul, Nat.reduceLT, Nat.reduceLeDiff, Nat.reduceBNe, Int.reduceBEq, Int.reduceBNe, Int.reduceLT, Int.reduceLE, Par.a, Opr.a, Ans.a, Evt.a, nul, q1, q2, Bool.false_and] | refine calling (c) ?_ | refine callingH (c) ?_ | refine And.intro (by omega) ?_ | refine And.intro (fun d hd => by (repeat (rcases hd with rfl | hd; · exact ⟨rfl, rfl⟩)); cases hd) ?_))
  cases q3 : a.val.toList == b.val.toList
  · (repeat (first | simp (maxSteps := 4000000) only [go_sem, ↓reduceIte, reduceCtorEq, Nat.reduceEqDiff, Nat.reduceBEq, Nat.reduceAdd, Nat.reduceSub, Nat.reduceMul, Nat.reduceLT, Nat.reduceLeDiff, Nat.reduceBNe, Int.reduceBEq, Int.reduceBNe, Int.reduceLT, Int.reduceLE, Par.a, Opr.a, Ans.a, Evt.a, nul, q1, q2, q3, Bool.false_and] | refine calling (c) ?_ | refine callingH (c) ?_ | refine And.intro (by omega) ?_ | refine And.intro (fun d hd => by (repeat (rcases hd with rfl | hd; · exact ⟨rfl, rfl⟩)); cases hd) ?_))
  (repeat (first | simp (maxSteps := 4000000) only [go_sem, ↓reduceIte, reduceCtorEq, Nat.reduceEqDiff, Nat.reduceBEq, Nat.reduceAdd, Nat.reduceSub, Nat.reduceMul, Nat.reduceLT, Nat.reduceLeDiff, Nat.reduceBNe, Int.reduceBEq, Int.reduceBNe, Int.reduceLT, Int.reduceLE, Par.a, Opr.a, Ans.a, Evt.a, nul, q1, q2, q3, Bool.true_and] | refine calling (c) ?_ | refine callingH (c) ?_ | refine And.intro (by omega) ?_ | refine And.intro (fun d hd => by (repeat (rcases hd with rfl | hd; · exact ⟨rfl, rfl⟩)); cases hd) ?_))
theorem r10s_ok (a b : Ans) (ha : a.prs.length ≤ 1000000000) (hb : b.prs.length ≤ 1000000000) : AFn Try.prog 30 [a.a, b.a] (.bool (ansB a b)) := by
  refine fn_r10s rfl ?_
  have c := r9s_ok a.prs b.prs ha hb
  unfold ansB
  simp only [Ans.a]
  generalize eqPs a.prs b.prs = r at *
  cases q1 : a.err == b.err
  · (repeat (first | simp (maxSteps := 4000000) only [go_sem, ↓reduceIte, reduceCtorEq, Nat.reduceEqDiff, Nat.reduceBEq, Nat.reduceAdd, Nat.reduceSub, Nat.reduceMul, Nat.reduceLT, Nat.reduceLeDiff, Nat.reduceBNe, Int.reduceBEq, Int.reduceBNe, Int.reduceLT, Int.reduceLE, Par.a, Opr.a, Ans.a, Evt.a, nul, q1, Bool.false_and] | refine calling (c) ?_ | refine callingH (c) ?_ | refine And.intro (by omega) ?_ | refine And.intro (fun d hd => by (repeat (rcases hd with rfl | hd; · exact ⟨rfl, rfl⟩)); cases hd) ?_))
  cases q2 : a.has == b.has
  · (repeat (first | simp (maxSteps := 4000000) only [go_sem, ↓reduceIte, reduceCtorEq, Nat.reduceEqDiff, Nat.reduceBEq, Nat.reduceAdd, Nat.reduceSub, Nat.reduceMul, Nat.reduceLT, Nat.reduceLeDiff, Nat.reduceBNe, Int.reduceBEq, Int.reduceBNe, Int.reduceLT, Int.reduceLE, Par.a, Opr.a, Ans.a, Evt.a, nul, q1, q2, Bool.false_and] | refine calling (c) ?_ | refine callingH (c) ?_ | refine And.intro (by omega) ?_ | refine And.intro (fun d hd => by (repeat (rcases hd with rfl | hd; · exact ⟨rfl, rfl⟩)); cases hd) ?_))
  cases q3 : a.val.toList == b.val.toList
  · (repeat (first | simp (maxSteps := 4000000) only [go_sem, ↓reduceIte, reduceCtorEq, Nat.reduceEqDiff, Nat.reduceBEq, Nat.reduceAdd, Nat.reduceSub, Nat.reduceMul, Nat.reduceLT, Nat.reduceLeDiff, Nat.reduceBNe, Int.reduceBEq, Int.reduceBNe, Int.reduceLT, Int.reduceLE, Par.a, Opr.a, Ans.a, Evt.a, nul, q1, q2, q3, Bool.false_and] | refine calling (c) ?_ | refine callingH (c) ?_ | refine And.intro (by omega) ?_ | refine And.intro (fun d hd => by (repeat (rcases hd with rfl | hd; · exact ⟨rfl, rfl⟩)); cases hd) ?_))
  (repeat (first | simp (maxSteps := 4000000) only [go_sem, ↓reduceIte, reduceCtorEq, Nat.reduceEqDiff, Nat.reduceBEq, Nat.reduceAdd, Nat.reduceSub, Nat.reduceMul, Nat.reduceLT, Nat.reduceLeDiff, Nat.reduceBNe, Int.reduceBEq, Int.reduceBNe, Int.reduceLT, Int.reduceLE, Par.a, Opr.a, Ans.a, Evt.a, nul, q1, q2, q3, Bool.true_and] | refine calling (c) ?_ | refine callingH (c) ?_ | refine And.intro (by omega) ?_ | refine And.intro (fun d hd => by (repeat (rcases hd with rfl | hd; · exact ⟨rfl, rfl⟩)); cases hd) ?_))
def opB (a b : Opr) : Bool := (a.kind == b.kind) && ((a.key.toList == b.key.toList) && ((a.hi.toList == b.hi.toList) && ((a.op == b.op) && ((a.val.toList == b.val.toList) && ((a.lim == b.lim) && true)))))
def evB (a b : Evt) : Bool := (a.client == b.client) && (opB a.op b.op && (ansB a.ans b.ans && ((a.began == b.began) && ((a.point == b.point) && ((a.ended == b.ended) && (a.done == b.done))))))
end
section
/-
  Histories: whether two events are one, and whether an event may be: the code and the document, walked.
-/
open Go.RowKit
set_option linter.unusedVariables false
set_option linter.unusedSimpArgs false
set_option maxRecDepth 100000
attribute [local go_sem ↓] runOp headOp
attribute [local go_sem ↓] ir_hSame
attribute [local go_sem] res_hSame e_hSame_0 t_hSame_0 e_hSame_1 t_hSame_1 e_hSame_2 t_hSame_2
attribute [local go_sem ↓] ir_rSm
attribute [local go_sem] res_rSm e_rSm_0 t_rSm_0 e_rSm_1 t_rSm_1
/-! ### percolate/history.May -/
def r_hMay_0 : Reg := ⟨[], [⟨(.box 15 32 (.t 0)), (some 2), none, [], []⟩, ⟨(.mv (.c (.bool false))), (some 4), none, [], []⟩], [2], [], false⟩
def t_hMay_1 : List ROp := [⟨(.faddr 0 (.t 2)), (some 5), none, [], []⟩, ⟨(.load 1 false (.t 5)), (some 6), none, [], []⟩, ⟨(.bin .lss (.t 6) (.c (.int .i64 0))), (some 7), none, [], []⟩, ⟨(.mv (.t 7)), (some 8), none, [], []⟩, ⟨(.faddr 11 (.t 2)), (some 9), (some (8, false)), [], []⟩, ⟨(.load 1 false (.t 9)), (some 10), (some (8, false)), [], []⟩, ⟨(.bin .lss (.t 10) (.c (.int .i64 1))), (some 11), (some (8, false)), [], []⟩, ⟨(.pick (.t 8) (.c (.bool true)) (.t 11)), (some 12), none, [], []⟩, ⟨(.mv (.t 12)), (some 13), none, [], []⟩, ⟨(.faddr 11 (.t 2)), (some 14), (some (13, false)), [], []⟩, ⟨(.load 1 false (.t 14)), (some 15), (some (13, false)), [], []⟩, ⟨(.mv (.t 1)), (some 16), (some (13, false)), [], []⟩, ⟨(.bin .gtr (.t 15) (.t 16)), (some 17), (some (13, false)), [], []⟩, ⟨(.pick (.t 13) (.c (.bool true)) (.t 17)), (some 18), none, [], []⟩, ⟨(.mv (.t 18)), (some 19), none, [], []⟩, ⟨(.faddr 12 (.t 2)), (some 20), (some (19, false)), [], []⟩, ⟨(.load 1 false (.t 20)), (some 21), (some (19, false)), [], []⟩, ⟨(.bin .neq (.t 21) (.c (.int .i64 0))), (some 22), (some (19, false)), [], []⟩, ⟨(.mv (.t 22)), (some 23), (some (19, false)), [], []⟩, ⟨(.faddr 12 (.t 2)), (some 24), (some (23, true)), [], []⟩, ⟨(.load 1 false (.t 24)), (some 25), (some (23, true)), [], []⟩, ⟨(.faddr 11 (.t 2)), (some 26), (some (23, true)), [], []⟩, ⟨(.load 1 false (.t 26)), (some 27), (some (23, true)), [], []⟩, ⟨(.bin .lss (.t 25) (.t 27)), (some 28), (some (23, true)), [], []⟩, ⟨(.mv (.t 28)), (some 29), (some (23, true)), [], []⟩, ⟨(.faddr 12 (.t 2)), (some 30), (some (29, false)), [], []⟩, ⟨(.load 1 false (.t 30)), (some 31), (some (29, false)), [], []⟩, ⟨(.mv (.t 1)), (some 32), (some (29, false)), [], []⟩, ⟨(.bin .gtr (.t 31) (.t 32)), (some 33), (some (29, false)), [], []⟩, ⟨(.pick (.t 29) (.c (.bool true)) (.t 33)), (some 34), (some (23, true)), [], []⟩, ⟨(.pick (.t 23) (.t 34) (.c (.bool false))), (some 35), (some (19, false)), [], []⟩, ⟨(.pick (.t 19) (.c (.bool true)) (.t 35)), (some 36), none, [], []⟩]
def r_hMay_1 : Reg := ⟨[], t_hMay_1, [], [], false⟩
def r_hMay_2 : Reg := ⟨[], [⟨(.mv (.c (.bool false))), (some 4), none, [], []⟩], [], [], false⟩
def r_hMay_3 : Reg := ⟨[], [⟨(.faddr 14 (.t 2)), (some 37), none, [], []⟩, ⟨(.load 1 false (.t 37)), (some 38), none, [], []⟩], [], [], false⟩
def t_hMay_4 : List ROp := [⟨(.faddr 12 (.t 2)), (some 39), none, [], []⟩, ⟨(.load 1 false (.t 39)), (some 40), none, [], []⟩, ⟨(.bin .neq (.t 40) (.c (.int .i64 0))), (some 41), none, [], []⟩, ⟨(.mv (.t 41)), (some 42), none, [], []⟩, ⟨(.faddr 13 (.t 2)), (some 43), (some (42, true)), [], []⟩, ⟨(.load 1 false (.t 43)), (some 44), (some (42, true)), [], []⟩, ⟨(.faddr 12 (.t 2)), (some 45), (some (42, true)), [], []⟩, ⟨(.load 1 false (.t 45)), (some 46), (some (42, true)), [], []⟩, ⟨(.bin .geq (.t 44) (.t 46)), (some 47), (some (42, true)), [], []⟩, ⟨(.pick (.t 42) (.t 47) (.c (.bool false))), (some 48), none, [], []⟩, ⟨(.mv (.t 48)), (some 49), none, [], []⟩, ⟨(.faddr 13 (.t 2)), (some 50), (some (49, true)), [], []⟩, ⟨(.load 1 false (.t 50)), (some 51), (some (49, true)), [], []⟩, ⟨(.mv (.t 1)), (some 52), (some (49, true)), [], []⟩, ⟨(.bin .leq (.t 51) (.t 52)), (some 53), (some (49, true)), [], []⟩, ⟨(.pick (.t 49) (.t 53) (.c (.bool false))), (some 54), none, [], []⟩, ⟨(.mv (.t 54)), (some 4), none, [], []⟩]
def r_hMay_4 : Reg := ⟨[], t_hMay_4, [], [], false⟩
def t_hMay_5 : List ROp := [⟨(.faddr 13 (.t 2)), (some 55), none, [62], []⟩, ⟨(.load 1 false (.t 55)), (some 56), none, [62], []⟩, ⟨(.bin .eql (.t 56) (.c (.int .i64 0))), (some 57), none, [62], []⟩, ⟨(.mv (.t 57)), (some 58), none, [62], []⟩, ⟨(.faddr 7 (.t 2)), (some 59), (some (58, true)), [62], []⟩, ⟨(.load 4 true (.t 59)), (some 60), (some (58, true)), [62], []⟩, ⟨(.bld [(.int .i64 0), (.bool false), (.str ⟨#[]⟩), (.sl [])] []), (some 61), (some (58, true)), [62], []⟩, ⟨(.callv (.c (.clo 29 [] [])) [(.t 60), (.t 61)]), (some 62), (some (58, true)), [], []⟩, ⟨(.pick (.t 58) (.t 62) (.c (.bool false))), (some 63), none, [], []⟩, ⟨(.mv (.t 63)), (some 4), none, [], []⟩]
def r_hMay_5 : Reg := ⟨[], t_hMay_5, [62], [], false⟩
def ir_hMay : IR := (.seq (.reg r_hMay_0)
  (.seq (.seq (.reg r_hMay_1)
  (.cond (.t 36) (.seq (.reg r_hMay_2)
  .ret)
  .skip))
  (.seq (.seq (.reg r_hMay_3)
  (.cond (.t 38) (.seq (.reg r_hMay_4)
  .ret)
  .skip))
  (.seq (.reg r_hMay_5)
  .ret))))
def res_hMay : List RDesc := [(.tmp 4)]
theorem e_hMay_0 (C : FuncId → List AV → AV → Prop) (σ : St) (K : St → Prop) : runReg C r_hMay_0 σ K = runOps C [⟨(.box 15 32 (.t 0)), (some 2), none, [], []⟩, ⟨(.mv (.c (.bool false))), (some 4), none, [], []⟩] (σ.kills [2]) K := rfl
theorem e_hMay_1 (C : FuncId → List AV → AV → Prop) (σ : St) (K : St → Prop) : runReg C r_hMay_1 σ K = runOps C t_hMay_1 (σ.kills []) K := rfl
theorem e_hMay_2 (C : FuncId → List AV → AV → Prop) (σ : St) (K : St → Prop) : runReg C r_hMay_2 σ K = runOps C [⟨(.mv (.c (.bool false))), (some 4), none, [], []⟩] (σ.kills []) K := rfl
theorem e_hMay_3 (C : FuncId → List AV → AV → Prop) (σ : St) (K : St → Prop) : runReg C r_hMay_3 σ K = runOps C [⟨(.faddr 14 (.t 2)), (some 37), none, [], []⟩, ⟨(.load 1 false (.t 37)), (some 38), none, [], []⟩] (σ.kills []) K := rfl
theorem e_hMay_4 (C : FuncId → List AV → AV → Prop) (σ : St) (K : St → Prop) : runReg C r_hMay_4 σ K = runOps C t_hMay_4 (σ.kills []) K := rfl
theorem e_hMay_5 (C : FuncId → List AV → AV → Prop) (σ : St) (K : St → Prop) : runReg C r_hMay_5 σ K = runOps C t_hMay_5 (σ.kills [62]) K := rfl
theorem fn_hMay {args : List AV} {r : AV} (ha : args.length.ble Try.f7.ntmps = true) (h : run (AFn Try.prog) ir_hMay (endQ res_hMay r) (initSt args)) : AFn Try.prog 7 args r :=
  AFn.of_code (pv := false) (hint := fun _ => []) (c := Try.f7.body.getD .skip) (by kernel_rfl) (by kernel_rfl) Try.func7 (by kernel_rfl) (by kernel_rfl) (by kernel_rfl) (of_decide_eq_true (by kernel_rfl)) (Nat.le_of_ble_eq_true ha) (Nat.le_of_ble_eq_true (by kernel_rfl)) (run_ok h)
/-! ### percolate/percolateref38.Right -/
def r_rRt_0 : Reg := ⟨[], [⟨(.box 15 32 (.t 0)), (some 2), none, [], []⟩, ⟨(.mv (.c (.bool false))), (some 4), none, [], []⟩], [2], [], false⟩
def t_rRt_1 : List ROp := [⟨(.faddr 0 (.t 2)), (some 5), none, [], []⟩, ⟨(.load 1 false (.t 5)), (some 6), none, [], []⟩, ⟨(.bin .lss (.t 6) (.c (.int .i64 0))), (some 7), none, [], []⟩, ⟨(.mv (.t 7)), (some 8), none, [], []⟩, ⟨(.faddr 11 (.t 2)), (some 9), (some (8, false)), [], []⟩, ⟨(.load 1 false (.t 9)), (some 10), (some (8, false)), [], []⟩, ⟨(.bin .lss (.t 10) (.c (.int .i64 1))), (some 11), (some (8, false)), [], []⟩, ⟨(.pick (.t 8) (.c (.bool true)) (.t 11)), (some 12), none, [], []⟩, ⟨(.mv (.t 12)), (some 13), none, [], []⟩, ⟨(.faddr 11 (.t 2)), (some 14), (some (13, false)), [], []⟩, ⟨(.load 1 false (.t 14)), (some 15), (some (13, false)), [], []⟩, ⟨(.mv (.t 1)), (some 16), (some (13, false)), [], []⟩, ⟨(.bin .gtr (.t 15) (.t 16)), (some 17), (some (13, false)), [], []⟩, ⟨(.pick (.t 13) (.c (.bool true)) (.t 17)), (some 18), none, [], []⟩, ⟨(.mv (.t 18)), (some 19), none, [], []⟩, ⟨(.faddr 12 (.t 2)), (some 20), (some (19, false)), [], []⟩, ⟨(.load 1 false (.t 20)), (some 21), (some (19, false)), [], []⟩, ⟨(.bin .lss (.t 21) (.c (.int .i64 0))), (some 22), (some (19, false)), [], []⟩, ⟨(.pick (.t 19) (.c (.bool true)) (.t 22)), (some 23), none, [], []⟩, ⟨(.mv (.t 23)), (some 24), none, [], []⟩, ⟨(.faddr 12 (.t 2)), (some 25), (some (24, false)), [], []⟩, ⟨(.load 1 false (.t 25)), (some 26), (some (24, false)), [], []⟩, ⟨(.mv (.t 1)), (some 27), (some (24, false)), [], []⟩, ⟨(.bin .gtr (.t 26) (.t 27)), (some 28), (some (24, false)), [], []⟩, ⟨(.pick (.t 24) (.c (.bool true)) (.t 28)), (some 29), none, [], []⟩, ⟨(.mv (.t 29)), (some 30), none, [], []⟩, ⟨(.faddr 12 (.t 2)), (some 31), (some (30, false)), [], []⟩, ⟨(.load 1 false (.t 31)), (some 32), (some (30, false)), [], []⟩, ⟨(.bin .gtr (.t 32) (.c (.int .i64 0))), (some 33), (some (30, false)), [], []⟩, ⟨(.mv (.t 33)), (some 34), (some (30, false)), [], []⟩, ⟨(.faddr 12 (.t 2)), (some 35), (some (34, true)), [], []⟩, ⟨(.load 1 false (.t 35)), (some 36), (some (34, true)), [], []⟩, ⟨(.faddr 11 (.t 2)), (some 37), (some (34, true)), [], []⟩, ⟨(.load 1 false (.t 37)), (some 38), (some (34, true)), [], []⟩, ⟨(.bin .lss (.t 36) (.t 38)), (some 39), (some (34, true)), [], []⟩, ⟨(.pick (.t 34) (.t 39) (.c (.bool false))), (some 40), (some (30, false)), [], []⟩, ⟨(.pick (.t 30) (.c (.bool true)) (.t 40)), (some 41), none, [], []⟩]
def r_rRt_1 : Reg := ⟨[], t_rRt_1, [], [], false⟩
def r_rRt_2 : Reg := ⟨[], [⟨(.mv (.c (.bool false))), (some 4), none, [], []⟩], [], [], false⟩
def t_rRt_3 : List ROp := [⟨(.faddr 14 (.t 2)), (some 42), none, [], []⟩, ⟨(.load 1 false (.t 42)), (some 43), none, [], []⟩, ⟨(.un .not (.t 43)), (some 44), none, [], []⟩]
def r_rRt_3 : Reg := ⟨[], t_rRt_3, [], [], false⟩
def t_rRt_4 : List ROp := [⟨(.faddr 13 (.t 2)), (some 45), none, [52], []⟩, ⟨(.load 1 false (.t 45)), (some 46), none, [52], []⟩, ⟨(.bin .eql (.t 46) (.c (.int .i64 0))), (some 47), none, [52], []⟩, ⟨(.mv (.t 47)), (some 48), none, [52], []⟩, ⟨(.faddr 7 (.t 2)), (some 49), (some (48, true)), [52], []⟩, ⟨(.load 4 true (.t 49)), (some 50), (some (48, true)), [52], []⟩, ⟨(.bld [(.int .i64 0), (.bool false), (.str ⟨#[]⟩), (.sl [])] []), (some 51), (some (48, true)), [52], []⟩, ⟨(.callv (.c (.clo 30 [] [])) [(.t 50), (.t 51)]), (some 52), (some (48, true)), [], []⟩, ⟨(.pick (.t 48) (.t 52) (.c (.bool false))), (some 53), none, [], []⟩, ⟨(.mv (.t 53)), (some 4), none, [], []⟩]
def r_rRt_4 : Reg := ⟨[], t_rRt_4, [52], [], false⟩
def t_rRt_5 : List ROp := [⟨(.faddr 12 (.t 2)), (some 54), none, [], []⟩, ⟨(.load 1 false (.t 54)), (some 55), none, [], []⟩, ⟨(.bin .gtr (.t 55) (.c (.int .i64 0))), (some 56), none, [], []⟩, ⟨(.mv (.t 56)), (some 57), none, [], []⟩, ⟨(.faddr 13 (.t 2)), (some 58), (some (57, true)), [], []⟩, ⟨(.load 1 false (.t 58)), (some 59), (some (57, true)), [], []⟩, ⟨(.faddr 12 (.t 2)), (some 60), (some (57, true)), [], []⟩, ⟨(.load 1 false (.t 60)), (some 61), (some (57, true)), [], []⟩, ⟨(.bin .geq (.t 59) (.t 61)), (some 62), (some (57, true)), [], []⟩, ⟨(.pick (.t 57) (.t 62) (.c (.bool false))), (some 63), none, [], []⟩, ⟨(.mv (.t 63)), (some 64), none, [], []⟩, ⟨(.faddr 13 (.t 2)), (some 65), (some (64, true)), [], []⟩, ⟨(.load 1 false (.t 65)), (some 66), (some (64, true)), [], []⟩, ⟨(.mv (.t 1)), (some 67), (some (64, true)), [], []⟩, ⟨(.bin .leq (.t 66) (.t 67)), (some 68), (some (64, true)), [], []⟩, ⟨(.pick (.t 64) (.t 68) (.c (.bool false))), (some 69), none, [], []⟩, ⟨(.mv (.t 69)), (some 4), none, [], []⟩]
def r_rRt_5 : Reg := ⟨[], t_rRt_5, [], [], false⟩
def ir_rRt : IR := (.seq (.reg r_rRt_0)
  (.seq (.seq (.reg r_rRt_1)
  (.cond (.t 41) (.seq (.reg r_rRt_2)
  .ret)
  .skip))
  (.seq (.seq (.reg r_rRt_3)
  (.cond (.t 44) (.seq (.reg r_rRt_4)
  .ret)
  .skip))
  (.seq (.reg r_rRt_5)
  .ret))))
def res_rRt : List RDesc := [(.tmp 4)]
theorem e_rRt_0 (C : FuncId → List AV → AV → Prop) (σ : St) (K : St → Prop) : runReg C r_rRt_0 σ K = runOps C [⟨(.box 15 32 (.t 0)), (some 2), none, [], []⟩, ⟨(.mv (.c (.bool false))), (some 4), none, [], []⟩] (σ.kills [2]) K := rfl
theorem e_rRt_1 (C : FuncId → List AV → AV → Prop) (σ : St) (K : St → Prop) : runReg C r_rRt_1 σ K = runOps C t_rRt_1 (σ.kills []) K := rfl
theorem e_rRt_2 (C : FuncId → List AV → AV → Prop) (σ : St) (K : St → Prop) : runReg C r_rRt_2 σ K = runOps C [⟨(.mv (.c (.bool false))), (some 4), none, [], []⟩] (σ.kills []) K := rfl
theorem e_rRt_3 (C : FuncId → List AV → AV → Prop) (σ : St) (K : St → Prop) : runReg C r_rRt_3 σ K = runOps C t_rRt_3 (σ.kills []) K := rfl
theorem e_rRt_4 (C : FuncId → List AV → AV → Prop) (σ : St) (K : St → Prop) : runReg C r_rRt_4 σ K = runOps C t_rRt_4 (σ.kills [52]) K := rfl
theorem e_rRt_5 (C : FuncId → List AV → AV → Prop) (σ : St) (K : St → Prop) : runReg C r_rRt_5 σ K = runOps C t_rRt_5 (σ.kills []) K := rfl
theorem fn_rRt {args : List AV} {r : AV} (ha : args.length.ble Try.f8.ntmps = true) (h : run (AFn Try.prog) ir_rRt (endQ res_rRt r) (initSt args)) : AFn Try.prog 8 args r :=
  AFn.of_code (pv := false) (hint := fun _ => []) (c := Try.f8.body.getD .skip) (by kernel_rfl) (by kernel_rfl) Try.func8 (by kernel_rfl) (by kernel_rfl) (by kernel_rfl) (of_decide_eq_true (by kernel_rfl)) (Nat.le_of_ble_eq_true ha) (Nat.le_of_ble_eq_true (by kernel_rfl)) (run_ok h)
attribute [local go_sem ↓] ir_hMay
attribute [local go_sem] res_hMay e_hMay_0 e_hMay_1 t_hMay_1 e_hMay_2 e_hMay_3 e_hMay_4 t_hMay_4 e_hMay_5 t_hMay_5
attribute [local go_sem ↓] ir_rRt
attribute [local go_sem] res_rRt e_rRt_0 e_rRt_1 t_rRt_1 e_rRt_2 e_rRt_3 t_rRt_3 e_rRt_4 t_rRt_4 e_rRt_5 t_rRt_5
set_option maxHeartbeats 4000000 in
theorem hSame_ok (a b : Evt) (ha : a.ans.prs.length ≤ 1000000000) (hb : b.ans.prs.length ≤ 1000000000) : AFn Try.prog 11 [a.a, b.a] (.bool (evB a b)) := by
  refine fn_hSame rfl ?_
  have c := aSame_ok a.ans b.ans ha hb
  unfold evB
  obtain ⟨ro, hro⟩ : ∃ r, opB a.op b.op = r := ⟨_, rfl⟩
  rw [hro]
  have qop := hro
  unfold opB at qop
  simp only [Bool.and_true] at qop
  generalize ansB a.ans b.ans = ra at *
  simp only [Ans.a] at c
  simp only [Evt.a]
  cases q_began : a.began == b.began
  · (repeat (first | simp (maxSteps := 4000000) only [go_sem, ↓reduceIte, reduceCtorEq, Nat.reduceEqDiff, Nat.reduceBEq, Nat.reduceAdd, Nat.reduceSub, Nat.reduceMul, Nat.reduceLT, Nat.reduceLeDiff, Nat.reduceBNe, Int.reduceBEq, Int.reduceBNe, Int.reduceLT, Int.reduceLE, Par.a, Opr.a, Ans.a, Evt.a, nul, q_began, Bool.and_false, Bool.false_and, Bool.true_and, Bool.and_true, Bool.and_self] | refine calling (c) ?_ | refine callingH (c) ?_ | refine And.intro (by omega) ?_ | refine And.intro (fun d hd => by (repeat (rcases hd with rfl | hd; · exact ⟨rfl, rfl⟩)); cases hd) ?_))
  cases q_point : a.point == b.point
  · (repeat (first | simp (maxSteps := 4000000) only [go_sem, ↓reduceIte, reduceCtorEq, Nat.reduceEqDiff, Nat.reduceBEq, Nat.reduceAdd, Nat.reduceSub, Nat.reduceMul, Nat.reduceLT, Nat.reduceLeDiff, Nat.reduceBNe, Int.reduceBEq, Int.reduceBNe, Int.reduceLT, Int.reduceLE, Par.a, Opr.a, Ans.a, Evt.a, nul, q_began, q_point, Bool.and_false, Bool.false_and, Bool.true_and, Bool.and_true, Bool.and_self] | refine calling (c) ?_ | refine callingH (c) ?_ | refine And.intro (by omega) ?_ | refine And.intro (fun d hd => by (repeat (rcases hd with rfl | hd; · exact ⟨rfl, rfl⟩)); cases hd) ?_))
  cases q_ended : a.ended == b.ended
  · (repeat (first | simp (maxSteps := 4000000) only [go_sem, ↓reduceIte, reduceCtorEq, Nat.reduceEqDiff, Nat.reduceBEq, Nat.reduceAdd, Nat.reduceSub, Nat.reduceMul, Nat.reduceLT, Nat.reduceLeDiff, Nat.reduceBNe, Int.reduceBEq, Int.reduceBNe, Int.reduceLT, Int.reduceLE, Par.a, Opr.a, Ans.a, Evt.a, nul, q_began, q_point, q_ended, Bool.and_false, Bool.false_and, Bool.true_and, Bool.and_true, Bool.and_self] | refine calling (c) ?_ | refine callingH (c) ?_ | refine And.intro (by omega) ?_ | refine And.intro (fun d hd => by (repeat (rcases hd with rfl | hd; · exact ⟨rfl, rfl⟩)); cases hd) ?_))
  cases q_done : a.done == b.done
  · (repeat (first | simp (maxSteps := 4000000) only [go_sem, ↓reduceIte, reduceCtorEq, Nat.reduceEqDiff, Nat.reduceBEq, Nat.reduceAdd, Nat.reduceSub, Nat.reduceMul, Nat.reduceLT, Nat.reduceLeDiff, Nat.reduceBNe, Int.reduceBEq, Int.reduceBNe, Int.reduceLT, Int.reduceLE, Par.a, Opr.a, Ans.a, Evt.a, nul, q_began, q_point, q_ended, q_done, Bool.and_false, Bool.false_and, Bool.true_and, Bool.and_true, Bool.and_self] | refine calling (c) ?_ | refine callingH (c) ?_ | refine And.intro (by omega) ?_ | refine And.intro (fun d hd => by (repeat (rcases hd with rfl | hd; · exact ⟨rfl, rfl⟩)); cases hd) ?_))
  cases q_client : a.client == b.client
  · (repeat (first | simp (maxSteps := 4000000) only [go_sem, ↓reduceIte, reduceCtorEq, Nat.reduceEqDiff, Nat.reduceBEq, Nat.reduceAdd, Nat.reduceSub, Nat.reduceMul, Nat.reduceLT, Nat.reduceLeDiff, Nat.reduceBNe, Int.reduceBEq, Int.reduceBNe, Int.reduceLT, Int.reduceLE, Par.a, Opr.a, Ans.a, Evt.a, nul, q_began, q_point, q_ended, q_done, q_client, Bool.and_false, Bool.false_and, Bool.true_and, Bool.and_true, Bool.and_self] | refine calling (c) ?_ | refine callingH (c) ?_ | refine And.intro (by omega) ?_ | refine And.intro (fun d hd => by (repeat (rcases hd with rfl | hd; · exact ⟨rfl, rfl⟩)); cases hd) ?_))
  cases ro
  · (repeat (first | simp (maxSteps := 4000000) only [go_sem, ↓reduceIte, reduceCtorEq, Nat.reduceEqDiff, Nat.reduceBEq, Nat.reduceAdd, Nat.reduceSub, Nat.reduceMul, Nat.reduceLT, Nat.reduceLeDiff, Nat.reduceBNe, Int.reduceBEq, Int.reduceBNe, Int.reduceLT, Int.reduceLE, Par.a, Opr.a, Ans.a, Evt.a, nul, q_began, q_point, q_ended, q_done, q_client, qop, Bool.and_false, Bool.false_and, Bool.true_and, Bool.and_true, Bool.and_self] | refine calling (c) ?_ | refine callingH (c) ?_ | refine And.intro (by omega) ?_ | refine And.intro (fun d hd => by (repeat (rcases hd with rfl | hd; · exact ⟨rfl, rfl⟩)); cases hd) ?_))
  cases ra
  · (repeat (first | simp (maxSteps := 4000000) only [go_sem, ↓reduceIte, reduceCtorEq, Nat.reduceEqDiff, Nat.reduceBEq, Nat.reduceAdd, Nat.reduceSub, Nat.reduceMul, Nat.reduceLT, Nat.reduceLeDiff, Nat.reduceBNe, Int.reduceBEq, Int.reduceBNe, Int.reduceLT, Int.reduceLE, Par.a, Opr.a, Ans.a, Evt.a, nul, q_began, q_point, q_ended, q_done, q_client, qop, Bool.and_false, Bool.false_and, Bool.true_and, Bool.and_true, Bool.and_self] | refine calling (c) ?_ | refine callingH (c) ?_ | refine And.intro (by omega) ?_ | refine And.intro (fun d hd => by (repeat (rcases hd with rfl | hd; · exact ⟨rfl, rfl⟩)); cases hd) ?_))
  (repeat (first | simp (maxSteps := 4000000) only [go_sem, ↓reduceIte, reduceCtorEq, Nat.reduceEqDiff, Nat.reduceBEq, Nat.reduceAdd, Nat.reduceSub, Nat.reduceMul, Nat.reduceLT, Nat.reduceLeDiff, Nat.reduceBNe, Int.reduceBEq, Int.reduceBNe, Int.reduceLT, Int.reduceLE, Par.a, Opr.a, Ans.a, Evt.a, nul, q_began, q_point, q_ended, q_done, q_client, qop, Bool.and_false, Bool.false_and, Bool.true_and, Bool.and_true, Bool.and_self] | refine calling (c) ?_ | refine callingH (c) ?_ | refine And.intro (by omega) ?_ | refine And.intro (fun d hd => by (repeat (rcases hd with rfl | hd; · exact ⟨rfl, rfl⟩)); cases hd) ?_))
set_option maxHeartbeats 4000000 in
theorem rSm_ok (a b : Evt) (ha : a.ans.prs.length ≤ 1000000000) (hb : b.ans.prs.length ≤ 1000000000) : AFn Try.prog 12 [a.a, b.a] (.bool (evB a b)) := by
  refine fn_rSm rfl ?_
  have c := r10s_ok a.ans b.ans ha hb
  unfold evB
  obtain ⟨ro, hro⟩ : ∃ r, opB a.op b.op = r := ⟨_, rfl⟩
  rw [hro]
  have qop := hro
  unfold opB at qop
  simp only [Bool.and_true] at qop
  generalize ansB a.ans b.ans = ra at *
  simp only [Ans.a] at c
  simp only [Evt.a]
  cases q_client : a.client == b.client
  · (repeat (first | simp (maxSteps := 4000000) only [go_sem, ↓reduceIte, reduceCtorEq, Nat.reduceEqDiff, Nat.reduceBEq, Nat.reduceAdd, Nat.reduceSub, Nat.reduceMul, Nat.reduceLT, Nat.reduceLeDiff, Nat.reduceBNe, Int.reduceBEq, Int.reduceBNe, Int.reduceLT, Int.reduceLE, Par.a, Opr.a, Ans.a, Evt.a, nul, q_client, Bool.and_false, Bool.false_and, Bool.true_and, Bool.and_true, Bool.and_self] | refine calling (c) ?_ | refine callingH (c) ?_ | refine And.intro (by omega) ?_ | refine And.intro (fun d hd => by (repeat (rcases hd with rfl | hd; · exact ⟨rfl, rfl⟩)); cases hd) ?_))
  cases ro
  · (repeat (first | simp (maxSteps := 4000000) only [go_sem, ↓reduceIte, reduceCtorEq, Nat.reduceEqDiff, Nat.reduceBEq, Nat.reduceAdd, Nat.reduceSub, Nat.reduceMul, Nat.reduceLT, Nat.reduceLeDiff, Nat.reduceBNe, Int.reduceBEq, Int.reduceBNe, Int.reduceLT, Int.reduceLE, Par.a, Opr.a, Ans.a, Evt.a, nul, q_client, qop, Bool.and_false, Bool.false_and, Bool.true_and, Bool.and_true, Bool.and_self] | refine calling (c) ?_ | refine callingH (c) ?_ | refine And.intro (by omega) ?_ | refine And.intro (fun d hd => by (repeat (rcases hd with rfl | hd; · exact ⟨rfl, rfl⟩)); cases hd) ?_))
  cases ra
  · (repeat (first | simp (maxSteps := 4000000) only [go_sem, ↓reduceIte, reduceCtorEq, Nat.reduceEqDiff, Nat.reduceBEq, Nat.reduceAdd, Nat.reduceSub, Nat.reduceMul, Nat.reduceLT, Nat.reduceLeDiff, Nat.reduceBNe, Int.reduceBEq, Int.reduceBNe, Int.reduceLT, Int.reduceLE, Par.a, Opr.a, Ans.a, Evt.a, nul, q_client, qop, Bool.and_false, Bool.false_and, Bool.true_and, Bool.and_true, Bool.and_self] | refine calling (c) ?_ | refine callingH (c) ?_ | refine And.intro (by omega) ?_ | refine And.intro (fun d hd => by (repeat (rcases hd with rfl | hd; · exact ⟨rfl, rfl⟩)); cases hd) ?_))
  cases q_began : a.began == b.began
  · (repeat (first | simp (maxSteps := 4000000) only [go_sem, ↓reduceIte, reduceCtorEq, Nat.reduceEqDiff, Nat.reduceBEq, Nat.reduceAdd, Nat.reduceSub, Nat.reduceMul, Nat.reduceLT, Nat.reduceLeDiff, Nat.reduceBNe, Int.reduceBEq, Int.reduceBNe, Int.reduceLT, Int.reduceLE, Par.a, Opr.a, Ans.a, Evt.a, nul, q_client, qop, q_began, Bool.and_false, Bool.false_and, Bool.true_and, Bool.and_true, Bool.and_self] | refine calling (c) ?_ | refine callingH (c) ?_ | refine And.intro (by omega) ?_ | refine And.intro (fun d hd => by (repeat (rcases hd with rfl | hd; · exact ⟨rfl, rfl⟩)); cases hd) ?_))
  cases q_point : a.point == b.point
  · (repeat (first | simp (maxSteps := 4000000) only [go_sem, ↓reduceIte, reduceCtorEq, Nat.reduceEqDiff, Nat.reduceBEq, Nat.reduceAdd, Nat.reduceSub, Nat.reduceMul, Nat.reduceLT, Nat.reduceLeDiff, Nat.reduceBNe, Int.reduceBEq, Int.reduceBNe, Int.reduceLT, Int.reduceLE, Par.a, Opr.a, Ans.a, Evt.a, nul, q_client, qop, q_began, q_point, Bool.and_false, Bool.false_and, Bool.true_and, Bool.and_true, Bool.and_self] | refine calling (c) ?_ | refine callingH (c) ?_ | refine And.intro (by omega) ?_ | refine And.intro (fun d hd => by (repeat (rcases hd with rfl | hd; · exact ⟨rfl, rfl⟩)); cases hd) ?_))
  cases q_ended : a.ended == b.ended
  · (repeat (first | simp (maxSteps := 4000000) only [go_sem, ↓reduceIte, reduceCtorEq, Nat.reduceEqDiff, Nat.reduceBEq, Nat.reduceAdd, Nat.reduceSub, Nat.reduceMul, Nat.reduceLT, Nat.reduceLeDiff, Nat.reduceBNe, Int.reduceBEq, Int.reduceBNe, Int.reduceLT, Int.reduceLE, Par.a, Opr.a, Ans.a, Evt.a, nul, q_client, qop, q_began, q_point, q_ended, Bool.and_false, Bool.false_and, Bool.true_and, Bool.and_true, Bool.and_self] | refine calling (c) ?_ | refine callingH (c) ?_ | refine And.intro (by omega) ?_ | refine And.intro (fun d hd => by (repeat (rcases hd with rfl | hd; · exact ⟨rfl, rfl⟩)); cases hd) ?_))
  cases q_done : a.done == b.done
  · (repeat (first | simp (maxSteps := 4000000) only [go_sem, ↓reduceIte, reduceCtorEq, Nat.reduceEqDiff, Nat.reduceBEq, Nat.reduceAdd, Nat.reduceSub, Nat.reduceMul, Nat.reduceLT, Nat.reduceLeDiff, Nat.reduceBNe, Int.reduceBEq, Int.reduceBNe, Int.reduceLT, Int.reduceLE, Par.a, Opr.a, Ans.a, Evt.a, nul, q_client, qop, q_began, q_point, q_ended, q_done, Bool.and_false, Bool.false_and, Bool.true_and, Bool.and_true, Bool.and_self] | refine calling (c) ?_ | refine callingH (c) ?_ | refine And.intro (by omega) ?_ | refine And.intro (fun d hd => by (repeat (rcases hd with rfl | hd; · exact ⟨rfl, rfl⟩)); cases hd) ?_))
  (repeat (first | simp (maxSteps := 4000000) only [go_sem, ↓reduceIte, reduceCtorEq, Nat.reduceEqDiff, Nat.reduceBEq, Nat.reduceAdd, Nat.reduceSub, Nat.reduceMul, Nat.reduceLT, Nat.reduceLeDiff, Nat.reduceBNe, Int.reduceBEq, Int.reduceBNe, Int.reduceLT, Int.reduceLE, Par.a, Opr.a, Ans.a, Evt.a, nul, q_client, qop, q_began, q_point, q_ended, q_done, Bool.and_false, Bool.false_and, Bool.true_and, Bool.and_true, Bool.and_self] | refine calling (c) ?_ | refine callingH (c) ?_ | refine And.intro (by omega) ?_ | refine And.intro (fun d hd => by (repeat (rcases hd with rfl | hd; · exact ⟨rfl, rfl⟩)); cases hd) ?_))
def mayA (e : Evt) (clock : Int) : Bool := decide (0 ≤ e.client ∧ 1 ≤ e.began ∧ e.began ≤ clock ∧ (e.point = 0 ∨ (e.began ≤ e.point ∧ e.point ≤ clock)))
def mayB (e : Evt) (clock : Int) : Bool := mayA e clock && (if e.done then decide (e.point ≠ 0 ∧ e.point ≤ e.ended ∧ e.ended ≤ clock) else decide (e.ended = 0) && ansB e.ans Ans.zero)
set_option maxHeartbeats 4000000 in
theorem hMay_ok (e : Evt) (clock : Int) (ha : e.ans.prs.length ≤ 1000000000) : AFn Try.prog 7 [e.a, .int .i64 clock] (.bool (mayB e clock)) := by
  refine fn_hMay rfl ?_
  have c := aSame_ok e.ans Ans.zero ha (by decide)
  unfold mayB
  generalize ansB e.ans Ans.zero = ra at *
  simp only [Ans.a, Ans.zero, List.map_nil] at c
  simp only [Evt.a]
  by_cases c1 : e.client < 0
  · rw [show mayA e clock = false from decide_eq_false (by omega)]
    simp (maxSteps := 4000000) only [go_sem, ↓reduceIte, reduceCtorEq, Nat.reduceEqDiff, Nat.reduceBEq, Nat.reduceAdd, Nat.reduceSub, Nat.reduceMul, Nat.reduceLT, Nat.reduceLeDiff, Nat.reduceBNe, Int.reduceBEq, Int.reduceBNe, Int.reduceLT, Int.reduceLE, Par.a, Opr.a, Ans.a, Evt.a, nul, c1, Bool.false_and]
  by_cases c2 : e.began < 1
  · rw [show mayA e clock = false from decide_eq_false (by omega)]
    simp (maxSteps := 4000000) only [go_sem, ↓reduceIte, reduceCtorEq, Nat.reduceEqDiff, Nat.reduceBEq, Nat.reduceAdd, Nat.reduceSub, Nat.reduceMul, Nat.reduceLT, Nat.reduceLeDiff, Nat.reduceBNe, Int.reduceBEq, Int.reduceBNe, Int.reduceLT, Int.reduceLE, Par.a, Opr.a, Ans.a, Evt.a, nul, c1, c2, Bool.false_and]
  by_cases c3 : clock < e.began
  · rw [show mayA e clock = false from decide_eq_false (by omega)]
    simp (maxSteps := 4000000) only [go_sem, ↓reduceIte, reduceCtorEq, Nat.reduceEqDiff, Nat.reduceBEq, Nat.reduceAdd, Nat.reduceSub, Nat.reduceMul, Nat.reduceLT, Nat.reduceLeDiff, Nat.reduceBNe, Int.reduceBEq, Int.reduceBNe, Int.reduceLT, Int.reduceLE, Par.a, Opr.a, Ans.a, Evt.a, nul, c1, c2, c3, Bool.false_and]
  by_cases c4 : e.point = 0
  · have c4' : (e.point != 0) = false := by simp [c4]
    rw [show mayA e clock = true from decide_eq_true (by omega), Bool.true_and]
    cases hd : e.done
    · rw [if_neg (by decide)]
      by_cases c5 : e.ended = 0
      · have c5' : (e.ended == 0) = true := by simp [c5]
        rw [decide_eq_true c5, Bool.true_and]
        (repeat (first | simp (maxSteps := 4000000) only [go_sem, ↓reduceIte, reduceCtorEq, Nat.reduceEqDiff, Nat.reduceBEq, Nat.reduceAdd, Nat.reduceSub, Nat.reduceMul, Nat.reduceLT, Nat.reduceLeDiff, Nat.reduceBNe, Int.reduceBEq, Int.reduceBNe, Int.reduceLT, Int.reduceLE, Par.a, Opr.a, Ans.a, Evt.a, nul, c1, c2, c3, c4', c5'] | refine calling (c) ?_ | refine callingH (c) ?_ | refine And.intro (by omega) ?_ | refine And.intro (fun d hd => by (repeat (rcases hd with rfl | hd; · exact ⟨rfl, rfl⟩)); cases hd) ?_))
      · have c5' : (e.ended == 0) = false := by simp [c5]
        rw [decide_eq_false c5, Bool.false_and]
        (repeat (first | simp (maxSteps := 4000000) only [go_sem, ↓reduceIte, reduceCtorEq, Nat.reduceEqDiff, Nat.reduceBEq, Nat.reduceAdd, Nat.reduceSub, Nat.reduceMul, Nat.reduceLT, Nat.reduceLeDiff, Nat.reduceBNe, Int.reduceBEq, Int.reduceBNe, Int.reduceLT, Int.reduceLE, Par.a, Opr.a, Ans.a, Evt.a, nul, c1, c2, c3, c4', c5'] | refine calling (c) ?_ | refine callingH (c) ?_ | refine And.intro (by omega) ?_ | refine And.intro (fun d hd => by (repeat (rcases hd with rfl | hd; · exact ⟨rfl, rfl⟩)); cases hd) ?_))
    · rw [if_pos rfl, decide_eq_false (by omega)]
      (repeat (first | simp (maxSteps := 4000000) only [go_sem, ↓reduceIte, reduceCtorEq, Nat.reduceEqDiff, Nat.reduceBEq, Nat.reduceAdd, Nat.reduceSub, Nat.reduceMul, Nat.reduceLT, Nat.reduceLeDiff, Nat.reduceBNe, Int.reduceBEq, Int.reduceBNe, Int.reduceLT, Int.reduceLE, Par.a, Opr.a, Ans.a, Evt.a, nul, c1, c2, c3, c4'] | refine calling (c) ?_ | refine callingH (c) ?_ | refine And.intro (by omega) ?_ | refine And.intro (fun d hd => by (repeat (rcases hd with rfl | hd; · exact ⟨rfl, rfl⟩)); cases hd) ?_))
  have c4' : (e.point != 0) = true := by simp [c4]
  by_cases c6 : e.point < e.began
  · rw [show mayA e clock = false from decide_eq_false (by omega)]
    simp (maxSteps := 4000000) only [go_sem, ↓reduceIte, reduceCtorEq, Nat.reduceEqDiff, Nat.reduceBEq, Nat.reduceAdd, Nat.reduceSub, Nat.reduceMul, Nat.reduceLT, Nat.reduceLeDiff, Nat.reduceBNe, Int.reduceBEq, Int.reduceBNe, Int.reduceLT, Int.reduceLE, Par.a, Opr.a, Ans.a, Evt.a, nul, c1, c2, c3, c4', c6, Bool.false_and]
  by_cases c7 : clock < e.point
  · rw [show mayA e clock = false from decide_eq_false (by omega)]
    simp (maxSteps := 4000000) only [go_sem, ↓reduceIte, reduceCtorEq, Nat.reduceEqDiff, Nat.reduceBEq, Nat.reduceAdd, Nat.reduceSub, Nat.reduceMul, Nat.reduceLT, Nat.reduceLeDiff, Nat.reduceBNe, Int.reduceBEq, Int.reduceBNe, Int.reduceLT, Int.reduceLE, Par.a, Opr.a, Ans.a, Evt.a, nul, c1, c2, c3, c4', c6, c7, Bool.false_and]
  rw [show mayA e clock = true from decide_eq_true (by omega), Bool.true_and]
  cases hd : e.done
  · rw [if_neg (by decide)]
    by_cases c5 : e.ended = 0
    · have c5' : (e.ended == 0) = true := by simp [c5]
      rw [decide_eq_true c5, Bool.true_and]
      (repeat (first | simp (maxSteps := 4000000) only [go_sem, ↓reduceIte, reduceCtorEq, Nat.reduceEqDiff, Nat.reduceBEq, Nat.reduceAdd, Nat.reduceSub, Nat.reduceMul, Nat.reduceLT, Nat.reduceLeDiff, Nat.reduceBNe, Int.reduceBEq, Int.reduceBNe, Int.reduceLT, Int.reduceLE, Par.a, Opr.a, Ans.a, Evt.a, nul, c1, c2, c3, c4', c5', c6, c7] | refine calling (c) ?_ | refine callingH (c) ?_ | refine And.intro (by omega) ?_ | refine And.intro (fun d hd => by (repeat (rcases hd with rfl | hd; · exact ⟨rfl, rfl⟩)); cases hd) ?_))
    · have c5' : (e.ended == 0) = false := by simp [c5]
      rw [decide_eq_false c5, Bool.false_and]
      (repeat (first | simp (maxSteps := 4000000) only [go_sem, ↓reduceIte, reduceCtorEq, Nat.reduceEqDiff, Nat.reduceBEq, Nat.reduceAdd, Nat.reduceSub, Nat.reduceMul, Nat.reduceLT, Nat.reduceLeDiff, Nat.reduceBNe, Int.reduceBEq, Int.reduceBNe, Int.reduceLT, Int.reduceLE, Par.a, Opr.a, Ans.a, Evt.a, nul, c1, c2, c3, c4', c5', c6, c7] | refine calling (c) ?_ | refine callingH (c) ?_ | refine And.intro (by omega) ?_ | refine And.intro (fun d hd => by (repeat (rcases hd with rfl | hd; · exact ⟨rfl, rfl⟩)); cases hd) ?_))
  · rw [if_pos rfl]
    by_cases c8 : e.point ≤ e.ended
    · by_cases c9 : e.ended ≤ clock
      · rw [decide_eq_true (by omega)]
        (repeat (first | simp (maxSteps := 4000000) only [go_sem, ↓reduceIte, reduceCtorEq, Nat.reduceEqDiff, Nat.reduceBEq, Nat.reduceAdd, Nat.reduceSub, Nat.reduceMul, Nat.reduceLT, Nat.reduceLeDiff, Nat.reduceBNe, Int.reduceBEq, Int.reduceBNe, Int.reduceLT, Int.reduceLE, Par.a, Opr.a, Ans.a, Evt.a, nul, c1, c2, c3, c4', c6, c7, c8, c9] | refine calling (c) ?_ | refine callingH (c) ?_ | refine And.intro (by omega) ?_ | refine And.intro (fun d hd => by (repeat (rcases hd with rfl | hd; · exact ⟨rfl, rfl⟩)); cases hd) ?_))
      · rw [decide_eq_false (by omega)]
        (repeat (first | simp (maxSteps := 4000000) only [go_sem, ↓reduceIte, reduceCtorEq, Nat.reduceEqDiff, Nat.reduceBEq, Nat.reduceAdd, Nat.reduceSub, Nat.reduceMul, Nat.reduceLT, Nat.reduceLeDiff, Nat.reduceBNe, Int.reduceBEq, Int.reduceBNe, Int.reduceLT, Int.reduceLE, Par.a, Opr.a, Ans.a, Evt.a, nul, c1, c2, c3, c4', c6, c7, c8, c9] | refine calling (c) ?_ | refine callingH (c) ?_ | refine And.intro (by omega) ?_ | refine And.intro (fun d hd => by (repeat (rcases hd with rfl | hd; · exact ⟨rfl, rfl⟩)); cases hd) ?_))
    · rw [decide_eq_false (by omega)]
      (repeat (first | simp (maxSteps := 4000000) only [go_sem, ↓reduceIte, reduceCtorEq, Nat.reduceEqDiff, Nat.reduceBEq, Nat.reduceAdd, Nat.reduceSub, Nat.reduceMul, Nat.reduceLT, Nat.reduceLeDiff, Nat.reduceBNe, Int.reduceBEq, Int.reduceBNe, Int.reduceLT, Int.reduceLE, Par.a, Opr.a, Ans.a, Evt.a, nul, c1, c2, c3, c4', c6, c7, c8] | refine calling (c) ?_ | refine callingH (c) ?_ | refine And.intro (by omega) ?_ | refine And.intro (fun d hd => by (repeat (rcases hd with rfl | hd; · exact ⟨rfl, rfl⟩)); cases hd) ?_))
set_option maxHeartbeats 4000000 in
theorem rRt_ok (e : Evt) (clock : Int) (ha : e.ans.prs.length ≤ 1000000000) : AFn Try.prog 8 [e.a, .int .i64 clock] (.bool (mayB e clock)) := by
  refine fn_rRt rfl ?_
  have c := r10s_ok e.ans Ans.zero ha (by decide)
  unfold mayB
  generalize ansB e.ans Ans.zero = ra at *
  simp only [Ans.a, Ans.zero, List.map_nil] at c
  simp only [Evt.a]
  by_cases c1 : e.client < 0
  · rw [show mayA e clock = false from decide_eq_false (by omega)]
    simp (maxSteps := 4000000) only [go_sem, ↓reduceIte, reduceCtorEq, Nat.reduceEqDiff, Nat.reduceBEq, Nat.reduceAdd, Nat.reduceSub, Nat.reduceMul, Nat.reduceLT, Nat.reduceLeDiff, Nat.reduceBNe, Int.reduceBEq, Int.reduceBNe, Int.reduceLT, Int.reduceLE, Par.a, Opr.a, Ans.a, Evt.a, nul, c1, Bool.false_and]
  by_cases c2 : e.began < 1
  · rw [show mayA e clock = false from decide_eq_false (by omega)]
    simp (maxSteps := 4000000) only [go_sem, ↓reduceIte, reduceCtorEq, Nat.reduceEqDiff, Nat.reduceBEq, Nat.reduceAdd, Nat.reduceSub, Nat.reduceMul, Nat.reduceLT, Nat.reduceLeDiff, Nat.reduceBNe, Int.reduceBEq, Int.reduceBNe, Int.reduceLT, Int.reduceLE, Par.a, Opr.a, Ans.a, Evt.a, nul, c1, c2, Bool.false_and]
  by_cases c3 : clock < e.began
  · rw [show mayA e clock = false from decide_eq_false (by omega)]
    simp (maxSteps := 4000000) only [go_sem, ↓reduceIte, reduceCtorEq, Nat.reduceEqDiff, Nat.reduceBEq, Nat.reduceAdd, Nat.reduceSub, Nat.reduceMul, Nat.reduceLT, Nat.reduceLeDiff, Nat.reduceBNe, Int.reduceBEq, Int.reduceBNe, Int.reduceLT, Int.reduceLE, Par.a, Opr.a, Ans.a, Evt.a, nul, c1, c2, c3, Bool.false_and]
  by_cases c4 : e.point < 0
  · rw [show mayA e clock = false from decide_eq_false (by omega)]
    simp (maxSteps := 4000000) only [go_sem, ↓reduceIte, reduceCtorEq, Nat.reduceEqDiff, Nat.reduceBEq, Nat.reduceAdd, Nat.reduceSub, Nat.reduceMul, Nat.reduceLT, Nat.reduceLeDiff, Nat.reduceBNe, Int.reduceBEq, Int.reduceBNe, Int.reduceLT, Int.reduceLE, Par.a, Opr.a, Ans.a, Evt.a, nul, c1, c2, c3, c4, Bool.false_and]
  by_cases c5 : clock < e.point
  · rw [show mayA e clock = false from decide_eq_false (by omega)]
    simp (maxSteps := 4000000) only [go_sem, ↓reduceIte, reduceCtorEq, Nat.reduceEqDiff, Nat.reduceBEq, Nat.reduceAdd, Nat.reduceSub, Nat.reduceMul, Nat.reduceLT, Nat.reduceLeDiff, Nat.reduceBNe, Int.reduceBEq, Int.reduceBNe, Int.reduceLT, Int.reduceLE, Par.a, Opr.a, Ans.a, Evt.a, nul, c1, c2, c3, c4, c5, Bool.false_and]
  by_cases c6 : 0 < e.point
  · by_cases c7 : e.point < e.began
    · rw [show mayA e clock = false from decide_eq_false (by omega)]
      simp (maxSteps := 4000000) only [go_sem, ↓reduceIte, reduceCtorEq, Nat.reduceEqDiff, Nat.reduceBEq, Nat.reduceAdd, Nat.reduceSub, Nat.reduceMul, Nat.reduceLT, Nat.reduceLeDiff, Nat.reduceBNe, Int.reduceBEq, Int.reduceBNe, Int.reduceLT, Int.reduceLE, Par.a, Opr.a, Ans.a, Evt.a, nul, c1, c2, c3, c4, c5, c6, c7, Bool.false_and]
    rw [show mayA e clock = true from decide_eq_true (by omega), Bool.true_and]
    cases hd : e.done
    · rw [if_neg (by decide)]
      by_cases c8 : e.ended = 0
      · have c8' : (e.ended == 0) = true := by simp [c8]
        rw [decide_eq_true c8, Bool.true_and]
        (repeat (first | simp (maxSteps := 4000000) only [go_sem, ↓reduceIte, reduceCtorEq, Nat.reduceEqDiff, Nat.reduceBEq, Nat.reduceAdd, Nat.reduceSub, Nat.reduceMul, Nat.reduceLT, Nat.reduceLeDiff, Nat.reduceBNe, Int.reduceBEq, Int.reduceBNe, Int.reduceLT, Int.reduceLE, Par.a, Opr.a, Ans.a, Evt.a, nul, c1, c2, c3, c4, c5, c6, c7, c8'] | refine calling (c) ?_ | refine callingH (c) ?_ | refine And.intro (by omega) ?_ | refine And.intro (fun d hd => by (repeat (rcases hd with rfl | hd; · exact ⟨rfl, rfl⟩)); cases hd) ?_))
      · have c8' : (e.ended == 0) = false := by simp [c8]
        rw [decide_eq_false c8, Bool.false_and]
        (repeat (first | simp (maxSteps := 4000000) only [go_sem, ↓reduceIte, reduceCtorEq, Nat.reduceEqDiff, Nat.reduceBEq, Nat.reduceAdd, Nat.reduceSub, Nat.reduceMul, Nat.reduceLT, Nat.reduceLeDiff, Nat.reduceBNe, Int.reduceBEq, Int.reduceBNe, Int.reduceLT, Int.reduceLE, Par.a, Opr.a, Ans.a, Evt.a, nul, c1, c2, c3, c4, c5, c6, c7, c8'] | refine calling (c) ?_ | refine callingH (c) ?_ | refine And.intro (by omega) ?_ | refine And.intro (fun d hd => by (repeat (rcases hd with rfl | hd; · exact ⟨rfl, rfl⟩)); cases hd) ?_))
    · rw [if_pos rfl]
      by_cases c8 : e.point ≤ e.ended
      · by_cases c9 : e.ended ≤ clock
        · rw [decide_eq_true (by omega)]
          (repeat (first | simp (maxSteps := 4000000) only [go_sem, ↓reduceIte, reduceCtorEq, Nat.reduceEqDiff, Nat.reduceBEq, Nat.reduceAdd, Nat.reduceSub, Nat.reduceMul, Nat.reduceLT, Nat.reduceLeDiff, Nat.reduceBNe, Int.reduceBEq, Int.reduceBNe, Int.reduceLT, Int.reduceLE, Par.a, Opr.a, Ans.a, Evt.a, nul, c1, c2, c3, c4, c5, c6, c7, c8, c9] | refine calling (c) ?_ | refine callingH (c) ?_ | refine And.intro (by omega) ?_ | refine And.intro (fun d hd => by (repeat (rcases hd with rfl | hd; · exact ⟨rfl, rfl⟩)); cases hd) ?_))
        · rw [decide_eq_false (by omega)]
          (repeat (first | simp (maxSteps := 4000000) only [go_sem, ↓reduceIte, reduceCtorEq, Nat.reduceEqDiff, Nat.reduceBEq, Nat.reduceAdd, Nat.reduceSub, Nat.reduceMul, Nat.reduceLT, Nat.reduceLeDiff, Nat.reduceBNe, Int.reduceBEq, Int.reduceBNe, Int.reduceLT, Int.reduceLE, Par.a, Opr.a, Ans.a, Evt.a, nul, c1, c2, c3, c4, c5, c6, c7, c8, c9] | refine calling (c) ?_ | refine callingH (c) ?_ | refine And.intro (by omega) ?_ | refine And.intro (fun d hd => by (repeat (rcases hd with rfl | hd; · exact ⟨rfl, rfl⟩)); cases hd) ?_))
      · rw [decide_eq_false (by omega)]
        (repeat (first | simp (maxSteps := 4000000) only [go_sem, ↓reduceIte, reduceCtorEq, Nat.reduceEqDiff, Nat.reduceBEq, Nat.reduceAdd, Nat.reduceSub, Nat.reduceMul, Nat.reduceLT, Nat.reduceLeDiff, Nat.reduceBNe, Int.reduceBEq, Int.reduceBNe, Int.reduceLT, Int.reduceLE, Par.a, Opr.a, Ans.a, Evt.a, nul, c1, c2, c3, c4, c5, c6, c7, c8] | refine calling (c) ?_ | refine callingH (c) ?_ | refine And.intro (by omega) ?_ | refine And.intro (fun d hd => by (repeat (rcases hd with rfl | hd; · exact ⟨rfl, rfl⟩)); cases hd) ?_))
  · rw [show mayA e clock = true from decide_eq_true (by omega), Bool.true_and]
    cases hd : e.done
    · rw [if_neg (by decide)]
      by_cases c8 : e.ended = 0
      · have c8' : (e.ended == 0) = true := by simp [c8]
        rw [decide_eq_true c8, Bool.true_and]
        (repeat (first | simp (maxSteps := 4000000) only [go_sem, ↓reduceIte, reduceCtorEq, Nat.reduceEqDiff, Nat.reduceBEq, Nat.reduceAdd, Nat.reduceSub, Nat.reduceMul, Nat.reduceLT, Nat.reduceLeDiff, Nat.reduceBNe, Int.reduceBEq, Int.reduceBNe, Int.reduceLT, Int.reduceLE, Par.a, Opr.a, Ans.a, Evt.a, nul, c1, c2, c3, c4, c5, c6, c8'] | refine calling (c) ?_ | refine callingH (c) ?_ | refine And.intro (by omega) ?_ | refine And.intro (fun d hd => by (repeat (rcases hd with rfl | hd; · exact ⟨rfl, rfl⟩)); cases hd) ?_))
      · have c8' : (e.ended == 0) = false := by simp [c8]
        rw [decide_eq_false c8, Bool.false_and]
        (repeat (first | simp (maxSteps := 4000000) only [go_sem, ↓reduceIte, reduceCtorEq, Nat.reduceEqDiff, Nat.reduceBEq, Nat.reduceAdd, Nat.reduceSub, Nat.reduceMul, Nat.reduceLT, Nat.reduceLeDiff, Nat.reduceBNe, Int.reduceBEq, Int.reduceBNe, Int.reduceLT, Int.reduceLE, Par.a, Opr.a, Ans.a, Evt.a, nul, c1, c2, c3, c4, c5, c6, c8'] | refine calling (c) ?_ | refine callingH (c) ?_ | refine And.intro (by omega) ?_ | refine And.intro (fun d hd => by (repeat (rcases hd with rfl | hd; · exact ⟨rfl, rfl⟩)); cases hd) ?_))
    · rw [if_pos rfl, decide_eq_false (by omega)]
      (repeat (first | simp (maxSteps := 4000000) only [go_sem, ↓reduceIte, reduceCtorEq, Nat.reduceEqDiff, Nat.reduceBEq, Nat.reduceAdd, Nat.reduceSub, Nat.reduceMul, Nat.reduceLT, Nat.reduceLeDiff, Nat.reduceBNe, Int.reduceBEq, Int.reduceBNe, Int.reduceLT, Int.reduceLE, Par.a, Opr.a, Ans.a, Evt.a, nul, c1, c2, c3, c4, c5, c6] | refine calling (c) ?_ | refine callingH (c) ?_ | refine And.intro (by omega) ?_ | refine And.intro (fun d hd => by (repeat (rcases hd with rfl | hd; · exact ⟨rfl, rfl⟩)); cases hd) ?_))
end
end Go.Proofs.Ytjkicoiiadgebaa
