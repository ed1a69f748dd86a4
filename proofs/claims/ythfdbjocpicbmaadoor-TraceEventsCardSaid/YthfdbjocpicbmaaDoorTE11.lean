/-
  Part 11 of a proof: TrC.
-/
import Derived.Test.YthfdbjocpicbmaaDoorTE10
namespace Go.Proofs.YthfdbjocpicbmaaDoor
attribute [local go_sem] ev0 ev1 ev2 ev3 ev4 evA stHOk.eq_1 stHOk.eq_2 stHSt.eq_1 stHSt.eq_2 okV valV fzV okF valF okBld valBld mxOk.eq_1 mxOk.eq_2 mxVal.eq_1 mxVal.eq_2 cellFit.eq_1 cellFit.eq_2 cellFit.eq_3 cellEq.eq_1 cellEq.eq_2 cellEq.eq_3 upd_at AV.flatB AV.flatBs binIok binIV binSok binSV cellsOk.eq_1 cellsOk.eq_2 cellsVal.eq_1 cellsVal.eq_2 objCells.eq_1 objCells.eq_2 objZ.eq_1 objZ.eq_2 objProt.eq_1 objProt.eq_2 oneObj ptrOk.eq_1 ptrOk.eq_2 ptrOk.eq_3 ptrCells.eq_1 ptrCells.eq_2 ptrCells.eq_3 lenOk.eq_1 lenOk.eq_2 lenOk.eq_3 lenOk.eq_4 lenVal.eq_1 lenVal.eq_2 lenVal.eq_3 lenVal.eq_4 faOk.eq_1 faOk.eq_2 faOk.eq_3 faVal.eq_1 faVal.eq_2 faVal.eq_3 iaOk.eq_1 iaOk.eq_2 iaOk.eq_3 iaVal.eq_1 iaVal.eq_2 iaVal.eq_3 slcLen.eq_1 slcLen.eq_2 slcLen.eq_3 slcLen.eq_4 bdOk.eq_1 bdOk.eq_2 bdVal.eq_1 bdVal.eq_2 slcOk.eq_1 slcOk.eq_2 slcOk.eq_3 slcOk.eq_4 slcVal.eq_1 slcVal.eq_2 slcVal.eq_3 slcVal.eq_4 slcFz.eq_1 slcFz.eq_2 byOk.eq_1 byOk.eq_2 byOk.eq_3 byOk.eq_4 byOk.eq_5 byOk.eq_6 byOk.eq_7 byOk.eq_8 byVal.eq_1 byVal.eq_2 byVal.eq_3 byFz.eq_1 byFz.eq_2 byFz.eq_3 byOks byVals byFzs allOne resSt.eq_1 resSt.eq_2 resName.eq_1 resName.eq_2 stOk.eq_1 stOk.eq_2 stArr.eq_1 stArr.eq_2 stSt.eq_1 stSt.eq_2 AV.patch nameOk_none gB.eq_1 gB.eq_2 gB.eq_3 gIs.eq_1 gIs.eq_2 gIs.eq_3 retV resV resVs evalV cellsV St.byval List.getD_cons_zero List.getD_cons_succ List.getD_nil List.map_cons List.map_nil List.length_cons List.length_nil List.take_succ_cons List.take_zero List.drop_succ_cons List.drop_zero List.headD_cons List.set_cons_zero List.append_nil List.nil_append List.cons_append List.contains_cons List.contains_nil List.elem_cons List.elem_nil List.all_cons List.all_nil List.getElem?_cons_zero List.getElem?_cons_succ List.filterMap_cons List.filterMap_nil Option.isSome_some Option.isSome_none Option.map_some Option.map_none Option.some.injEq AV.int.injEq AV.bool.injEq AV.str.injEq AV.tup.injEq AV.agg.injEq AV.sl.injEq List.cons.injEq Bool.false_eq_true Bool.true_eq_false Bool.not_true Bool.not_false Bool.and_true Bool.true_and Bool.or_false Bool.or_true Bool.false_or Bool.true_or Bool.or_self Bool.and_self Bool.not_eq_true' Bool.not_eq_false' Bool.not_not beq_self_eq_true true_and and_true false_and and_false and_self not_true_eq_false not_false_eq_true forall_const true_implies false_implies implies_true imp_self Nat.lt_add_one Nat.le_refl Nat.zero_le Nat.add_zero Nat.zero_add decide_true decide_false decide_eq_true_eq decide_eq_false_iff_not exists_eq_left exists_eq_left' ge_iff_le gt_iff_lt ite_branch ite_branch' nilOk.eq_1 nilOk.eq_2 nilMay.eq_1 nilMay.eq_2 AV.isSl.eq_1 objTy'.eq_1 objTy'.eq_2 apSt.eq_1 apArr.eq_1 apArr.eq_2 slOf.eq_1 fitsV List.mem_cons List.not_mem_nil Bool.false_and Bool.and_false primOk.eq_1 primOk.eq_2 primOk.eq_3 primOk.eq_4 primOk.eq_5 primVal.eq_1 primVal.eq_2 primVal.eq_3 primVal.eq_4 primVal.eq_5 mOk.eq_1 mOk.eq_2 mVal.eq_1 mVal.eq_2 mFz.eq_1 mFz.eq_2 mOks mVals mFzs mCalOk.eq_1 mCalOk.eq_2 mFn.eq_1 mFn.eq_2 mArgs.eq_1 mArgs.eq_2 ckOk.eq_1 ckOk.eq_2 cloOk.eq_1 ptrAt.eq_1 sh.eq_1 sh.eq_2 sh.eq_3 sh.eq_4 sh.eq_5 sh.eq_6 retM shH_small evM entOk.eq_1 entOk.eq_2 ents.eq_1 ents.eq_2 kI.eq_1 mpOk.eq_1 mpR.eq_1 lkV.eq_1 lkV.eq_2 remp.eq_2 evP pvOk.eq_1 pvOk.eq_2 pvVal.eq_1 pvVal.eq_2 plOk.eq_1 plOk.eq_2 plOk.eq_3 plV.eq_1 plV.eq_2 plF.eq_1 plF.eq_2 plVal.eq_1 plVal.eq_2 plFz.eq_1 plFz.eq_2 lpOk.eq_1 lpOk.eq_2 lpVal.eq_1 lpVal.eq_2 lpFz.eq_1 lpFz.eq_2 stpOk.eq_1 stpOk.eq_2 stpSt.eq_1 stpSt.eq_2 stpArr.eq_1
section
/-
  Traces: pairs, what is below a node, nodes as lines: the code, walked.
-/
open Go.RowKit
set_option linter.unusedVariables false
set_option linter.unusedSimpArgs false
set_option maxRecDepth 100000
attribute [local go_sem ↓] runOp headOp
/-! ### percolate/trace.Pairs -/
def r_tPairs_0 : Reg := ⟨[], [⟨(.mv (.c (.str ⟨#[]⟩))), (some 2), none, [], []⟩], [], [], false⟩
def t_tPairs_1 : List ROp := [⟨(.mv (.t 0)), (some 6), none, [8, 9], []⟩, ⟨(.len false (.t 6)), (some 7), none, [8, 9], []⟩, ⟨(.callv (.c (.clo 46 [] [])) [(.t 7)]), (some 8), none, [9], []⟩, ⟨(.bsl 1 9 [(.t 8)]), (some 9), none, [], []⟩, ⟨(.mv (.t 9)), (some 3), none, [], []⟩]
def r_tPairs_1 : Reg := ⟨[], t_tPairs_1, [8, 9], [], false⟩
def t_tPairs_2 : List ROp := [⟨(.mv (.t 0)), (some 10), none, [], []⟩, ⟨(.len false (.t 10)), (some 11), none, [], []⟩, ⟨(.mv (.c (.int .i64 0))), (some 12), none, [], []⟩]
def r_tPairs_2 : Reg := ⟨[], t_tPairs_2, [], [], false⟩
def r_tPairs_3 : Reg := ⟨[], [⟨(.bin .lss (.t 12) (.t 11)), (some 13), none, [], []⟩], [], [], false⟩
def t_tPairs_4 : List ROp := [⟨(.iaddr 2 (.t 10) (.t 12)), (some 14), none, [5], []⟩, ⟨(.load 2 true (.t 14)), (some 15), none, [5], []⟩, ⟨(.alloc 2 77 (.agg [(.str ⟨#[]⟩), (.str ⟨#[]⟩)])), (some 5), none, [], []⟩, ⟨(.store 2 (.t 5) (.t 15)), none, none, [], []⟩]
def r_tPairs_4 : Reg := ⟨[], t_tPairs_4, [5], [], false⟩
def h_tPairs_5 : List ROp := [⟨(.mv (.t 3)), (some 16), none, [19, 23, 25], []⟩, ⟨(.faddr 0 (.t 5)), (some 17), none, [19, 23, 25], []⟩, ⟨(.load 1 false (.t 17)), (some 18), none, [19, 23, 25], []⟩, ⟨(.callv (.c (.clo 70 [] [])) [(.t 18)]), (some 19), none, [23, 25], []⟩, ⟨(.bin .add (.t 19) (.c (.str ⟨#[61]⟩))), (some 20), none, [23, 25], []⟩, ⟨(.faddr 1 (.t 5)), (some 21), none, [19, 23, 25], []⟩, ⟨(.load 1 false (.t 21)), (some 22), none, [19, 23, 25], []⟩, ⟨(.callv (.c (.clo 70 [] [])) [(.t 22)]), (some 23), none, [25], []⟩, ⟨(.bin .add (.t 20) (.t 23)), (some 24), none, [25], []⟩, ⟨(.bsl 1 9 [(.t 24)]), (some 25), none, [], []⟩]
def r_tPairs_5 : Reg := ⟨h_tPairs_5, [⟨(.append 1 9 16 (.t 16) (.t 25)), (some 26), none, [], []⟩, ⟨(.mv (.t 26)), (some 3), none, [], []⟩], [19, 23, 25], [], true⟩
def r_tPairs_6 : Reg := ⟨[], [⟨(.bin .add (.t 12) (.c (.int .i64 1))), (some 27), none, [], []⟩, ⟨(.mv (.t 27)), (some 12), none, [], []⟩], [], [], false⟩
def r_tPairs_l7 : IR := (.seq (.reg r_tPairs_3)
  (.seq (.cond (.t 13) .skip
  (.exit 0))
  (.seq (.block 1 (.seq (.reg r_tPairs_4)
  (.reg r_tPairs_5)))
  (.reg r_tPairs_6))))
def t_tPairs_8 : List ROp := [⟨(.mv (.t 3)), (some 28), none, [29], []⟩, ⟨(.callv (.c (.clo 52 [] [])) [(.t 28)]), (some 29), none, [], []⟩, ⟨(.mv (.t 29)), (some 2), none, [], []⟩]
def r_tPairs_8 : Reg := ⟨[], t_tPairs_8, [29], [], false⟩
def ir_tPairs : IR := (.seq (.reg r_tPairs_0)
  (.seq (.reg r_tPairs_1)
  (.seq (.seq (.reg r_tPairs_2)
  (.block 0 (.loop r_tPairs_l7)))
  (.seq (.reg r_tPairs_8)
  .ret))))
def res_tPairs : List RDesc := [(.tmp 2)]
theorem e_tPairs_0 (C : FuncId → List AV → AV → Prop) (σ : St) (K : St → Prop) : runReg C r_tPairs_0 σ K = runOps C [⟨(.mv (.c (.str ⟨#[]⟩))), (some 2), none, [], []⟩] (σ.kills []) K := rfl
theorem e_tPairs_1 (C : FuncId → List AV → AV → Prop) (σ : St) (K : St → Prop) : runReg C r_tPairs_1 σ K = runOps C t_tPairs_1 (σ.kills [8, 9]) K := rfl
theorem e_tPairs_2 (C : FuncId → List AV → AV → Prop) (σ : St) (K : St → Prop) : runReg C r_tPairs_2 σ K = runOps C t_tPairs_2 (σ.kills []) K := rfl
theorem e_tPairs_3 (C : FuncId → List AV → AV → Prop) (σ : St) (K : St → Prop) : runReg C r_tPairs_3 σ K = runOps C [⟨(.bin .lss (.t 12) (.t 11)), (some 13), none, [], []⟩] (σ.kills []) K := rfl
theorem e_tPairs_4 (C : FuncId → List AV → AV → Prop) (σ : St) (K : St → Prop) : runReg C r_tPairs_4 σ K = runOps C t_tPairs_4 (σ.kills [5]) K := rfl
theorem e_tPairs_5 (C : FuncId → List AV → AV → Prop) (σ : St) (K : St → Prop) : runReg C r_tPairs_5 σ K = runHead C [] [⟨(.append 1 9 16 (.t 16) (.t 25)), (some 26), none, [], []⟩, ⟨(.mv (.t 26)), (some 3), none, [], []⟩] h_tPairs_5 (σ.kills [19, 23, 25]) K := rfl
theorem e_tPairs_6 (C : FuncId → List AV → AV → Prop) (σ : St) (K : St → Prop) : runReg C r_tPairs_6 σ K = runOps C [⟨(.bin .add (.t 12) (.c (.int .i64 1))), (some 27), none, [], []⟩, ⟨(.mv (.t 27)), (some 12), none, [], []⟩] (σ.kills []) K := rfl
theorem e_tPairs_8 (C : FuncId → List AV → AV → Prop) (σ : St) (K : St → Prop) : runReg C r_tPairs_8 σ K = runOps C t_tPairs_8 (σ.kills [29]) K := rfl
theorem fn_tPairs {args : List AV} {r : AV} (ha : args.length.ble Tryd.f123.ntmps = true) (h : run (AFn Tryd.prog) ir_tPairs (endQ res_tPairs r) (initSt args)) : AFn Tryd.prog 123 args r :=
  AFn.of_code (pv := false) (hint := fun _ => []) (c := Tryd.f123.body.getD .skip) (by kernel_rfl) (by kernel_rfl) Tryd.func123 (by kernel_rfl) (by kernel_rfl) (by kernel_rfl) (of_decide_eq_true (by kernel_rfl)) (Nat.le_of_ble_eq_true ha) (Nat.le_of_ble_eq_true (by kernel_rfl)) (run_ok h)
/-! ### percolate/trace.below -/
def r_tBelow_0 : Reg := ⟨[], [⟨(.box 10 34 (.t 0)), (some 1), none, [], []⟩, ⟨(.mv (.c (.str ⟨#[]⟩))), (some 2), none, [], []⟩], [1], [], false⟩
def t_tBelow_1 : List ROp := [⟨(.faddr 1 (.t 1)), (some 6), none, [], []⟩, ⟨(.load 1 false (.t 6)), (some 7), none, [], []⟩, ⟨(.bin .eql (.t 7) (.c (.int .i64 0))), (some 8), none, [], []⟩]
def r_tBelow_1 : Reg := ⟨[], t_tBelow_1, [], [], false⟩
def t_tBelow_2 : List ROp := [⟨(.faddr 9 (.t 1)), (some 9), none, [11, 12, 13], []⟩, ⟨(.load 1 false (.t 9)), (some 10), none, [11, 12, 13], []⟩, ⟨(.callv (.c (.clo 123 [] [])) [(.t 10)]), (some 11), none, [12, 13], []⟩, ⟨(.bsl 1 9 [(.c (.str ⟨#[114, 111, 119, 115]⟩)), (.t 11)]), (some 12), none, [13], []⟩, ⟨(.callv (.c (.clo 52 [] [])) [(.t 12)]), (some 13), none, [], []⟩, ⟨(.mv (.t 13)), (some 2), none, [], []⟩]
def r_tBelow_2 : Reg := ⟨[], t_tBelow_2, [11, 12, 13], [], false⟩
def r_tBelow_3 : Reg := ⟨[], [⟨(.bsl 1 9 [(.c (.str ⟨#[107, 105, 100, 115]⟩))]), (some 14), none, [], []⟩, ⟨(.mv (.t 14)), (some 3), none, [], []⟩], [14], [], false⟩
def t_tBelow_4 : List ROp := [⟨(.faddr 3 (.t 1)), (some 15), none, [], []⟩, ⟨(.load 1 false (.t 15)), (some 16), none, [], []⟩, ⟨(.len false (.t 16)), (some 17), none, [], []⟩, ⟨(.mv (.c (.int .i64 0))), (some 18), none, [], []⟩]
def r_tBelow_4 : Reg := ⟨[], t_tBelow_4, [], [], false⟩
def r_tBelow_5 : Reg := ⟨[], [⟨(.bin .lss (.t 18) (.t 17)), (some 19), none, [], []⟩], [], [], false⟩
def t_tBelow_6 : List ROp := [⟨(.mv (.t 18)), (some 20), none, [], []⟩, ⟨(.iaddr 1 (.t 16) (.t 18)), (some 21), none, [], []⟩, ⟨(.load 1 false (.t 21)), (some 22), none, [], []⟩, ⟨(.mv (.t 20)), (some 4), none, [], []⟩, ⟨(.mv (.t 22)), (some 5), none, [], []⟩]
def r_tBelow_6 : Reg := ⟨[], t_tBelow_6, [], [], false⟩
def t_tBelow_7 : List ROp := [⟨(.mv (.t 4)), (some 23), none, [], []⟩, ⟨(.bin .gtr (.t 23) (.c (.int .i64 0))), (some 24), none, [], []⟩, ⟨(.mv (.t 24)), (some 25), none, [], []⟩, ⟨(.mv (.t 4)), (some 26), (some (25, true)), [], []⟩, ⟨(.faddr 2 (.t 1)), (some 27), (some (25, true)), [], []⟩, ⟨(.load 1 false (.t 27)), (some 28), (some (25, true)), [], []⟩, ⟨(.len false (.t 28)), (some 29), (some (25, true)), [], []⟩, ⟨(.bin .leq (.t 26) (.t 29)), (some 30), (some (25, true)), [], []⟩, ⟨(.pick (.t 25) (.t 30) (.c (.bool false))), (some 31), none, [], []⟩]
def r_tBelow_7 : Reg := ⟨[], t_tBelow_7, [], [], false⟩
def t_tBelow_8 : List ROp := [⟨(.mv (.t 3)), (some 32), none, [39, 40], []⟩, ⟨(.faddr 2 (.t 1)), (some 33), none, [39, 40], []⟩, ⟨(.load 1 false (.t 33)), (some 34), none, [39, 40], []⟩, ⟨(.mv (.t 4)), (some 35), none, [39, 40], []⟩, ⟨(.bin .sub (.t 35) (.c (.int .i64 1))), (some 36), none, [39, 40], []⟩, ⟨(.iaddr 1 (.t 34) (.t 36)), (some 37), none, [39, 40], []⟩, ⟨(.load 1 false (.t 37)), (some 38), none, [39, 40], []⟩, ⟨(.callv (.c (.clo 70 [] [])) [(.t 38)]), (some 39), none, [40], []⟩, ⟨(.bsl 1 9 [(.t 39)]), (some 40), none, [], []⟩, ⟨(.append 1 9 16 (.t 32) (.t 40)), (some 41), none, [], []⟩, ⟨(.mv (.t 41)), (some 3), none, [], []⟩]
def r_tBelow_8 : Reg := ⟨[], t_tBelow_8, [39, 40], [], false⟩
def t_tBelow_9 : List ROp := [⟨(.mv (.t 3)), (some 42), none, [44, 45], []⟩, ⟨(.mv (.t 5)), (some 43), none, [44, 45], []⟩, ⟨(.callv (.c (.clo 46 [] [])) [(.t 43)]), (some 44), none, [45], []⟩, ⟨(.bsl 1 9 [(.t 44)]), (some 45), none, [], []⟩, ⟨(.append 1 9 16 (.t 42) (.t 45)), (some 46), none, [], []⟩, ⟨(.mv (.t 46)), (some 3), none, [], []⟩]
def r_tBelow_9 : Reg := ⟨[], t_tBelow_9, [44, 45], [], false⟩
def r_tBelow_10 : Reg := ⟨[], [⟨(.bin .add (.t 18) (.c (.int .i64 1))), (some 47), none, [], []⟩, ⟨(.mv (.t 47)), (some 18), none, [], []⟩], [], [], false⟩
def r_tBelow_l11 : IR := (.seq (.reg r_tBelow_5)
  (.seq (.cond (.t 19) .skip
  (.exit 0))
  (.seq (.block 1 (.seq (.reg r_tBelow_6)
  (.seq (.seq (.reg r_tBelow_7)
  (.cond (.t 31) (.reg r_tBelow_8)
  .skip))
  (.reg r_tBelow_9))))
  (.reg r_tBelow_10))))
def t_tBelow_12 : List ROp := [⟨(.mv (.t 3)), (some 48), none, [49], []⟩, ⟨(.callv (.c (.clo 52 [] [])) [(.t 48)]), (some 49), none, [], []⟩, ⟨(.mv (.t 49)), (some 2), none, [], []⟩]
def r_tBelow_12 : Reg := ⟨[], t_tBelow_12, [49], [], false⟩
def ir_tBelow : IR := (.seq (.reg r_tBelow_0)
  (.seq (.seq (.reg r_tBelow_1)
  (.cond (.t 8) (.seq (.reg r_tBelow_2)
  .ret)
  .skip))
  (.seq (.reg r_tBelow_3)
  (.seq (.seq (.reg r_tBelow_4)
  (.block 0 (.loop r_tBelow_l11)))
  (.seq (.reg r_tBelow_12)
  .ret)))))
def res_tBelow : List RDesc := [(.tmp 2)]
theorem e_tBelow_0 (C : FuncId → List AV → AV → Prop) (σ : St) (K : St → Prop) : runReg C r_tBelow_0 σ K = runOps C [⟨(.box 10 34 (.t 0)), (some 1), none, [], []⟩, ⟨(.mv (.c (.str ⟨#[]⟩))), (some 2), none, [], []⟩] (σ.kills [1]) K := rfl
theorem e_tBelow_1 (C : FuncId → List AV → AV → Prop) (σ : St) (K : St → Prop) : runReg C r_tBelow_1 σ K = runOps C t_tBelow_1 (σ.kills []) K := rfl
theorem e_tBelow_2 (C : FuncId → List AV → AV → Prop) (σ : St) (K : St → Prop) : runReg C r_tBelow_2 σ K = runOps C t_tBelow_2 (σ.kills [11, 12, 13]) K := rfl
theorem e_tBelow_3 (C : FuncId → List AV → AV → Prop) (σ : St) (K : St → Prop) : runReg C r_tBelow_3 σ K = runOps C [⟨(.bsl 1 9 [(.c (.str ⟨#[107, 105, 100, 115]⟩))]), (some 14), none, [], []⟩, ⟨(.mv (.t 14)), (some 3), none, [], []⟩] (σ.kills [14]) K := rfl
theorem e_tBelow_4 (C : FuncId → List AV → AV → Prop) (σ : St) (K : St → Prop) : runReg C r_tBelow_4 σ K = runOps C t_tBelow_4 (σ.kills []) K := rfl
theorem e_tBelow_5 (C : FuncId → List AV → AV → Prop) (σ : St) (K : St → Prop) : runReg C r_tBelow_5 σ K = runOps C [⟨(.bin .lss (.t 18) (.t 17)), (some 19), none, [], []⟩] (σ.kills []) K := rfl
theorem e_tBelow_6 (C : FuncId → List AV → AV → Prop) (σ : St) (K : St → Prop) : runReg C r_tBelow_6 σ K = runOps C t_tBelow_6 (σ.kills []) K := rfl
theorem e_tBelow_7 (C : FuncId → List AV → AV → Prop) (σ : St) (K : St → Prop) : runReg C r_tBelow_7 σ K = runOps C t_tBelow_7 (σ.kills []) K := rfl
theorem e_tBelow_8 (C : FuncId → List AV → AV → Prop) (σ : St) (K : St → Prop) : runReg C r_tBelow_8 σ K = runOps C t_tBelow_8 (σ.kills [39, 40]) K := rfl
theorem e_tBelow_9 (C : FuncId → List AV → AV → Prop) (σ : St) (K : St → Prop) : runReg C r_tBelow_9 σ K = runOps C t_tBelow_9 (σ.kills [44, 45]) K := rfl
theorem e_tBelow_10 (C : FuncId → List AV → AV → Prop) (σ : St) (K : St → Prop) : runReg C r_tBelow_10 σ K = runOps C [⟨(.bin .add (.t 18) (.c (.int .i64 1))), (some 47), none, [], []⟩, ⟨(.mv (.t 47)), (some 18), none, [], []⟩] (σ.kills []) K := rfl
theorem e_tBelow_12 (C : FuncId → List AV → AV → Prop) (σ : St) (K : St → Prop) : runReg C r_tBelow_12 σ K = runOps C t_tBelow_12 (σ.kills [49]) K := rfl
theorem fn_tBelow {args : List AV} {r : AV} (ha : args.length.ble Tryd.f90.ntmps = true) (h : run (AFn Tryd.prog) ir_tBelow (endQ res_tBelow r) (initSt args)) : AFn Tryd.prog 90 args r :=
  AFn.of_code (pv := false) (hint := fun _ => []) (c := Tryd.f90.body.getD .skip) (by kernel_rfl) (by kernel_rfl) Tryd.func90 (by kernel_rfl) (by kernel_rfl) (by kernel_rfl) (of_decide_eq_true (by kernel_rfl)) (Nat.le_of_ble_eq_true ha) (Nat.le_of_ble_eq_true (by kernel_rfl)) (run_ok h)
/-! ### percolate/trace.Node -/
def r_tNode_0 : Reg := ⟨[], [⟨(.box 10 34 (.t 0)), (some 1), none, [], []⟩, ⟨(.mv (.c (.str ⟨#[]⟩))), (some 2), none, [], []⟩], [1], [], false⟩
def t_tNode_1 : List ROp := [⟨(.faddr 4 (.t 1)), (some 7), none, [9], []⟩, ⟨(.load 1 false (.t 7)), (some 8), none, [9], []⟩, ⟨(.callv (.c (.clo 70 [] [])) [(.t 8)]), (some 9), none, [], []⟩, ⟨(.mv (.t 9)), (some 3), none, [], []⟩]
def r_tNode_1 : Reg := ⟨[], t_tNode_1, [9], [], false⟩
def r_tNode_2 : Reg := ⟨[], [⟨(.faddr 5 (.t 1)), (some 10), none, [], []⟩, ⟨(.load 1 false (.t 10)), (some 11), none, [], []⟩], [], [], false⟩
def r_tNode_3 : Reg := ⟨[], [⟨(.mv (.c (.str ⟨#[42]⟩))), (some 3), none, [], []⟩], [], [], false⟩
def t_tNode_4 : List ROp := [⟨(.faddr 8 (.t 1)), (some 12), none, [15, 16, 17], []⟩, ⟨(.load 1 false (.t 12)), (some 13), none, [15, 16, 17], []⟩, ⟨(.len false (.t 13)), (some 14), none, [15, 16, 17], []⟩, ⟨(.callv (.c (.clo 46 [] [])) [(.t 14)]), (some 15), none, [16, 17], []⟩, ⟨(.bsl 1 9 [(.c (.str ⟨#[109, 115, 103, 115]⟩)), (.t 15)]), (some 16), none, [17], []⟩, ⟨(.callv (.c (.clo 52 [] [])) [(.t 16)]), (some 17), none, [], []⟩, ⟨(.mv (.t 17)), (some 4), none, [], []⟩]
def r_tNode_4 : Reg := ⟨[], t_tNode_4, [15, 16, 17], [], false⟩
def t_tNode_5 : List ROp := [⟨(.faddr 8 (.t 1)), (some 18), none, [], []⟩, ⟨(.load 1 false (.t 18)), (some 19), none, [], []⟩, ⟨(.len false (.t 19)), (some 20), none, [], []⟩, ⟨(.mv (.c (.int .i64 0))), (some 21), none, [], []⟩]
def r_tNode_5 : Reg := ⟨[], t_tNode_5, [], [], false⟩
def r_tNode_6 : Reg := ⟨[], [⟨(.bin .lss (.t 21) (.t 20)), (some 22), none, [], []⟩], [], [], false⟩
def t_tNode_7 : List ROp := [⟨(.iaddr 6 (.t 19) (.t 21)), (some 23), none, [6], []⟩, ⟨(.load 6 true (.t 23)), (some 24), none, [6], []⟩, ⟨(.alloc 6 123 (.agg [(.int .i64 0), (.int .i64 0), (.str ⟨#[]⟩), (.str ⟨#[]⟩), (.bool false), (.str ⟨#[]⟩)])), (some 6), none, [], []⟩, ⟨(.store 6 (.t 6) (.t 24)), none, none, [], []⟩]
def r_tNode_7 : Reg := ⟨[], t_tNode_7, [6], [], false⟩
def t_tNode_8 : List ROp := [⟨(.mv (.t 4)), (some 25), none, [27, 28, 29], []⟩, ⟨(.load 6 true (.t 6)), (some 26), none, [27, 28, 29], []⟩, ⟨(.callv (.c (.clo 89 [] [])) [(.t 26)]), (some 27), none, [28, 29], []⟩, ⟨(.bsl 1 9 [(.t 25), (.c (.str ⟨#[44]⟩)), (.t 27)]), (some 28), none, [29], []⟩, ⟨(.callv (.c (.clo 52 [] [])) [(.t 28)]), (some 29), none, [], []⟩, ⟨(.mv (.t 29)), (some 4), none, [], []⟩]
def r_tNode_8 : Reg := ⟨[], t_tNode_8, [27, 28, 29], [], false⟩
def r_tNode_9 : Reg := ⟨[], [⟨(.bin .add (.t 21) (.c (.int .i64 1))), (some 30), none, [], []⟩, ⟨(.mv (.t 30)), (some 21), none, [], []⟩], [], [], false⟩
def r_tNode_l10 : IR := (.seq (.reg r_tNode_6)
  (.seq (.cond (.t 22) .skip
  (.exit 0))
  (.seq (.block 1 (.seq (.reg r_tNode_7)
  (.reg r_tNode_8)))
  (.reg r_tNode_9))))
def t_tNode_11 : List ROp := [⟨(.bsl 1 9 [(.c (.str ⟨#[110, 111, 100, 101]⟩)), (.t 33), (.t 36), (.t 39), (.t 42), (.t 43), (.c (.str ⟨#[58]⟩)), (.t 45), (.c (.str ⟨#[58]⟩)), (.t 46)]), (some 47), none, [48], []⟩, ⟨(.callv (.c (.clo 52 [] [])) [(.t 47)]), (some 48), none, [], []⟩, ⟨(.mv (.t 48)), (some 2), none, [], []⟩]
def h_tNode_11 : List ROp := [⟨(.faddr 0 (.t 1)), (some 31), none, [33, 36, 39, 42, 45, 47, 48], []⟩, ⟨(.load 1 false (.t 31)), (some 32), none, [33, 36, 39, 42, 45, 47, 48], []⟩, ⟨(.callv (.c (.clo 46 [] [])) [(.t 32)]), (some 33), none, [36, 39, 42, 45, 47, 48], []⟩, ⟨(.faddr 1 (.t 1)), (some 34), none, [33, 36, 39, 42, 45, 47, 48], []⟩, ⟨(.load 1 false (.t 34)), (some 35), none, [33, 36, 39, 42, 45, 47, 48], []⟩, ⟨(.callv (.c (.clo 46 [] [])) [(.t 35)]), (some 36), none, [39, 42, 45, 47, 48], []⟩, ⟨(.faddr 7 (.t 1)), (some 37), none, [33, 36, 39, 42, 45, 47, 48], []⟩, ⟨(.load 1 false (.t 37)), (some 38), none, [33, 36, 39, 42, 45, 47, 48], []⟩, ⟨(.callv (.c (.clo 46 [] [])) [(.t 38)]), (some 39), none, [42, 45, 47, 48], []⟩, ⟨(.faddr 6 (.t 1)), (some 40), none, [33, 36, 39, 42, 45, 47, 48], []⟩, ⟨(.load 1 false (.t 40)), (some 41), none, [33, 36, 39, 42, 45, 47, 48], []⟩, ⟨(.callv (.c (.clo 46 [] [])) [(.t 41)]), (some 42), none, [45, 47, 48], []⟩, ⟨(.mv (.t 3)), (some 43), none, [33, 36, 39, 42, 45, 47, 48], []⟩, ⟨(.load 10 true (.t 1)), (some 44), none, [33, 36, 39, 42, 45, 47, 48], []⟩, ⟨(.callv (.c (.clo 90 [] [])) [(.t 44)]), (some 45), none, [47, 48], []⟩, ⟨(.mv (.t 4)), (some 46), none, [33, 36, 39, 42, 45, 47, 48], []⟩]
def r_tNode_11 : Reg := ⟨h_tNode_11, t_tNode_11, [33, 36, 39, 42, 45, 47, 48], [], true⟩
def ir_tNode : IR := (.seq (.reg r_tNode_0)
  (.seq (.reg r_tNode_1)
  (.seq (.seq (.reg r_tNode_2)
  (.cond (.t 11) (.reg r_tNode_3)
  .skip))
  (.seq (.reg r_tNode_4)
  (.seq (.seq (.reg r_tNode_5)
  (.block 0 (.loop r_tNode_l10)))
  (.seq (.reg r_tNode_11)
  .ret))))))
def res_tNode : List RDesc := [(.tmp 2)]
theorem e_tNode_0 (C : FuncId → List AV → AV → Prop) (σ : St) (K : St → Prop) : runReg C r_tNode_0 σ K = runOps C [⟨(.box 10 34 (.t 0)), (some 1), none, [], []⟩, ⟨(.mv (.c (.str ⟨#[]⟩))), (some 2), none, [], []⟩] (σ.kills [1]) K := rfl
theorem e_tNode_1 (C : FuncId → List AV → AV → Prop) (σ : St) (K : St → Prop) : runReg C r_tNode_1 σ K = runOps C t_tNode_1 (σ.kills [9]) K := rfl
theorem e_tNode_2 (C : FuncId → List AV → AV → Prop) (σ : St) (K : St → Prop) : runReg C r_tNode_2 σ K = runOps C [⟨(.faddr 5 (.t 1)), (some 10), none, [], []⟩, ⟨(.load 1 false (.t 10)), (some 11), none, [], []⟩] (σ.kills []) K := rfl
theorem e_tNode_3 (C : FuncId → List AV → AV → Prop) (σ : St) (K : St → Prop) : runReg C r_tNode_3 σ K = runOps C [⟨(.mv (.c (.str ⟨#[42]⟩))), (some 3), none, [], []⟩] (σ.kills []) K := rfl
theorem e_tNode_4 (C : FuncId → List AV → AV → Prop) (σ : St) (K : St → Prop) : runReg C r_tNode_4 σ K = runOps C t_tNode_4 (σ.kills [15, 16, 17]) K := rfl
theorem e_tNode_5 (C : FuncId → List AV → AV → Prop) (σ : St) (K : St → Prop) : runReg C r_tNode_5 σ K = runOps C t_tNode_5 (σ.kills []) K := rfl
theorem e_tNode_6 (C : FuncId → List AV → AV → Prop) (σ : St) (K : St → Prop) : runReg C r_tNode_6 σ K = runOps C [⟨(.bin .lss (.t 21) (.t 20)), (some 22), none, [], []⟩] (σ.kills []) K := rfl
theorem e_tNode_7 (C : FuncId → List AV → AV → Prop) (σ : St) (K : St → Prop) : runReg C r_tNode_7 σ K = runOps C t_tNode_7 (σ.kills [6]) K := rfl
theorem e_tNode_8 (C : FuncId → List AV → AV → Prop) (σ : St) (K : St → Prop) : runReg C r_tNode_8 σ K = runOps C t_tNode_8 (σ.kills [27, 28, 29]) K := rfl
theorem e_tNode_9 (C : FuncId → List AV → AV → Prop) (σ : St) (K : St → Prop) : runReg C r_tNode_9 σ K = runOps C [⟨(.bin .add (.t 21) (.c (.int .i64 1))), (some 30), none, [], []⟩, ⟨(.mv (.t 30)), (some 21), none, [], []⟩] (σ.kills []) K := rfl
theorem e_tNode_11 (C : FuncId → List AV → AV → Prop) (σ : St) (K : St → Prop) : runReg C r_tNode_11 σ K = runHead C [] t_tNode_11 h_tNode_11 (σ.kills [33, 36, 39, 42, 45, 47, 48]) K := rfl
theorem fn_tNode {args : List AV} {r : AV} (ha : args.length.ble Tryd.f50.ntmps = true) (h : run (AFn Tryd.prog) ir_tNode (endQ res_tNode r) (initSt args)) : AFn Tryd.prog 50 args r :=
  AFn.of_code (pv := false) (hint := fun _ => []) (c := Tryd.f50.body.getD .skip) (by kernel_rfl) (by kernel_rfl) Tryd.func50 (by kernel_rfl) (by kernel_rfl) (by kernel_rfl) (of_decide_eq_true (by kernel_rfl)) (Nat.le_of_ble_eq_true ha) (Nat.le_of_ble_eq_true (by kernel_rfl)) (run_ok h)
attribute [local go_sem ↓] ir_tPairs
attribute [local go_sem] res_tPairs e_tPairs_0 e_tPairs_1 t_tPairs_1 e_tPairs_2 t_tPairs_2 e_tPairs_3 e_tPairs_4 t_tPairs_4 e_tPairs_5 h_tPairs_5 e_tPairs_6 e_tPairs_8 t_tPairs_8
attribute [local go_sem ↓] ir_tBelow
attribute [local go_sem] res_tBelow e_tBelow_0 e_tBelow_1 t_tBelow_1 e_tBelow_2 t_tBelow_2 e_tBelow_3 e_tBelow_4 t_tBelow_4 e_tBelow_5 e_tBelow_6 t_tBelow_6 e_tBelow_7 t_tBelow_7 e_tBelow_8 t_tBelow_8 e_tBelow_9 t_tBelow_9 e_tBelow_10 e_tBelow_12 t_tBelow_12
attribute [local go_sem ↓] ir_tNode
attribute [local go_sem] res_tNode e_tNode_0 e_tNode_1 t_tNode_1 e_tNode_2 e_tNode_3 e_tNode_4 t_tNode_4 e_tNode_5 t_tNode_5 e_tNode_6 e_tNode_7 t_tNode_7 e_tNode_8 t_tNode_8 e_tNode_9 e_tNode_11 t_tNode_11 h_tNode_11
def pairsW (l : List Par) (j : Nat) : List ByteArray := decS l.length :: (l.take j).map Par.w
def tpInv (l : List Par) (k : Nat) (σ : St) : Prop :=
  ∃ j : Nat, j ≤ l.length ∧ k = l.length - j ∧ σ.T 10 = .sl (l.map Par.a) ∧ σ.T 11 = .int .i64 l.length ∧ σ.T 12 = .int .i64 j ∧ σ.T 3 = .rs 9 0 (j + 1) ∧ σ.H 9 = some ⟨1, 9, (pairsW l j).map .str, 0⟩
theorem pairsW_next {l : List Par} {j : Nat} {x : Par} (h : l[j]? = some x) : (pairsW l j).map AV.str ++ [AV.str x.w] = (pairsW l (j + 1)).map AV.str := by
  unfold pairsW
  rw [take_at h]; simp
theorem pairsW_len {l : List Par} {j : Nat} (h : j ≤ l.length) : ((pairsW l j).map AV.str).length = j + 1 := by
  unfold pairsW
  rw [List.length_map, List.length_cons, List.length_map, List.length_take]; omega
theorem parW_size {p : Par} (h1 : p.key.size ≤ 2000) (h2 : p.val.size ≤ 2000) : p.w.size ≤ 12010 := by
  have q1 := quoteF_size p.key
  have q2 := quoteF_size p.val
  unfold Par.w
  have e : (⟨#[61]⟩ : ByteArray).size = 1 := rfl
  rw [ByteArray.size_append, ByteArray.size_append, e]
  omega
theorem tPairs_ok (l : List Par) (hl : l.length ≤ 2000) (hs : ∀ p, p ∈ l → p.key.size ≤ 2000 ∧ p.val.size ≤ 2000) : AFn Tryd.prog 123 [.sl (l.map Par.a)] (.str (pairsF l)) := by
  refine fn_tPairs rfl ?_
  have d1 := decS_small l.length (by omega) (by omega)
  have c1 := dec_ok l.length ⟨by omega, by omega⟩
  (repeat (first | simp (maxSteps := 4000000) only [go_sem, ↓reduceIte, reduceCtorEq, Nat.reduceEqDiff, Nat.reduceBEq, Nat.reduceAdd, Nat.reduceSub, Nat.reduceMul, Nat.reduceLT, Nat.reduceLeDiff, Nat.reduceBNe, Int.reduceBEq, Int.reduceBNe, Int.reduceLT, Int.reduceLE, Msg.a, Par.a, Nd.a, List.length_map] | refine calling (c1) ?_ | refine callingH (c1) ?_ | refine And.intro (by omega) ?_ | refine And.intro (fun d hd => by (repeat (rcases hd with rfl | hd; · exact ⟨rfl, rfl⟩)); cases hd) ?_))
  refine run_loop (tpInv l) (k := l.length) ⟨0, by omega, rfl, ?_, ?_, ?_, ?_, ?_⟩ ?_
  · simp (maxSteps := 4000000) only [go_sem, ↓reduceIte, reduceCtorEq, Nat.reduceEqDiff, Nat.reduceBEq, Nat.reduceAdd, Nat.reduceSub, Nat.reduceMul, Nat.reduceLT, Nat.reduceLeDiff, Nat.reduceBNe, Int.reduceBEq, Int.reduceBNe, Int.reduceLT, Int.reduceLE, Msg.a, Par.a, Nd.a]
  · simp (maxSteps := 4000000) only [go_sem, ↓reduceIte, reduceCtorEq, Nat.reduceEqDiff, Nat.reduceBEq, Nat.reduceAdd, Nat.reduceSub, Nat.reduceMul, Nat.reduceLT, Nat.reduceLeDiff, Nat.reduceBNe, Int.reduceBEq, Int.reduceBNe, Int.reduceLT, Int.reduceLE, Msg.a, Par.a, Nd.a, List.length_map]
  · simp (maxSteps := 4000000) only [go_sem, ↓reduceIte, reduceCtorEq, Nat.reduceEqDiff, Nat.reduceBEq, Nat.reduceAdd, Nat.reduceSub, Nat.reduceMul, Nat.reduceLT, Nat.reduceLeDiff, Nat.reduceBNe, Int.reduceBEq, Int.reduceBNe, Int.reduceLT, Int.reduceLE, Msg.a, Par.a, Nd.a]
    rfl
  · simp (maxSteps := 4000000) only [go_sem, ↓reduceIte, reduceCtorEq, Nat.reduceEqDiff, Nat.reduceBEq, Nat.reduceAdd, Nat.reduceSub, Nat.reduceMul, Nat.reduceLT, Nat.reduceLeDiff, Nat.reduceBNe, Int.reduceBEq, Int.reduceBNe, Int.reduceLT, Int.reduceLE, Msg.a, Par.a, Nd.a]
  · simp (maxSteps := 4000000) only [go_sem, ↓reduceIte, reduceCtorEq, Nat.reduceEqDiff, Nat.reduceBEq, Nat.reduceAdd, Nat.reduceSub, Nat.reduceMul, Nat.reduceLT, Nat.reduceLeDiff, Nat.reduceBNe, Int.reduceBEq, Int.reduceBNe, Int.reduceLT, Int.reduceLE, Msg.a, Par.a, Nd.a, List.length_map]
    rfl
  rintro k σ ⟨j, hj, rfl, t10, t11, t12, t3, o9⟩
  simp only [r_tPairs_l7]
  have hpl := pairsW_len hj
  have htk : ((pairsW l j).map AV.str).take (j + 1) = (pairsW l j).map AV.str := List.take_of_length_le (by omega)
  by_cases hlt : j < l.length
  · have hlt' : (j : Int) < (l.length : Int) := by omega
    obtain ⟨x, hx⟩ := get_lt hlt
    have hgj := at_map (f := Par.a) hx
    simp only [Par.a] at hgj
    have hw := wrapS (j := j) (by omega)
    obtain ⟨s1, s2⟩ := hs x (List.mem_of_getElem? hx)
    have q1 := quoteF_size x.key
    have q2 := quoteF_size x.val
    have c2 := quote_ok x.key (by omega)
    have c3 := quote_ok x.val (by omega)
    have z1 : ∀ a : UInt8, (#[a] : Array UInt8).size = 1 := fun _ => rfl
    have hn := pairsW_next hx
    unfold Par.w at hn
    (repeat (first | simp (maxSteps := 4000000) only [go_sem, ↓reduceIte, reduceCtorEq, Nat.reduceEqDiff, Nat.reduceBEq, Nat.reduceAdd, Nat.reduceSub, Nat.reduceMul, Nat.reduceLT, Nat.reduceLeDiff, Nat.reduceBNe, Int.reduceBEq, Int.reduceBNe, Int.reduceLT, Int.reduceLE, Msg.a, Par.a, Nd.a, t10, t11, t12, t3, o9, hlt', hgj, List.length_map, Int.toNat_natCast, z1, ByteArray.size_append] | refine calling (c2) ?_ | refine callingH (c2) ?_ | refine calling (c3) ?_ | refine callingH (c3) ?_ | refine And.intro (by omega) ?_ | refine And.intro (fun d hd => by (repeat (rcases hd with rfl | hd; · exact ⟨rfl, rfl⟩)); cases hd) ?_))
    refine ⟨⟨⟨by omega, by omega⟩, fun d hd => by rcases hd with rfl | hd; exact ⟨rfl, rfl⟩; cases hd⟩, l.length - (j + 1), by omega, j + 1, by omega, rfl, ?_, ?_, ?_, ?_, ?_⟩ <;>
      (simp (maxSteps := 4000000) only [go_sem, ↓reduceIte, reduceCtorEq, Nat.reduceEqDiff, Nat.reduceBEq, Nat.reduceAdd, Nat.reduceSub, Nat.reduceMul, Nat.reduceLT, Nat.reduceLeDiff, Nat.reduceBNe, Int.reduceBEq, Int.reduceBNe, Int.reduceLT, Int.reduceLE, Msg.a, Par.a, Nd.a, t10, t11, t12, t3, o9, hw, htk, hn])
  · have hlt' : ¬ (j : Int) < (l.length : Int) := by omega
    obtain rfl : j = l.length := by omega
    have hpw : pairsW l l.length = decS l.length :: l.map Par.w := by unfold pairsW; rw [List.take_length]
    have c2 := tLine_ok (pairsW l l.length) 20000 (by rw [List.length_map] at hpl; omega) (by omega) (fun x hx => by
      rw [hpw] at hx
      rcases List.mem_cons.1 hx with rfl | hx
      · omega
      · obtain ⟨p, hp, rfl⟩ := List.mem_map.1 hx
        have := parW_size (hs p hp).1 (hs p hp).2
        omega)
    rw [← pairs_join, ← hpw]
    (repeat (first | simp (maxSteps := 4000000) only [go_sem, ↓reduceIte, reduceCtorEq, Nat.reduceEqDiff, Nat.reduceBEq, Nat.reduceAdd, Nat.reduceSub, Nat.reduceMul, Nat.reduceLT, Nat.reduceLeDiff, Nat.reduceBNe, Int.reduceBEq, Int.reduceBNe, Int.reduceLT, Int.reduceLE, Msg.a, Par.a, Nd.a, t10, t11, t12, t3, o9, hlt', htk, List.length_map] | refine calling (c2) ?_ | refine callingH (c2) ?_ | refine And.intro (by omega) ?_ | refine And.intro (fun d hd => by (repeat (rcases hd with rfl | hd; · exact ⟨rfl, rfl⟩)); cases hd) ?_))
/-- what a node has below it -/
def belowW (n : Nd) (j : Nat) : List ByteArray := (⟨#[107, 105, 100, 115]⟩ : ByteArray) :: kidsW n.pivots 0 (n.kids.take j)
def tbInv (n : Nd) (k : Nat) (σ : St) : Prop :=
  ∃ j : Nat, j ≤ n.kids.length ∧ k = n.kids.length - j ∧ σ.T 1 = .ptr 1 0 0 ∧ σ.H 1 = some ⟨10, 34, [n.a], 0⟩ ∧ σ.T 16 = .sl (n.kids.map (AV.int .i64)) ∧ σ.T 17 = .int .i64 n.kids.length ∧ σ.T 18 = .int .i64 j ∧ σ.T 3 = .rs 14 0 (belowW n j).length ∧ σ.H 14 = some ⟨1, 9, (belowW n j).map .str, 0⟩
theorem kidsW_len (ps : List ByteArray) : ∀ (l : List Int) (i : Nat), (kidsW ps i l).length ≤ 2 * l.length
  | [], i => Nat.le_refl _
  | k :: l, i => by
    have := kidsW_len ps l (i + 1)
    rw [kidsW, List.length_append, List.length_append, List.length_cons]
    split <;> simp <;> omega
theorem kidsW_size (ps : List ByteArray) (hp : ∀ x, x ∈ ps → x.size ≤ 2000) : ∀ (l : List Int) (i : Nat), (∀ x, x ∈ l → -9223372036854775808 ≤ x ∧ x ≤ 9223372036854775807) → ∀ y, y ∈ kidsW ps i l → y.size ≤ 6001
  | [], i, _, y, h => by cases h
  | k :: l, i, hk, y, h => by
    rw [kidsW] at h
    rcases List.mem_append.1 h with h | h
    · rcases List.mem_append.1 h with h | h
      · split at h
        · rename_i hi
          rw [List.mem_singleton.1 h]
          have q := quoteF_size (ps.getD (i - 1) ⟨#[]⟩)
          have : ps.getD (i - 1) ⟨#[]⟩ ∈ ps := by
            rw [List.getD_eq_getElem?_getD, List.getElem?_eq_getElem (by omega)]; exact List.getElem_mem _
          have := hp _ this
          omega
        · cases h
      · rw [List.mem_singleton.1 h]
        have := decS_small k (hk k (List.mem_cons_self ..)).1 (hk k (List.mem_cons_self ..)).2
        omega
    · exact kidsW_size ps hp l (i + 1) (fun x hx => hk x (List.mem_cons_of_mem _ hx)) y h
theorem belowW_next {n : Nd} {j : Nat} {k : Int} (h : n.kids[j]? = some k) : (belowW n (j + 1)).map AV.str = (belowW n j).map AV.str ++ ((if 0 < j ∧ j ≤ n.pivots.length then [AV.str (quoteF (n.pivots.getD (j - 1) ⟨#[]⟩))] else []) ++ [AV.str (decS k)]) := by
  have hl : (n.kids.take j).length = j := by
    have := (List.getElem?_eq_some_iff.1 h).1
    rw [List.length_take]; omega
  unfold belowW
  rw [take_at h, kidsW_app, hl, Nat.zero_add]
  simp only [kidsW, List.append_nil, List.map_cons, List.map_append, List.cons_append, List.map_nil]
  split <;> simp
theorem belowW_len {n : Nd} (j : Nat) : (belowW n j).length ≤ 2 * n.kids.length + 1 := by
  have := kidsW_len n.pivots (n.kids.take j) 0
  have h2 : (n.kids.take j).length ≤ n.kids.length := by rw [List.length_take]; omega
  unfold belowW
  rw [List.length_cons]; omega
structure Nd.Fit (n : Nd) : Prop where
  ok : n.ok
  pivs : ∀ x, x ∈ n.pivots → x.size ≤ 2000
  npiv : n.pivots.length ≤ 2000
  nkid : n.kids.length ≤ 2000
  hi : n.high.size ≤ 2000
  nrow : n.rows.length ≤ 2000
  rws : ∀ p, p ∈ n.rows → p.key.size ≤ 2000 ∧ p.val.size ≤ 2000
  nmsg : n.msgs.length ≤ 2000
  ms : ∀ m, m ∈ n.msgs → m.key.size ≤ 2000 ∧ m.hi.size ≤ 2000 ∧ m.val.size ≤ 2000
theorem fit_pairs {l : List Par} (hl : l.length ≤ 2000) (hs : ∀ p, p ∈ l → p.key.size ≤ 2000 ∧ p.val.size ≤ 2000) : (pairsF l).size ≤ 30000000 := by
  have d1 := decS_small l.length (by omega) (by omega)
  have h := catF_size (fun p : Par => ((⟨#[32]⟩ : ByteArray) : ByteArray) ++ p.w) 12011 l (fun p hp => by
    have := parW_size (hs p hp).1 (hs p hp).2
    have e : ((⟨#[32]⟩ : ByteArray) : ByteArray).size = 1 := rfl
    show (_ ++ _ : ByteArray).size ≤ _
    rw [ByteArray.size_append, e]; omega)
  have h2 : l.length * 12011 ≤ 2000 * 12011 := Nat.mul_le_mul_right _ hl
  unfold pairsF
  rw [ByteArray.size_append]; omega
theorem tBelow_ok (n : Nd) (h : n.Fit) : AFn Tryd.prog 90 [n.a] (.str n.below) := by
  refine fn_tBelow rfl ?_
  unfold Nd.below
  by_cases h0 : n.level = 0
  · have b0 : (n.level == 0) = true := by simp [h0]
    have e : ((⟨#[114, 111, 119, 115]⟩ : ByteArray) : ByteArray).size = 4 := rfl
    have c1 := tPairs_ok n.rows h.nrow h.rws
    have hp := fit_pairs h.nrow h.rws
    have c2 := tLine_ok [(⟨#[114, 111, 119, 115]⟩ : ByteArray), pairsF n.rows] 30000001 (by simp) (by omega) (by simp [baz]; omega)
    rw [if_pos h0]
    (repeat (first | simp (maxSteps := 4000000) only [go_sem, ↓reduceIte, reduceCtorEq, Nat.reduceEqDiff, Nat.reduceBEq, Nat.reduceAdd, Nat.reduceSub, Nat.reduceMul, Nat.reduceLT, Nat.reduceLeDiff, Nat.reduceBNe, Int.reduceBEq, Int.reduceBNe, Int.reduceLT, Int.reduceLE, Msg.a, Par.a, Nd.a, b0] | refine calling (c1) ?_ | refine callingH (c1) ?_ | refine calling (c2) ?_ | refine callingH (c2) ?_ | refine And.intro (by omega) ?_ | refine And.intro (fun d hd => by (repeat (rcases hd with rfl | hd; · exact ⟨rfl, rfl⟩)); cases hd) ?_))
  have b0 : (n.level == 0) = false := by simp [h0]
  rw [if_neg h0, show (⟨#[107, 105, 100, 115]⟩ : ByteArray) ++ catF (fun y => (⟨#[32]⟩ : ByteArray) ++ y) (kidsW n.pivots 0 n.kids) = joinB ((⟨#[107, 105, 100, 115]⟩ : ByteArray) :: kidsW n.pivots 0 n.kids) (⟨#[32]⟩ : ByteArray) from (joinB_cat _ _ _).symm]
  simp (maxSteps := 4000000) only [go_sem, ↓reduceIte, reduceCtorEq, Nat.reduceEqDiff, Nat.reduceBEq, Nat.reduceAdd, Nat.reduceSub, Nat.reduceMul, Nat.reduceLT, Nat.reduceLeDiff, Nat.reduceBNe, Int.reduceBEq, Int.reduceBNe, Int.reduceLT, Int.reduceLE, Msg.a, Par.a, Nd.a, b0, List.length_map]
  refine run_loop (tbInv n) (k := n.kids.length) ⟨0, by omega, rfl, ?_, ?_, ?_, ?_, ?_, ?_, ?_⟩ ?_
  · simp (maxSteps := 4000000) only [go_sem, ↓reduceIte, reduceCtorEq, Nat.reduceEqDiff, Nat.reduceBEq, Nat.reduceAdd, Nat.reduceSub, Nat.reduceMul, Nat.reduceLT, Nat.reduceLeDiff, Nat.reduceBNe, Int.reduceBEq, Int.reduceBNe, Int.reduceLT, Int.reduceLE, Msg.a, Par.a, Nd.a]
  · simp (maxSteps := 4000000) only [go_sem, ↓reduceIte, reduceCtorEq, Nat.reduceEqDiff, Nat.reduceBEq, Nat.reduceAdd, Nat.reduceSub, Nat.reduceMul, Nat.reduceLT, Nat.reduceLeDiff, Nat.reduceBNe, Int.reduceBEq, Int.reduceBNe, Int.reduceLT, Int.reduceLE, Msg.a, Par.a, Nd.a]
  · simp (maxSteps := 4000000) only [go_sem, ↓reduceIte, reduceCtorEq, Nat.reduceEqDiff, Nat.reduceBEq, Nat.reduceAdd, Nat.reduceSub, Nat.reduceMul, Nat.reduceLT, Nat.reduceLeDiff, Nat.reduceBNe, Int.reduceBEq, Int.reduceBNe, Int.reduceLT, Int.reduceLE, Msg.a, Par.a, Nd.a]
  · simp (maxSteps := 4000000) only [go_sem, ↓reduceIte, reduceCtorEq, Nat.reduceEqDiff, Nat.reduceBEq, Nat.reduceAdd, Nat.reduceSub, Nat.reduceMul, Nat.reduceLT, Nat.reduceLeDiff, Nat.reduceBNe, Int.reduceBEq, Int.reduceBNe, Int.reduceLT, Int.reduceLE, Msg.a, Par.a, Nd.a, List.length_map]
  · simp (maxSteps := 4000000) only [go_sem, ↓reduceIte, reduceCtorEq, Nat.reduceEqDiff, Nat.reduceBEq, Nat.reduceAdd, Nat.reduceSub, Nat.reduceMul, Nat.reduceLT, Nat.reduceLeDiff, Nat.reduceBNe, Int.reduceBEq, Int.reduceBNe, Int.reduceLT, Int.reduceLE, Msg.a, Par.a, Nd.a]
    rfl
  · simp (maxSteps := 4000000) only [go_sem, ↓reduceIte, reduceCtorEq, Nat.reduceEqDiff, Nat.reduceBEq, Nat.reduceAdd, Nat.reduceSub, Nat.reduceMul, Nat.reduceLT, Nat.reduceLeDiff, Nat.reduceBNe, Int.reduceBEq, Int.reduceBNe, Int.reduceLT, Int.reduceLE, Msg.a, Par.a, Nd.a]
    rfl
  · simp (maxSteps := 4000000) only [go_sem, ↓reduceIte, reduceCtorEq, Nat.reduceEqDiff, Nat.reduceBEq, Nat.reduceAdd, Nat.reduceSub, Nat.reduceMul, Nat.reduceLT, Nat.reduceLeDiff, Nat.reduceBNe, Int.reduceBEq, Int.reduceBNe, Int.reduceLT, Int.reduceLE, Msg.a, Par.a, Nd.a]
    rfl
  rintro k σ ⟨j, hj, rfl, t1, o1, t16, t17, t18, t3, o14⟩
  simp only [r_tBelow_l11]
  have hbl := belowW_len (n := n) j
  have hnk := h.nkid
  have hnp := h.npiv
  have hmap : ((belowW n j).map AV.str).length = (belowW n j).length := List.length_map ..
  have htk : ((belowW n j).map AV.str).take (belowW n j).length = (belowW n j).map AV.str := List.take_of_length_le (by omega)
  by_cases hlt : j < n.kids.length
  · have hlt' : (j : Int) < (n.kids.length : Int) := by omega
    obtain ⟨x, hx⟩ := get_lt hlt
    have hgj := at_map (f := AV.int .i64) hx
    have hw := wrapS (j := j) (by omega)
    have ki := h.ok.kids.2 x (List.mem_of_getElem? hx)
    have c1 := dec_ok x ki
    have hn := belowW_next hx
    have hnl : (belowW n (j + 1)).length = ((belowW n (j + 1)).map AV.str).length := (List.length_map ..).symm
    rw [hn] at hnl
    by_cases g0 : 0 < j
    · by_cases g1 : j ≤ n.pivots.length
      · have g0' : (0 : Int) < (j : Int) := by omega
        have g1' : (j : Int) ≤ (n.pivots.length : Int) := by omega
        have tw : IntKind.i64.wrap ((j : Int) - 1) = ((j - 1 : Nat) : Int) := by rw [IntWalk.i64_in _ (by omega)]; omega
        obtain ⟨y, hy⟩ : ∃ y, n.pivots[j - 1]? = some y := get_lt (by omega)
        have hgy := at_map (f := AV.str) hy
        have hyd : n.pivots.getD (j - 1) ⟨#[]⟩ = y := by rw [List.getD_eq_getElem?_getD, hy]; rfl
        have ys := h.pivs y (List.mem_of_getElem? hy)
        have q1 := quoteF_size y
        have c2 := quote_ok y (by omega)
        have g2 : ((j - 1 : Nat) : Int) < (n.pivots.length : Int) := by omega
        have g3 : (j - 1) < n.pivots.length := by omega
        rw [if_pos ⟨g0, g1⟩, hyd] at hn hnl
        have hn' : (belowW n j).map AV.str ++ [AV.str (quoteF y)] ++ [AV.str (decS x)] = (belowW n (j + 1)).map AV.str := by rw [hn, List.append_assoc]
        have hl' : (belowW n j).length + 1 + 1 = (belowW n (j + 1)).length := by rw [hnl, List.length_append, hmap]; rfl
        have htk2 : ((belowW n j).map AV.str ++ [AV.str (quoteF y)]).take ((belowW n j).length + 1) = (belowW n j).map AV.str ++ [AV.str (quoteF y)] := List.take_of_length_le (by rw [List.length_append, hmap]; exact Nat.le_refl _)
        (repeat (first | simp (maxSteps := 4000000) only [go_sem, ↓reduceIte, reduceCtorEq, Nat.reduceEqDiff, Nat.reduceBEq, Nat.reduceAdd, Nat.reduceSub, Nat.reduceMul, Nat.reduceLT, Nat.reduceLeDiff, Nat.reduceBNe, Int.reduceBEq, Int.reduceBNe, Int.reduceLT, Int.reduceLE, Msg.a, Par.a, Nd.a, t1, o1, t16, t17, t18, t3, o14, hlt', hgj, g0', g1', tw, hgy, g2, g3, htk, List.length_map, Int.toNat_natCast] | refine calling (c2) ?_ | refine callingH (c2) ?_ | refine And.intro (by omega) ?_ | refine And.intro (fun d hd => by (repeat (rcases hd with rfl | hd; · exact ⟨rfl, rfl⟩)); cases hd) ?_))
        refine ⟨⟨⟨by omega, by omega⟩, fun d hd => by rcases hd with rfl | hd; exact ⟨rfl, rfl⟩; cases hd⟩, ?_⟩
        (first | refine calling c1 ?_ | refine callingH c1 ?_)
        simp (maxSteps := 4000000) only [go_sem, ↓reduceIte, reduceCtorEq, Nat.reduceEqDiff, Nat.reduceBEq, Nat.reduceAdd, Nat.reduceSub, Nat.reduceMul, Nat.reduceLT, Nat.reduceLeDiff, Nat.reduceBNe, Int.reduceBEq, Int.reduceBNe, Int.reduceLT, Int.reduceLE, Msg.a, Par.a, Nd.a, t1, o1, t16, t17, t18, t3, o14, hlt', hgj, htk, htk2]
        refine ⟨⟨⟨by omega, by omega⟩, fun d hd => by rcases hd with rfl | hd; exact ⟨rfl, rfl⟩; cases hd⟩, n.kids.length - (j + 1), by omega, j + 1, by omega, rfl, ?_, ?_, ?_, ?_, ?_, ?_, ?_⟩ <;>
          (simp (maxSteps := 4000000) only [go_sem, ↓reduceIte, reduceCtorEq, Nat.reduceEqDiff, Nat.reduceBEq, Nat.reduceAdd, Nat.reduceSub, Nat.reduceMul, Nat.reduceLT, Nat.reduceLeDiff, Nat.reduceBNe, Int.reduceBEq, Int.reduceBNe, Int.reduceLT, Int.reduceLE, Msg.a, Par.a, Nd.a, t1, o1, t16, t17, t18, t3, o14, hlt', hgj, hw, htk, htk2, hn', hl'])
      · have g0' : (0 : Int) < (j : Int) := by omega
        have g1' : ¬ (j : Int) ≤ (n.pivots.length : Int) := by omega
        rw [if_neg (fun e => g1 e.2)] at hn hnl
        have hn' : (belowW n j).map AV.str ++ [AV.str (decS x)] = (belowW n (j + 1)).map AV.str := by rw [hn, List.nil_append]
        have hl' : (belowW n j).length + 1 = (belowW n (j + 1)).length := by rw [hnl, List.length_append, hmap]; rfl
        (repeat (first | simp (maxSteps := 4000000) only [go_sem, ↓reduceIte, reduceCtorEq, Nat.reduceEqDiff, Nat.reduceBEq, Nat.reduceAdd, Nat.reduceSub, Nat.reduceMul, Nat.reduceLT, Nat.reduceLeDiff, Nat.reduceBNe, Int.reduceBEq, Int.reduceBNe, Int.reduceLT, Int.reduceLE, Msg.a, Par.a, Nd.a, t1, o1, t16, t17, t18, t3, o14, hlt', hgj, g0', g1', htk, List.length_map, Int.toNat_natCast] | refine calling (c1) ?_ | refine callingH (c1) ?_ | refine And.intro (by omega) ?_ | refine And.intro (fun d hd => by (repeat (rcases hd with rfl | hd; · exact ⟨rfl, rfl⟩)); cases hd) ?_))
        refine ⟨⟨⟨by omega, by omega⟩, fun d hd => by rcases hd with rfl | hd; exact ⟨rfl, rfl⟩; cases hd⟩, n.kids.length - (j + 1), by omega, j + 1, by omega, rfl, ?_, ?_, ?_, ?_, ?_, ?_, ?_⟩ <;>
          (simp (maxSteps := 4000000) only [go_sem, ↓reduceIte, reduceCtorEq, Nat.reduceEqDiff, Nat.reduceBEq, Nat.reduceAdd, Nat.reduceSub, Nat.reduceMul, Nat.reduceLT, Nat.reduceLeDiff, Nat.reduceBNe, Int.reduceBEq, Int.reduceBNe, Int.reduceLT, Int.reduceLE, Msg.a, Par.a, Nd.a, t1, o1, t16, t17, t18, t3, o14, hlt', hgj, hw, htk, hn', hl'])
    · have g0' : ¬ (0 : Int) < (j : Int) := by omega
      rw [if_neg (fun e => g0 e.1)] at hn hnl
      have hn' : (belowW n j).map AV.str ++ [AV.str (decS x)] = (belowW n (j + 1)).map AV.str := by rw [hn, List.nil_append]
      have hl' : (belowW n j).length + 1 = (belowW n (j + 1)).length := by rw [hnl, List.length_append, hmap]; rfl
      (repeat (first | simp (maxSteps := 4000000) only [go_sem, ↓reduceIte, reduceCtorEq, Nat.reduceEqDiff, Nat.reduceBEq, Nat.reduceAdd, Nat.reduceSub, Nat.reduceMul, Nat.reduceLT, Nat.reduceLeDiff, Nat.reduceBNe, Int.reduceBEq, Int.reduceBNe, Int.reduceLT, Int.reduceLE, Msg.a, Par.a, Nd.a, t1, o1, t16, t17, t18, t3, o14, hlt', hgj, g0', htk, List.length_map, Int.toNat_natCast] | refine calling (c1) ?_ | refine callingH (c1) ?_ | refine And.intro (by omega) ?_ | refine And.intro (fun d hd => by (repeat (rcases hd with rfl | hd; · exact ⟨rfl, rfl⟩)); cases hd) ?_))
      refine ⟨⟨⟨by omega, by omega⟩, fun d hd => by rcases hd with rfl | hd; exact ⟨rfl, rfl⟩; cases hd⟩, n.kids.length - (j + 1), by omega, j + 1, by omega, rfl, ?_, ?_, ?_, ?_, ?_, ?_, ?_⟩ <;>
        (simp (maxSteps := 4000000) only [go_sem, ↓reduceIte, reduceCtorEq, Nat.reduceEqDiff, Nat.reduceBEq, Nat.reduceAdd, Nat.reduceSub, Nat.reduceMul, Nat.reduceLT, Nat.reduceLeDiff, Nat.reduceBNe, Int.reduceBEq, Int.reduceBNe, Int.reduceLT, Int.reduceLE, Msg.a, Par.a, Nd.a, t1, o1, t16, t17, t18, t3, o14, hlt', hgj, hw, htk, hn', hl'])
  · have hlt' : ¬ (j : Int) < (n.kids.length : Int) := by omega
    obtain rfl : j = n.kids.length := by omega
    have hbw : belowW n n.kids.length = (⟨#[107, 105, 100, 115]⟩ : ByteArray) :: kidsW n.pivots 0 n.kids := by unfold belowW; rw [List.take_length]
    have c2 := tLine_ok (belowW n n.kids.length) 20000 (by omega) (by omega) (fun x hx => by
      rw [hbw] at hx
      rcases List.mem_cons.1 hx with rfl | hx
      · decide
      · have := kidsW_size n.pivots h.pivs n.kids 0 h.ok.kids.2 x hx
        omega)
    rw [← hbw]
    (repeat (first | simp (maxSteps := 4000000) only [go_sem, ↓reduceIte, reduceCtorEq, Nat.reduceEqDiff, Nat.reduceBEq, Nat.reduceAdd, Nat.reduceSub, Nat.reduceMul, Nat.reduceLT, Nat.reduceLeDiff, Nat.reduceBNe, Int.reduceBEq, Int.reduceBNe, Int.reduceLT, Int.reduceLE, Msg.a, Par.a, Nd.a, t1, o1, t16, t17, t18, t3, o14, hlt', htk, List.length_map] | refine calling (c2) ?_ | refine callingH (c2) ?_ | refine And.intro (by omega) ?_ | refine And.intro (fun d hd => by (repeat (rcases hd with rfl | hd; · exact ⟨rfl, rfl⟩)); cases hd) ?_))
end
end Go.Proofs.YthfdbjocpicbmaaDoor
