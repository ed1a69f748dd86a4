/-
  The document's Squeeze, and texts to try, on the plain machine.
-/
import Derived.Test.YtdjkefndigijjaaSqL
namespace Go.Proofs.Ytdjkefndigijjaa
open Go.RowKit
set_option linter.unusedVariables false
set_option linter.unusedSimpArgs false
set_option maxRecDepth 100000
attribute [local go_sem ↓] runOp headOp
attribute [local go_sem] ev0 ev1 ev2 ev3 evA stHOk.eq_1 stHOk.eq_2 stHSt.eq_1 stHSt.eq_2 okV valV fzV okF valF okBld valBld mxOk.eq_1 mxOk.eq_2 mxVal.eq_1 mxVal.eq_2 cellFit.eq_1 cellFit.eq_2 cellFit.eq_3 cellEq.eq_1 cellEq.eq_2 cellEq.eq_3 upd_at AV.flatB AV.flatBs binIok binIV binSok binSV cellsOk.eq_1 cellsOk.eq_2 cellsVal.eq_1 cellsVal.eq_2 objCells.eq_1 objCells.eq_2 objZ.eq_1 objZ.eq_2 objProt.eq_1 objProt.eq_2 oneObj ptrOk.eq_1 ptrOk.eq_2 ptrOk.eq_3 ptrCells.eq_1 ptrCells.eq_2 ptrCells.eq_3 lenOk.eq_1 lenOk.eq_2 lenOk.eq_3 lenOk.eq_4 lenVal.eq_1 lenVal.eq_2 lenVal.eq_3 lenVal.eq_4 faOk.eq_1 faOk.eq_2 faOk.eq_3 faVal.eq_1 faVal.eq_2 faVal.eq_3 iaOk.eq_1 iaOk.eq_2 iaOk.eq_3 iaVal.eq_1 iaVal.eq_2 iaVal.eq_3 slcLen.eq_1 slcLen.eq_2 slcLen.eq_3 slcLen.eq_4 bdOk.eq_1 bdOk.eq_2 bdVal.eq_1 bdVal.eq_2 slcOk.eq_1 slcOk.eq_2 slcOk.eq_3 slcOk.eq_4 slcVal.eq_1 slcVal.eq_2 slcVal.eq_3 slcVal.eq_4 slcFz.eq_1 slcFz.eq_2 byOk.eq_1 byOk.eq_2 byOk.eq_3 byOk.eq_4 byOk.eq_5 byVal.eq_1 byVal.eq_2 byVal.eq_3 byFz.eq_1 byFz.eq_2 byFz.eq_3 byOks byVals byFzs allOne resSt.eq_1 resSt.eq_2 resName.eq_1 resName.eq_2 stOk.eq_1 stOk.eq_2 stArr.eq_1 stArr.eq_2 stSt.eq_1 stSt.eq_2 AV.patch nameOk_none gB.eq_1 gB.eq_2 gB.eq_3 gIs.eq_1 gIs.eq_2 gIs.eq_3 retV resV resVs evalV cellsV St.byval List.getD_cons_zero List.getD_cons_succ List.getD_nil List.map_cons List.map_nil List.length_cons List.length_nil List.take_succ_cons List.take_zero List.drop_succ_cons List.drop_zero List.headD_cons List.set_cons_zero List.append_nil List.nil_append List.cons_append List.contains_cons List.contains_nil List.elem_cons List.elem_nil List.all_cons List.all_nil List.getElem?_cons_zero List.getElem?_cons_succ List.filterMap_cons List.filterMap_nil Option.isSome_some Option.isSome_none Option.map_some Option.map_none Option.some.injEq AV.int.injEq AV.bool.injEq AV.str.injEq AV.tup.injEq AV.agg.injEq AV.sl.injEq List.cons.injEq Bool.false_eq_true Bool.true_eq_false Bool.not_true Bool.not_false Bool.and_true Bool.true_and Bool.or_false Bool.or_true Bool.false_or Bool.true_or Bool.or_self Bool.and_self Bool.not_eq_true' Bool.not_eq_false' Bool.not_not beq_self_eq_true true_and and_true false_and and_false and_self not_true_eq_false not_false_eq_true forall_const true_implies false_implies implies_true imp_self Nat.lt_add_one Nat.le_refl Nat.zero_le Nat.add_zero Nat.zero_add decide_true decide_false decide_eq_true_eq decide_eq_false_iff_not exists_eq_left exists_eq_left' ge_iff_le gt_iff_lt ite_branch ite_branch' nilOk.eq_1 nilOk.eq_2 nilMay.eq_1 nilMay.eq_2 AV.isSl.eq_1 objTy'.eq_1 objTy'.eq_2 apSt.eq_1 apArr.eq_1 apArr.eq_2 slOf.eq_1 fitsV List.mem_cons List.not_mem_nil Bool.false_and Bool.and_false
/-! ### percolate/percolateref49.Squeeze -/
def r_r49Sq_0 : Reg := ⟨[], [⟨(.mknil 6 55), (some 2), none, [], []⟩], [2], [], false⟩
def r_r49Sq_1 : Reg := ⟨[], [⟨(.bsl 6 55 []), (some 7), none, [], []⟩, ⟨(.mv (.t 0)), (some 8), none, [], []⟩, ⟨(.append 6 55 72 (.t 7) (.t 8)), (some 9), none, [], []⟩, ⟨(.mv (.t 9)), (some 0), none, [], []⟩], [7], [], false⟩
def r_r49Sq_2 : Reg := ⟨[], [⟨(.mknil 6 55), (some 3), none, [], []⟩], [3], [], false⟩
def r_r49Sq_3 : Reg := ⟨[], [⟨(.mv (.c (.int .i64 0))), (some 4), none, [], []⟩], [], [], false⟩
def r_r49Sq_4 : Reg := ⟨[], [⟨(.mv (.t 4)), (some 10), none, [], []⟩, ⟨(.mv (.t 0)), (some 11), none, [], []⟩, ⟨(.len false (.t 11)), (some 12), none, [], []⟩, ⟨(.bin .lss (.t 10) (.t 12)), (some 13), none, [], []⟩], [], [], false⟩
def r_r49Sq_5 : Reg := ⟨[], [⟨(.mv (.t 0)), (some 16), none, [18], []⟩, ⟨(.mv (.t 4)), (some 17), none, [18], []⟩, ⟨(.callv (.c (.clo 63 [] [])) [(.t 16), (.t 17)]), (some 18), none, [], []⟩], [18], [], false⟩
def r_r49Sq_6 : Reg := ⟨[], [⟨(.mv (.t 0)), (some 19), none, [21], []⟩, ⟨(.mv (.t 4)), (some 20), none, [21], []⟩, ⟨(.callv (.c (.clo 62 [] [])) [(.t 19), (.t 20)]), (some 21), none, [], []⟩, ⟨(.mv (.t 21)), (some 5), none, [], []⟩], [21], [], false⟩
def r_r49Sq_7 : Reg := ⟨[], [⟨(.mv (.t 5)), (some 22), none, [], []⟩, ⟨(.bin .geq (.t 22) (.c (.int .i64 0))), (some 23), none, [], []⟩, ⟨(.mv (.t 23)), (some 24), none, [], []⟩, ⟨(.mv (.t 0)), (some 25), (some (24, true)), [], []⟩, ⟨(.mv (.t 4)), (some 26), (some (24, true)), [], []⟩, ⟨(.iaddr 6 (.t 25) (.t 26)), (some 27), (some (24, true)), [], []⟩, ⟨(.faddr 1 (.t 27)), (some 28), (some (24, true)), [], []⟩, ⟨(.load 1 false (.t 28)), (some 29), (some (24, true)), [], []⟩, ⟨(.bin .neq (.t 29) (.c (.int .i64 4))), (some 30), (some (24, true)), [], []⟩, ⟨(.pick (.t 24) (.t 30) (.c (.bool false))), (some 31), none, [], []⟩], [], [], false⟩
def r_r49Sq_8 : Reg := ⟨[⟨(.mv (.t 0)), (some 32), none, [41, 51, 52, 6], []⟩, ⟨(.mv (.t 4)), (some 33), none, [41, 51, 52, 6], []⟩, ⟨(.iaddr 6 (.t 32) (.t 33)), (some 34), none, [41, 51, 52, 6], []⟩, ⟨(.load 6 true (.t 34)), (some 35), none, [41, 51, 52, 6], []⟩, ⟨(.mv (.t 0)), (some 36), none, [41, 51, 52, 6], []⟩, ⟨(.mv (.t 4)), (some 37), none, [41, 51, 52, 6], []⟩, ⟨(.iaddr 6 (.t 36) (.t 37)), (some 38), none, [41, 51, 52, 6], []⟩, ⟨(.faddr 2 (.t 38)), (some 39), none, [41, 51, 52, 6], []⟩, ⟨(.load 1 false (.t 39)), (some 40), none, [41, 51, 52, 6], []⟩, ⟨(.callv (.c (.clo 87 [] [])) [(.t 35), (.t 40)]), (some 41), none, [51, 52, 6], []⟩, ⟨(.mv (.t 0)), (some 42), none, [41, 51, 52, 6], []⟩, ⟨(.mv (.t 5)), (some 43), none, [41, 51, 52, 6], []⟩, ⟨(.iaddr 6 (.t 42) (.t 43)), (some 44), none, [41, 51, 52, 6], []⟩, ⟨(.load 6 true (.t 44)), (some 45), none, [41, 51, 52, 6], []⟩, ⟨(.mv (.t 0)), (some 46), none, [41, 51, 52, 6], []⟩, ⟨(.mv (.t 4)), (some 47), none, [41, 51, 52, 6], []⟩, ⟨(.iaddr 6 (.t 46) (.t 47)), (some 48), none, [41, 51, 52, 6], []⟩, ⟨(.faddr 2 (.t 48)), (some 49), none, [41, 51, 52, 6], []⟩, ⟨(.load 1 false (.t 49)), (some 50), none, [41, 51, 52, 6], []⟩, ⟨(.callv (.c (.clo 87 [] [])) [(.t 45), (.t 50)]), (some 51), none, [52, 6], []⟩, ⟨(.callv (.c (.clo 86 [] [])) [(.t 41), (.t 51)]), (some 52), none, [6], []⟩, ⟨(.alloc 2 63 (.agg [(.int .i64 0), (.str ⟨#[]⟩)])), (some 6), none, [41, 51, 52], []⟩], [⟨(.store 2 (.t 6) (.t 52)), none, none, [], [6]⟩], [41, 51, 52, 6], [], true⟩
def r_r49Sq_9 : Reg := ⟨[], [⟨(.mv (.t 0)), (some 53), none, [], []⟩, ⟨(.mv (.t 5)), (some 54), none, [], []⟩, ⟨(.faddr 0 (.t 6)), (some 55), none, [], []⟩, ⟨(.load 1 false (.t 55)), (some 56), none, [], []⟩, ⟨(.iaddr 6 (.t 53) (.t 54)), (some 57), none, [], []⟩, ⟨(.faddr 1 (.t 57)), (some 58), none, [], []⟩, ⟨(.store 1 (.t 58) (.t 56)), none, none, [], []⟩], [], [], false⟩
def r_r49Sq_10 : Reg := ⟨[], [⟨(.mv (.t 0)), (some 59), none, [], []⟩, ⟨(.mv (.t 5)), (some 60), none, [], []⟩, ⟨(.faddr 1 (.t 6)), (some 61), none, [], []⟩, ⟨(.load 1 false (.t 61)), (some 62), none, [], []⟩, ⟨(.iaddr 6 (.t 59) (.t 60)), (some 63), none, [], []⟩, ⟨(.faddr 5 (.t 63)), (some 64), none, [], []⟩, ⟨(.store 1 (.t 64) (.t 62)), none, none, [], []⟩], [], [], false⟩
def r_r49Sq_11 : Reg := ⟨[], [⟨(.mv (.t 3)), (some 65), none, [70], []⟩, ⟨(.mv (.t 0)), (some 66), none, [70], []⟩, ⟨(.mv (.t 4)), (some 67), none, [70], []⟩, ⟨(.iaddr 6 (.t 66) (.t 67)), (some 68), none, [70], []⟩, ⟨(.load 6 true (.t 68)), (some 69), none, [70], []⟩, ⟨(.bsl 6 55 [(.t 69)]), (some 70), none, [], []⟩, ⟨(.append 6 55 72 (.t 65) (.t 70)), (some 71), none, [], []⟩, ⟨(.mv (.t 71)), (some 3), none, [], []⟩], [70], [], false⟩
def r_r49Sq_12 : Reg := ⟨[], [⟨(.mv (.t 4)), (some 14), none, [], []⟩, ⟨(.bin .add (.t 14) (.c (.int .i64 1))), (some 15), none, [], []⟩, ⟨(.mv (.t 15)), (some 4), none, [], []⟩], [], [], false⟩
def r_r49Sq_l13 : IR := (.seq (.seq (.reg r_r49Sq_4)
  (.cond (.t 13) .skip
  (.exit 0)))
  (.seq (.block 1 (.seq (.seq (.reg r_r49Sq_5)
  (.cond (.t 18) (.exit 1)
  .skip))
  (.seq (.reg r_r49Sq_6)
  (.seq (.seq (.reg r_r49Sq_7)
  (.cond (.t 31) (.seq (.reg r_r49Sq_8)
  (.seq (.reg r_r49Sq_9)
  (.seq (.reg r_r49Sq_10)
  (.exit 1))))
  .skip))
  (.reg r_r49Sq_11)))))
  (.reg r_r49Sq_12)))
def r_r49Sq_14 : Reg := ⟨[], [⟨(.mv (.t 3)), (some 72), none, [], []⟩, ⟨(.mv (.t 72)), (some 2), none, [], []⟩], [], [], false⟩
def ir_r49Sq : IR := (.seq (.reg r_r49Sq_0)
  (.seq (.reg r_r49Sq_1)
  (.seq (.reg r_r49Sq_2)
  (.seq (.seq (.reg r_r49Sq_3)
  (.block 0 (.loop r_r49Sq_l13)))
  (.seq (.reg r_r49Sq_14)
  .ret)))))
def res_r49Sq : List RDesc := [(.tmp 2)]
theorem e_r49Sq_0 (C : FuncId → List AV → AV → Prop) (σ : St) (K : St → Prop) : runReg C r_r49Sq_0 σ K = runOps C [⟨(.mknil 6 55), (some 2), none, [], []⟩] (σ.kills [2]) K := rfl
theorem e_r49Sq_1 (C : FuncId → List AV → AV → Prop) (σ : St) (K : St → Prop) : runReg C r_r49Sq_1 σ K = runOps C [⟨(.bsl 6 55 []), (some 7), none, [], []⟩, ⟨(.mv (.t 0)), (some 8), none, [], []⟩, ⟨(.append 6 55 72 (.t 7) (.t 8)), (some 9), none, [], []⟩, ⟨(.mv (.t 9)), (some 0), none, [], []⟩] (σ.kills [7]) K := rfl
theorem e_r49Sq_2 (C : FuncId → List AV → AV → Prop) (σ : St) (K : St → Prop) : runReg C r_r49Sq_2 σ K = runOps C [⟨(.mknil 6 55), (some 3), none, [], []⟩] (σ.kills [3]) K := rfl
theorem e_r49Sq_3 (C : FuncId → List AV → AV → Prop) (σ : St) (K : St → Prop) : runReg C r_r49Sq_3 σ K = runOps C [⟨(.mv (.c (.int .i64 0))), (some 4), none, [], []⟩] (σ.kills []) K := rfl
theorem e_r49Sq_4 (C : FuncId → List AV → AV → Prop) (σ : St) (K : St → Prop) : runReg C r_r49Sq_4 σ K = runOps C [⟨(.mv (.t 4)), (some 10), none, [], []⟩, ⟨(.mv (.t 0)), (some 11), none, [], []⟩, ⟨(.len false (.t 11)), (some 12), none, [], []⟩, ⟨(.bin .lss (.t 10) (.t 12)), (some 13), none, [], []⟩] (σ.kills []) K := rfl
theorem e_r49Sq_5 (C : FuncId → List AV → AV → Prop) (σ : St) (K : St → Prop) : runReg C r_r49Sq_5 σ K = runOps C [⟨(.mv (.t 0)), (some 16), none, [18], []⟩, ⟨(.mv (.t 4)), (some 17), none, [18], []⟩, ⟨(.callv (.c (.clo 63 [] [])) [(.t 16), (.t 17)]), (some 18), none, [], []⟩] (σ.kills [18]) K := rfl
theorem e_r49Sq_6 (C : FuncId → List AV → AV → Prop) (σ : St) (K : St → Prop) : runReg C r_r49Sq_6 σ K = runOps C [⟨(.mv (.t 0)), (some 19), none, [21], []⟩, ⟨(.mv (.t 4)), (some 20), none, [21], []⟩, ⟨(.callv (.c (.clo 62 [] [])) [(.t 19), (.t 20)]), (some 21), none, [], []⟩, ⟨(.mv (.t 21)), (some 5), none, [], []⟩] (σ.kills [21]) K := rfl
theorem e_r49Sq_7 (C : FuncId → List AV → AV → Prop) (σ : St) (K : St → Prop) : runReg C r_r49Sq_7 σ K = runOps C [⟨(.mv (.t 5)), (some 22), none, [], []⟩, ⟨(.bin .geq (.t 22) (.c (.int .i64 0))), (some 23), none, [], []⟩, ⟨(.mv (.t 23)), (some 24), none, [], []⟩, ⟨(.mv (.t 0)), (some 25), (some (24, true)), [], []⟩, ⟨(.mv (.t 4)), (some 26), (some (24, true)), [], []⟩, ⟨(.iaddr 6 (.t 25) (.t 26)), (some 27), (some (24, true)), [], []⟩, ⟨(.faddr 1 (.t 27)), (some 28), (some (24, true)), [], []⟩, ⟨(.load 1 false (.t 28)), (some 29), (some (24, true)), [], []⟩, ⟨(.bin .neq (.t 29) (.c (.int .i64 4))), (some 30), (some (24, true)), [], []⟩, ⟨(.pick (.t 24) (.t 30) (.c (.bool false))), (some 31), none, [], []⟩] (σ.kills []) K := rfl
theorem e_r49Sq_8 (C : FuncId → List AV → AV → Prop) (σ : St) (K : St → Prop) : runReg C r_r49Sq_8 σ K = runHead C [] [⟨(.store 2 (.t 6) (.t 52)), none, none, [], [6]⟩] [⟨(.mv (.t 0)), (some 32), none, [41, 51, 52, 6], []⟩, ⟨(.mv (.t 4)), (some 33), none, [41, 51, 52, 6], []⟩, ⟨(.iaddr 6 (.t 32) (.t 33)), (some 34), none, [41, 51, 52, 6], []⟩, ⟨(.load 6 true (.t 34)), (some 35), none, [41, 51, 52, 6], []⟩, ⟨(.mv (.t 0)), (some 36), none, [41, 51, 52, 6], []⟩, ⟨(.mv (.t 4)), (some 37), none, [41, 51, 52, 6], []⟩, ⟨(.iaddr 6 (.t 36) (.t 37)), (some 38), none, [41, 51, 52, 6], []⟩, ⟨(.faddr 2 (.t 38)), (some 39), none, [41, 51, 52, 6], []⟩, ⟨(.load 1 false (.t 39)), (some 40), none, [41, 51, 52, 6], []⟩, ⟨(.callv (.c (.clo 87 [] [])) [(.t 35), (.t 40)]), (some 41), none, [51, 52, 6], []⟩, ⟨(.mv (.t 0)), (some 42), none, [41, 51, 52, 6], []⟩, ⟨(.mv (.t 5)), (some 43), none, [41, 51, 52, 6], []⟩, ⟨(.iaddr 6 (.t 42) (.t 43)), (some 44), none, [41, 51, 52, 6], []⟩, ⟨(.load 6 true (.t 44)), (some 45), none, [41, 51, 52, 6], []⟩, ⟨(.mv (.t 0)), (some 46), none, [41, 51, 52, 6], []⟩, ⟨(.mv (.t 4)), (some 47), none, [41, 51, 52, 6], []⟩, ⟨(.iaddr 6 (.t 46) (.t 47)), (some 48), none, [41, 51, 52, 6], []⟩, ⟨(.faddr 2 (.t 48)), (some 49), none, [41, 51, 52, 6], []⟩, ⟨(.load 1 false (.t 49)), (some 50), none, [41, 51, 52, 6], []⟩, ⟨(.callv (.c (.clo 87 [] [])) [(.t 45), (.t 50)]), (some 51), none, [52, 6], []⟩, ⟨(.callv (.c (.clo 86 [] [])) [(.t 41), (.t 51)]), (some 52), none, [6], []⟩, ⟨(.alloc 2 63 (.agg [(.int .i64 0), (.str ⟨#[]⟩)])), (some 6), none, [41, 51, 52], []⟩] (σ.kills [41, 51, 52, 6]) K := rfl
theorem e_r49Sq_9 (C : FuncId → List AV → AV → Prop) (σ : St) (K : St → Prop) : runReg C r_r49Sq_9 σ K = runOps C [⟨(.mv (.t 0)), (some 53), none, [], []⟩, ⟨(.mv (.t 5)), (some 54), none, [], []⟩, ⟨(.faddr 0 (.t 6)), (some 55), none, [], []⟩, ⟨(.load 1 false (.t 55)), (some 56), none, [], []⟩, ⟨(.iaddr 6 (.t 53) (.t 54)), (some 57), none, [], []⟩, ⟨(.faddr 1 (.t 57)), (some 58), none, [], []⟩, ⟨(.store 1 (.t 58) (.t 56)), none, none, [], []⟩] (σ.kills []) K := rfl
theorem e_r49Sq_10 (C : FuncId → List AV → AV → Prop) (σ : St) (K : St → Prop) : runReg C r_r49Sq_10 σ K = runOps C [⟨(.mv (.t 0)), (some 59), none, [], []⟩, ⟨(.mv (.t 5)), (some 60), none, [], []⟩, ⟨(.faddr 1 (.t 6)), (some 61), none, [], []⟩, ⟨(.load 1 false (.t 61)), (some 62), none, [], []⟩, ⟨(.iaddr 6 (.t 59) (.t 60)), (some 63), none, [], []⟩, ⟨(.faddr 5 (.t 63)), (some 64), none, [], []⟩, ⟨(.store 1 (.t 64) (.t 62)), none, none, [], []⟩] (σ.kills []) K := rfl
theorem e_r49Sq_11 (C : FuncId → List AV → AV → Prop) (σ : St) (K : St → Prop) : runReg C r_r49Sq_11 σ K = runOps C [⟨(.mv (.t 3)), (some 65), none, [70], []⟩, ⟨(.mv (.t 0)), (some 66), none, [70], []⟩, ⟨(.mv (.t 4)), (some 67), none, [70], []⟩, ⟨(.iaddr 6 (.t 66) (.t 67)), (some 68), none, [70], []⟩, ⟨(.load 6 true (.t 68)), (some 69), none, [70], []⟩, ⟨(.bsl 6 55 [(.t 69)]), (some 70), none, [], []⟩, ⟨(.append 6 55 72 (.t 65) (.t 70)), (some 71), none, [], []⟩, ⟨(.mv (.t 71)), (some 3), none, [], []⟩] (σ.kills [70]) K := rfl
theorem e_r49Sq_12 (C : FuncId → List AV → AV → Prop) (σ : St) (K : St → Prop) : runReg C r_r49Sq_12 σ K = runOps C [⟨(.mv (.t 4)), (some 14), none, [], []⟩, ⟨(.bin .add (.t 14) (.c (.int .i64 1))), (some 15), none, [], []⟩, ⟨(.mv (.t 15)), (some 4), none, [], []⟩] (σ.kills []) K := rfl
theorem e_r49Sq_14 (C : FuncId → List AV → AV → Prop) (σ : St) (K : St → Prop) : runReg C r_r49Sq_14 σ K = runOps C [⟨(.mv (.t 3)), (some 72), none, [], []⟩, ⟨(.mv (.t 72)), (some 2), none, [], []⟩] (σ.kills []) K := rfl
theorem fn_r49Sq {args : List AV} {r : AV} (ha : args.length.ble Try.f34.ntmps = true) (h : run (AFn Try.prog) ir_r49Sq (endQ res_r49Sq r) (initSt args)) : AFn Try.prog 34 args r :=
  AFn.of_code (hint := fun _ => []) (c := Try.f34.body.getD .skip) (by kernel_rfl) (by kernel_rfl) Try.func34 (by kernel_rfl) (by kernel_rfl) (by kernel_rfl) (of_decide_eq_true (by kernel_rfl)) (Nat.le_of_ble_eq_true ha) (run_ok h)

/-! ### percolate/percolateref02.Some -/
def r_some_0 : Reg := ⟨[], [⟨(.mknil 1 9), (some 2), none, [], []⟩], [2], [], false⟩
def r_some_1 : Reg := ⟨[], [⟨(.bsl 1 9 [(.c (.str ⟨#[]⟩))]), (some 5), none, [], []⟩, ⟨(.mv (.t 5)), (some 3), none, [], []⟩], [5], [], false⟩
def r_some_2 : Reg := ⟨[], [⟨(.mv (.c (.int .i64 0))), (some 4), none, [], []⟩], [], [], false⟩
def r_some_3 : Reg := ⟨[], [⟨(.mv (.t 4)), (some 6), none, [], []⟩, ⟨(.mv (.t 0)), (some 7), none, [], []⟩, ⟨(.len false (.t 7)), (some 8), none, [], []⟩, ⟨(.bin .lss (.t 6) (.t 8)), (some 9), none, [], []⟩], [], [], false⟩
def r_some_4 : Reg := ⟨[⟨(.mv (.t 3)), (some 12), none, [22], []⟩, ⟨(.mv (.t 0)), (some 13), none, [22], []⟩, ⟨(.mv (.t 4)), (some 14), none, [22], []⟩, ⟨(.iaddr 1 (.t 13) (.t 14)), (some 15), none, [22], []⟩, ⟨(.load 1 false (.t 15)), (some 16), none, [22], []⟩, ⟨(.mv (.t 0)), (some 17), none, [22], []⟩, ⟨(.mv (.t 4)), (some 18), none, [22], []⟩, ⟨(.iaddr 1 (.t 17) (.t 18)), (some 19), none, [22], []⟩, ⟨(.load 1 false (.t 19)), (some 20), none, [22], []⟩, ⟨(.bin .add (.t 20) (.c (.str ⟨#[0]⟩))), (some 21), none, [22], []⟩, ⟨(.bsl 1 9 [(.t 16), (.t 21)]), (some 22), none, [], []⟩], [⟨(.append 1 9 16 (.t 12) (.t 22)), (some 23), none, [], []⟩, ⟨(.mv (.t 23)), (some 3), none, [], []⟩], [22], [], true⟩
def r_some_5 : Reg := ⟨[], [⟨(.mv (.t 4)), (some 10), none, [], []⟩, ⟨(.bin .add (.t 10) (.c (.int .i64 1))), (some 11), none, [], []⟩, ⟨(.mv (.t 11)), (some 4), none, [], []⟩], [], [], false⟩
def r_some_l6 : IR := (.seq (.seq (.reg r_some_3)
  (.cond (.t 9) .skip
  (.exit 0)))
  (.seq (.block 1 (.reg r_some_4))
  (.reg r_some_5)))
def r_some_7 : Reg := ⟨[], [⟨(.mv (.t 3)), (some 24), none, [], []⟩, ⟨(.mv (.t 24)), (some 2), none, [], []⟩], [], [], false⟩
def ir_some : IR := (.seq (.reg r_some_0)
  (.seq (.reg r_some_1)
  (.seq (.seq (.reg r_some_2)
  (.block 0 (.loop r_some_l6)))
  (.seq (.reg r_some_7)
  .ret))))
def res_some : List RDesc := [(.tmp 2)]
theorem e_some_0 (C : FuncId → List AV → AV → Prop) (σ : St) (K : St → Prop) : runReg C r_some_0 σ K = runOps C [⟨(.mknil 1 9), (some 2), none, [], []⟩] (σ.kills [2]) K := rfl
theorem e_some_1 (C : FuncId → List AV → AV → Prop) (σ : St) (K : St → Prop) : runReg C r_some_1 σ K = runOps C [⟨(.bsl 1 9 [(.c (.str ⟨#[]⟩))]), (some 5), none, [], []⟩, ⟨(.mv (.t 5)), (some 3), none, [], []⟩] (σ.kills [5]) K := rfl
theorem e_some_2 (C : FuncId → List AV → AV → Prop) (σ : St) (K : St → Prop) : runReg C r_some_2 σ K = runOps C [⟨(.mv (.c (.int .i64 0))), (some 4), none, [], []⟩] (σ.kills []) K := rfl
theorem e_some_3 (C : FuncId → List AV → AV → Prop) (σ : St) (K : St → Prop) : runReg C r_some_3 σ K = runOps C [⟨(.mv (.t 4)), (some 6), none, [], []⟩, ⟨(.mv (.t 0)), (some 7), none, [], []⟩, ⟨(.len false (.t 7)), (some 8), none, [], []⟩, ⟨(.bin .lss (.t 6) (.t 8)), (some 9), none, [], []⟩] (σ.kills []) K := rfl
theorem e_some_4 (C : FuncId → List AV → AV → Prop) (σ : St) (K : St → Prop) : runReg C r_some_4 σ K = runHead C [] [⟨(.append 1 9 16 (.t 12) (.t 22)), (some 23), none, [], []⟩, ⟨(.mv (.t 23)), (some 3), none, [], []⟩] [⟨(.mv (.t 3)), (some 12), none, [22], []⟩, ⟨(.mv (.t 0)), (some 13), none, [22], []⟩, ⟨(.mv (.t 4)), (some 14), none, [22], []⟩, ⟨(.iaddr 1 (.t 13) (.t 14)), (some 15), none, [22], []⟩, ⟨(.load 1 false (.t 15)), (some 16), none, [22], []⟩, ⟨(.mv (.t 0)), (some 17), none, [22], []⟩, ⟨(.mv (.t 4)), (some 18), none, [22], []⟩, ⟨(.iaddr 1 (.t 17) (.t 18)), (some 19), none, [22], []⟩, ⟨(.load 1 false (.t 19)), (some 20), none, [22], []⟩, ⟨(.bin .add (.t 20) (.c (.str ⟨#[0]⟩))), (some 21), none, [22], []⟩, ⟨(.bsl 1 9 [(.t 16), (.t 21)]), (some 22), none, [], []⟩] (σ.kills [22]) K := rfl
theorem e_some_5 (C : FuncId → List AV → AV → Prop) (σ : St) (K : St → Prop) : runReg C r_some_5 σ K = runOps C [⟨(.mv (.t 4)), (some 10), none, [], []⟩, ⟨(.bin .add (.t 10) (.c (.int .i64 1))), (some 11), none, [], []⟩, ⟨(.mv (.t 11)), (some 4), none, [], []⟩] (σ.kills []) K := rfl
theorem e_some_7 (C : FuncId → List AV → AV → Prop) (σ : St) (K : St → Prop) : runReg C r_some_7 σ K = runOps C [⟨(.mv (.t 3)), (some 24), none, [], []⟩, ⟨(.mv (.t 24)), (some 2), none, [], []⟩] (σ.kills []) K := rfl
theorem fn_some {args : List AV} {r : AV} (ha : args.length.ble Try.f37.ntmps = true) (h : run (AFn Try.prog) ir_some (endQ res_some r) (initSt args)) : AFn Try.prog 37 args r :=
  AFn.of_code (hint := fun _ => []) (c := Try.f37.body.getD .skip) (by kernel_rfl) (by kernel_rfl) Try.func37 (by kernel_rfl) (by kernel_rfl) (by kernel_rfl) (of_decide_eq_true (by kernel_rfl)) (Nat.le_of_ble_eq_true ha) (run_ok h)

attribute [local go_sem ↓] ir_r49Sq
attribute [local go_sem] res_r49Sq e_r49Sq_0 e_r49Sq_1 e_r49Sq_2 e_r49Sq_3 e_r49Sq_4 e_r49Sq_5 e_r49Sq_6 e_r49Sq_7 e_r49Sq_8 e_r49Sq_9 e_r49Sq_10 e_r49Sq_11 e_r49Sq_12 e_r49Sq_14
attribute [local go_sem ↓] ir_some
attribute [local go_sem] res_some e_some_0 e_some_1 e_some_2 e_some_3 e_some_4 e_some_5 e_some_7


def someL (l : List ByteArray) : List ByteArray := ⟨#[]⟩ :: l.flatMap fun x => [x, x ++ ⟨#[0]⟩]
def smInv (l : List ByteArray) (k : Nat) (σ : St) : Prop :=
  ∃ j : Nat, j ≤ l.length ∧ k = l.length - j ∧ σ.T 0 = .sl (l.map .str) ∧ σ.T 3 = .rs 5 0 (2 * j + 1) ∧ σ.H 5 = some ⟨1, 9, (someL (l.take j)).map .str, 0⟩ ∧ σ.T 4 = .int .i64 j
theorem someL_len (l : List ByteArray) : (someL l).length = 2 * l.length + 1 := by
  induction l with
  | nil => rfl
  | cons x l ih => simp [someL] at ih ⊢; omega
theorem someE (l : List ByteArray) (hl : l.length ≤ 1000000) (hs : ∀ x, x ∈ l → x.size ≤ 1000000) : AFn Try.prog 37 [.sl (l.map .str)] (.own 1 9 ((someL l).map .str)) := by
  refine fn_some rfl ?_
  simp (maxSteps := 4000000) only [go_sem, ↓reduceIte, reduceCtorEq, Nat.reduceEqDiff, Nat.reduceBEq, Nat.reduceAdd, Nat.reduceSub, Nat.reduceMul, Nat.reduceLT, Nat.reduceLeDiff, Nat.reduceBNe, Int.reduceBEq, Int.reduceBNe, Int.reduceLT, Int.reduceLE, Spn.a, Msg.a, Eff.a]
  refine run_loop (smInv l) (k := l.length) ⟨0, by omega, rfl, ?_, ?_, ?_, ?_⟩ ?_
  · simp (maxSteps := 4000000) only [go_sem, ↓reduceIte, reduceCtorEq, Nat.reduceEqDiff, Nat.reduceBEq, Nat.reduceAdd, Nat.reduceSub, Nat.reduceMul, Nat.reduceLT, Nat.reduceLeDiff, Nat.reduceBNe, Int.reduceBEq, Int.reduceBNe, Int.reduceLT, Int.reduceLE, Spn.a, Msg.a, Eff.a]
  · simp (maxSteps := 4000000) only [go_sem, ↓reduceIte, reduceCtorEq, Nat.reduceEqDiff, Nat.reduceBEq, Nat.reduceAdd, Nat.reduceSub, Nat.reduceMul, Nat.reduceLT, Nat.reduceLeDiff, Nat.reduceBNe, Int.reduceBEq, Int.reduceBNe, Int.reduceLT, Int.reduceLE, Spn.a, Msg.a, Eff.a]
  · simp (maxSteps := 4000000) only [go_sem, ↓reduceIte, reduceCtorEq, Nat.reduceEqDiff, Nat.reduceBEq, Nat.reduceAdd, Nat.reduceSub, Nat.reduceMul, Nat.reduceLT, Nat.reduceLeDiff, Nat.reduceBNe, Int.reduceBEq, Int.reduceBNe, Int.reduceLT, Int.reduceLE, Spn.a, Msg.a, Eff.a]
    rfl
  · simp (maxSteps := 4000000) only [go_sem, ↓reduceIte, reduceCtorEq, Nat.reduceEqDiff, Nat.reduceBEq, Nat.reduceAdd, Nat.reduceSub, Nat.reduceMul, Nat.reduceLT, Nat.reduceLeDiff, Nat.reduceBNe, Int.reduceBEq, Int.reduceBNe, Int.reduceLT, Int.reduceLE, Spn.a, Msg.a, Eff.a]
    rfl
  rintro k σ ⟨j, hj, rfl, t0, t3, o5, t4⟩
  simp only [r_some_l6]
  by_cases hlt : j < l.length
  · have hlt' : (j : Int) < (l.length : Int) := by omega
    obtain ⟨x, hx⟩ : ∃ x, l[j]? = some x := ⟨_, List.getElem?_eq_getElem hlt⟩
    have hxs := hs x (List.mem_of_getElem? hx)
    have hg : (l.map AV.str).getD j .und = .str x := by rw [List.getD_eq_getElem?_getD, List.getElem?_map, hx]; rfl
    have hw := wS (j := j) (by omega)
    have hsl : someL (l.take (j + 1)) = someL (l.take j) ++ [x, x ++ ⟨#[0]⟩] := by
      rw [List.take_add_one, hx]; simp [someL]
    have hln : (someL (l.take j)).length = 2 * j + 1 := by rw [someL_len, List.length_take]; omega
    have hto : ((someL (l.take j)).map AV.str).take (2 * j + 1) = (someL (l.take j)).map AV.str := List.take_of_length_le (by rw [List.length_map]; omega)
    simp (maxSteps := 4000000) only [go_sem, ↓reduceIte, reduceCtorEq, Nat.reduceEqDiff, Nat.reduceBEq, Nat.reduceAdd, Nat.reduceSub, Nat.reduceMul, Nat.reduceLT, Nat.reduceLeDiff, Nat.reduceBNe, Int.reduceBEq, Int.reduceBNe, Int.reduceLT, Int.reduceLE, Spn.a, Msg.a, Eff.a, t0, t3, o5, t4, hlt', hg, List.length_map, Int.toNat_natCast, hw]
    (repeat refine And.intro (by omega) ?_)
    refine ⟨by show x.size + 1 ≤ _; omega, ⟨⟨by omega, by omega⟩, fun d hd => ?_⟩, l.length - (j + 1), by omega, j + 1, by omega, rfl, ?_, ?_, ?_, ?_⟩
    · rcases hd with rfl | rfl | hd
      · exact ⟨rfl, rfl⟩
      · exact ⟨rfl, rfl⟩
      · cases hd
    · simp (maxSteps := 4000000) only [go_sem, ↓reduceIte, reduceCtorEq, Nat.reduceEqDiff, Nat.reduceBEq, Nat.reduceAdd, Nat.reduceSub, Nat.reduceMul, Nat.reduceLT, Nat.reduceLeDiff, Nat.reduceBNe, Int.reduceBEq, Int.reduceBNe, Int.reduceLT, Int.reduceLE, Spn.a, Msg.a, Eff.a, t0]
    · simp (maxSteps := 4000000) only [go_sem, ↓reduceIte, reduceCtorEq, Nat.reduceEqDiff, Nat.reduceBEq, Nat.reduceAdd, Nat.reduceSub, Nat.reduceMul, Nat.reduceLT, Nat.reduceLeDiff, Nat.reduceBNe, Int.reduceBEq, Int.reduceBNe, Int.reduceLT, Int.reduceLE, Spn.a, Msg.a, Eff.a, show 2 * (j + 1) + 1 = 2 * j + 1 + 2 by omega]
    · simp (maxSteps := 4000000) only [go_sem, ↓reduceIte, reduceCtorEq, Nat.reduceEqDiff, Nat.reduceBEq, Nat.reduceAdd, Nat.reduceSub, Nat.reduceMul, Nat.reduceLT, Nat.reduceLeDiff, Nat.reduceBNe, Int.reduceBEq, Int.reduceBNe, Int.reduceLT, Int.reduceLE, Spn.a, Msg.a, Eff.a, hto, hsl, List.map_append]
    · simp (maxSteps := 4000000) only [go_sem, ↓reduceIte, reduceCtorEq, Nat.reduceEqDiff, Nat.reduceBEq, Nat.reduceAdd, Nat.reduceSub, Nat.reduceMul, Nat.reduceLT, Nat.reduceLeDiff, Nat.reduceBNe, Int.reduceBEq, Int.reduceBNe, Int.reduceLT, Int.reduceLE, Spn.a, Msg.a, Eff.a]
  · have hlt' : ¬ (j : Int) < (l.length : Int) := by omega
    have hto : ((someL l).map AV.str).take (2 * j + 1) = (someL l).map AV.str := List.take_of_length_le (by rw [List.length_map, someL_len]; omega)
    simp (maxSteps := 4000000) only [go_sem, ↓reduceIte, reduceCtorEq, Nat.reduceEqDiff, Nat.reduceBEq, Nat.reduceAdd, Nat.reduceSub, Nat.reduceMul, Nat.reduceLT, Nat.reduceLeDiff, Nat.reduceBNe, Int.reduceBEq, Int.reduceBNe, Int.reduceLT, Int.reduceLE, Spn.a, Msg.a, Eff.a, t0, t3, o5, t4, hlt', List.length_map, List.take_of_length_le (show l.length ≤ j by omega), hto]
    rw [someL_len]; omega
def rqInv (n : Nat) (r : List Msg) (k : Nat) (σ : St) : Prop :=
  ∃ (i : Nat) (rest out : List Msg), rest.length = n ∧ i ≤ n ∧ k = n - i ∧ KOk rest ∧ out.length ≤ i ∧ σ.T 0 = .rs 7 0 n ∧ σ.T 4 = .int .i64 i ∧ σ.H 7 = some ⟨6, 55, rest.map Msg.a, 0⟩ ∧
    σ.T 3 = .rs 3 0 out.length ∧ σ.H 3 = some ⟨6, 55, out.map Msg.a, 0⟩ ∧ sqGo (n - i) i rest out = r
theorem thenR_size {a b : Eff} {n : Nat} (hn : 16 ≤ n) (ha : a.val.size ≤ n) (hb : b.val.size ≤ n) : (a.thenR b).val.size ≤ n := by
  unfold Eff.thenR
  split
  · exact ha
  · split
    · exact hb
    · exact Nat.le_trans (tail16_size _) hn
theorem ref49Squeeze (l : List Msg) (hl : KOk l) : AFn Try.prog 34 [.sl (l.map Msg.a)] (.own 6 55 ((squeezeF l).map Msg.a)) := by
  refine fn_r49Sq rfl ?_
  simp (maxSteps := 4000000) only [go_sem, ↓reduceIte, reduceCtorEq, Nat.reduceEqDiff, Nat.reduceBEq, Nat.reduceAdd, Nat.reduceSub, Nat.reduceMul, Nat.reduceLT, Nat.reduceLeDiff, Nat.reduceBNe, Int.reduceBEq, Int.reduceBNe, Int.reduceLT, Int.reduceLE, Spn.a, Msg.a, Eff.a, List.length_map]
  refine ⟨⟨by have := hl.1; omega, msg_cells l⟩, ?_⟩
  refine run_loop (rqInv l.length (squeezeF l)) (k := l.length) ⟨0, l, [], rfl, by omega, rfl, hl, by simp, ?_, ?_, ?_, ?_, ?_, ?_⟩ ?_
  · simp (maxSteps := 4000000) only [go_sem, ↓reduceIte, reduceCtorEq, Nat.reduceEqDiff, Nat.reduceBEq, Nat.reduceAdd, Nat.reduceSub, Nat.reduceMul, Nat.reduceLT, Nat.reduceLeDiff, Nat.reduceBNe, Int.reduceBEq, Int.reduceBNe, Int.reduceLT, Int.reduceLE, Spn.a, Msg.a, Eff.a, List.length_map]
  · simp (maxSteps := 4000000) only [go_sem, ↓reduceIte, reduceCtorEq, Nat.reduceEqDiff, Nat.reduceBEq, Nat.reduceAdd, Nat.reduceSub, Nat.reduceMul, Nat.reduceLT, Nat.reduceLeDiff, Nat.reduceBNe, Int.reduceBEq, Int.reduceBNe, Int.reduceLT, Int.reduceLE, Spn.a, Msg.a, Eff.a, List.length_map]
    rfl
  · simp (maxSteps := 4000000) only [go_sem, ↓reduceIte, reduceCtorEq, Nat.reduceEqDiff, Nat.reduceBEq, Nat.reduceAdd, Nat.reduceSub, Nat.reduceMul, Nat.reduceLT, Nat.reduceLeDiff, Nat.reduceBNe, Int.reduceBEq, Int.reduceBNe, Int.reduceLT, Int.reduceLE, Spn.a, Msg.a, Eff.a, List.length_map]
  · simp (maxSteps := 4000000) only [go_sem, ↓reduceIte, reduceCtorEq, Nat.reduceEqDiff, Nat.reduceBEq, Nat.reduceAdd, Nat.reduceSub, Nat.reduceMul, Nat.reduceLT, Nat.reduceLeDiff, Nat.reduceBNe, Int.reduceBEq, Int.reduceBNe, Int.reduceLT, Int.reduceLE, Spn.a, Msg.a, Eff.a, List.length_map]
  · simp (maxSteps := 4000000) only [go_sem, ↓reduceIte, reduceCtorEq, Nat.reduceEqDiff, Nat.reduceBEq, Nat.reduceAdd, Nat.reduceSub, Nat.reduceMul, Nat.reduceLT, Nat.reduceLeDiff, Nat.reduceBNe, Int.reduceBEq, Int.reduceBNe, Int.reduceLT, Int.reduceLE, Spn.a, Msg.a, Eff.a, List.length_map]
  · unfold squeezeF; rfl
  rintro k σ ⟨i, rest, out, hn, hi, rfl, hok, ho, t0, t4, o7, t3, o3, hr⟩
  simp only [r_r49Sq_l13]
  by_cases hlt : i < l.length
  · have hlt' : (i : Int) < (l.length : Int) := by omega
    obtain ⟨m, hm⟩ := getM (l := rest) (j := i) (by omega)
    have ht : (rest.map Msg.a).take l.length = rest.map Msg.a := List.take_of_length_le (by rw [List.length_map, hn]; exact Nat.le_refl _)
    have hw := wS (j := i) (by have := hl.1; omega)
    have hto : (out.map Msg.a).take out.length = out.map Msg.a := List.take_of_length_le (by rw [List.length_map]; exact Nat.le_refl _)
    rw [show l.length - i = (l.length - (i + 1)) + 1 by omega, sqGo, hm] at hr
    simp only at hr
    simp (maxSteps := 4000000) only [go_sem, ↓reduceIte, reduceCtorEq, Nat.reduceEqDiff, Nat.reduceBEq, Nat.reduceAdd, Nat.reduceSub, Nat.reduceMul, Nat.reduceLT, Nat.reduceLeDiff, Nat.reduceBNe, Int.reduceBEq, Int.reduceBNe, Int.reduceLT, Int.reduceLE, Spn.a, Msg.a, Eff.a, t0, t4, o7, t3, o3, hlt', List.length_map, Int.toNat_natCast, ht]
    (first | refine calling (ref49Dead rest i hok (by omega)) ?_ | refine callingH (ref49Dead rest i hok (by omega)) ?_)
    cases hd : dead rest i with
    | true =>
      rw [hd, if_pos rfl] at hr
      simp (maxSteps := 4000000) only [go_sem, ↓reduceIte, reduceCtorEq, Nat.reduceEqDiff, Nat.reduceBEq, Nat.reduceAdd, Nat.reduceSub, Nat.reduceMul, Nat.reduceLT, Nat.reduceLeDiff, Nat.reduceBNe, Int.reduceBEq, Int.reduceBNe, Int.reduceLT, Int.reduceLE, Spn.a, Msg.a, Eff.a, t0, t4, o7, t3, o3, hw]
      refine ⟨l.length - (i + 1), by omega, i + 1, rest, out, hn, by omega, rfl, hok, by omega, ?_, ?_, ?_, ?_, ?_, hr⟩ <;>
        (simp (maxSteps := 4000000) only [go_sem, ↓reduceIte, reduceCtorEq, Nat.reduceEqDiff, Nat.reduceBEq, Nat.reduceAdd, Nat.reduceSub, Nat.reduceMul, Nat.reduceLT, Nat.reduceLeDiff, Nat.reduceBNe, Int.reduceBEq, Int.reduceBNe, Int.reduceLT, Int.reduceLE, Spn.a, Msg.a, Eff.a, t0, t4, o7, t3, o3, hw])
    | false =>
      rw [hd, if_neg (by simp)] at hr
      simp (maxSteps := 4000000) only [go_sem, ↓reduceIte, reduceCtorEq, Nat.reduceEqDiff, Nat.reduceBEq, Nat.reduceAdd, Nat.reduceSub, Nat.reduceMul, Nat.reduceLT, Nat.reduceLeDiff, Nat.reduceBNe, Int.reduceBEq, Int.reduceBNe, Int.reduceLT, Int.reduceLE, Spn.a, Msg.a, Eff.a, t0, t4, o7, t3, o3, hw, ht]
      (first | refine calling (ref49Next rest i hok (by omega)) ?_ | refine callingH (ref49Next rest i hok (by omega)) ?_)
      have hkeep : m.kind = 4 ∨ nextOf rest i = none → sqGo (l.length - (i + 1)) (i + 1) rest (out ++ [m]) = squeezeF l := by
        intro h
        cases hx : nextOf rest i with
        | none => rw [hx] at hr; exact hr
        | some j =>
          rcases h with h | h
          · rw [hx] at hr
            simp only [if_pos h] at hr
            obtain ⟨_, x, hxj⟩ := nextOf_lt hx
            exact hr
          · rw [hx] at h; cases h
      cases hx : nextOf rest i with
      | none =>
        have h0 : ¬ ((0 : Int) ≤ -1) := by omega
        simp (maxSteps := 4000000) only [go_sem, ↓reduceIte, reduceCtorEq, Nat.reduceEqDiff, Nat.reduceBEq, Nat.reduceAdd, Nat.reduceSub, Nat.reduceMul, Nat.reduceLT, Nat.reduceLeDiff, Nat.reduceBNe, Int.reduceBEq, Int.reduceBNe, Int.reduceLT, Int.reduceLE, Spn.a, Msg.a, Eff.a, ansR, h0, t0, t4, o7, t3, o3, hw, hlt', gM hm, List.length_map, Int.toNat_natCast]
        have hl1 := hl.1
        (repeat refine And.intro (by omega) ?_); refine ⟨⟨⟨by omega, by omega⟩, fun d hd' => by rcases hd' with rfl | hd'; exact ⟨rfl, rfl⟩; cases hd'⟩, ?_⟩
        refine ⟨l.length - (i + 1), by omega, i + 1, rest, out ++ [m], hn, by omega, rfl, hok, by rw [List.length_append]; simp; omega, ?_, ?_, ?_, ?_, ?_, hkeep (.inr hx)⟩ <;>
          (simp (maxSteps := 4000000) only [go_sem, ↓reduceIte, reduceCtorEq, Nat.reduceEqDiff, Nat.reduceBEq, Nat.reduceAdd, Nat.reduceSub, Nat.reduceMul, Nat.reduceLT, Nat.reduceLeDiff, Nat.reduceBNe, Int.reduceBEq, Int.reduceBNe, Int.reduceLT, Int.reduceLE, Spn.a, Msg.a, Eff.a, t0, t4, o7, t3, o3, hw, hto, List.length_append, List.map_append])
      | some j =>
        obtain ⟨hij, x, hxj⟩ := nextOf_lt hx
        have hjl := (List.getElem?_eq_some_iff.1 hxj).1
        have h0 : ((0 : Int) ≤ (j : Int)) := by omega
        have hj3 : (j : Int) < (l.length : Int) := by omega
        rw [hx] at hr
        simp only [hxj] at hr
        cases h4 : (m.kind != 4) with
        | false =>
          have h4' : m.kind = 4 := by simpa using h4
          rw [if_pos h4'] at hr
          simp (maxSteps := 4000000) only [go_sem, ↓reduceIte, reduceCtorEq, Nat.reduceEqDiff, Nat.reduceBEq, Nat.reduceAdd, Nat.reduceSub, Nat.reduceMul, Nat.reduceLT, Nat.reduceLeDiff, Nat.reduceBNe, Int.reduceBEq, Int.reduceBNe, Int.reduceLT, Int.reduceLE, Spn.a, Msg.a, Eff.a, ansR, h0, h4, t0, t4, o7, t3, o3, hw, hlt', gM hm, List.length_map, Int.toNat_natCast]
          have hl1 := hl.1
          (repeat refine And.intro (by omega) ?_); refine ⟨⟨⟨by omega, by omega⟩, fun d hd' => by rcases hd' with rfl | hd'; exact ⟨rfl, rfl⟩; cases hd'⟩, ?_⟩
          refine ⟨l.length - (i + 1), by omega, i + 1, rest, out ++ [m], hn, by omega, rfl, hok, by rw [List.length_append]; simp; omega, ?_, ?_, ?_, ?_, ?_, hr⟩ <;>
            (simp (maxSteps := 4000000) only [go_sem, ↓reduceIte, reduceCtorEq, Nat.reduceEqDiff, Nat.reduceBEq, Nat.reduceAdd, Nat.reduceSub, Nat.reduceMul, Nat.reduceLT, Nat.reduceLeDiff, Nat.reduceBNe, Int.reduceBEq, Int.reduceBNe, Int.reduceLT, Int.reduceLE, Spn.a, Msg.a, Eff.a, t0, t4, o7, t3, o3, hw, hto, List.length_append, List.map_append])
        | true =>
          have h4' : m.kind ≠ 4 := by simpa using h4
          rw [if_neg h4'] at hr
          have hk2 : x.kind = 2 := by
            unfold dead at hd
            simp only [hm, hx, hxj, if_neg h4'] at hd
            simpa using hd
          have htt := nextOf_touch hm hx hxj
          obtain ⟨hke, hj⟩ := join_form h4' hk2 htt
          have hj2 : (joinF m x).2 = true := by rw [hj]
          rw [if_pos hj2] at hr
          have hjm : (⟨x.stamp, ((m.on m.key).thenR (x.on m.key)).kind, x.key, x.hi, x.op, ((m.on m.key).thenR (x.on m.key)).val⟩ : Msg) = (joinF m x).1 := by rw [hj, hke]
          have hset : ∀ v : AV, ((rest.map Msg.a).set j v).getD j .und = v := fun v => by
            rw [List.getD_eq_getElem?_getD, List.getElem?_set, if_pos rfl, if_pos (by rw [List.length_map]; exact hjl)]; rfl
          have hmo := hok.m hm
          have hxo := hok.m hxj
          simp (maxSteps := 4000000) only [go_sem, ↓reduceIte, reduceCtorEq, Nat.reduceEqDiff, Nat.reduceBEq, Nat.reduceAdd, Nat.reduceSub, Nat.reduceMul, Nat.reduceLT, Nat.reduceLeDiff, Nat.reduceBNe, Int.reduceBEq, Int.reduceBNe, Int.reduceLT, Int.reduceLE, Spn.a, Msg.a, Eff.a, ansR, h0, h4, t0, t4, o7, t3, o3, hw, hlt', hj3, gM hm, gM hxj, List.length_map, Int.toNat_natCast]
          (repeat refine And.intro (by omega) ?_)
          have hkm := hok.2 m (List.mem_of_getElem? hm)
          have hkx := hok.2 x (List.mem_of_getElem? hxj)
          (first | refine calling (refOn m m.key hmo.2.1 hmo.2.2.1 (by omega)) ?_ | refine callingH (refOn m m.key hmo.2.1 hmo.2.2.1 (by omega)) ?_)
          simp (maxSteps := 4000000) only [go_sem, ↓reduceIte, reduceCtorEq, Nat.reduceEqDiff, Nat.reduceBEq, Nat.reduceAdd, Nat.reduceSub, Nat.reduceMul, Nat.reduceLT, Nat.reduceLeDiff, Nat.reduceBNe, Int.reduceBEq, Int.reduceBNe, Int.reduceLT, Int.reduceLE, Spn.a, Msg.a, Eff.a, t0, t4, o7, t3, o3, hw, hlt', hj3, gM hm, gM hxj, List.length_map, Int.toNat_natCast]
          (repeat refine And.intro (by omega) ?_)
          (first | refine calling (refOn x m.key hxo.2.1 hxo.2.2.1 (by omega)) ?_ | refine callingH (refOn x m.key hxo.2.1 hxo.2.2.1 (by omega)) ?_)
          simp (maxSteps := 4000000) only [go_sem, ↓reduceIte, reduceCtorEq, Nat.reduceEqDiff, Nat.reduceBEq, Nat.reduceAdd, Nat.reduceSub, Nat.reduceMul, Nat.reduceLT, Nat.reduceLeDiff, Nat.reduceBNe, Int.reduceBEq, Int.reduceBNe, Int.reduceLT, Int.reduceLE, Spn.a, Msg.a, Eff.a, t0, t4, o7, t3, o3, hw, hlt', hj3, gM hm, gM hxj, List.length_map, Int.toNat_natCast]
          have hz1 := on_size m m.key
          have hz2 := on_size x m.key
          (first | refine calling (refThen (m.on m.key) (x.on m.key) (by omega)) ?_ | refine callingH (refThen (m.on m.key) (x.on m.key) (by omega)) ?_)
          simp (maxSteps := 4000000) only [go_sem, ↓reduceIte, reduceCtorEq, Nat.reduceEqDiff, Nat.reduceBEq, Nat.reduceAdd, Nat.reduceSub, Nat.reduceMul, Nat.reduceLT, Nat.reduceLeDiff, Nat.reduceBNe, Int.reduceBEq, Int.reduceBNe, Int.reduceLT, Int.reduceLE, Spn.a, Msg.a, Eff.a, t0, t4, o7, t3, o3, hw, hlt', hj3, gM hm, gM hxj, List.length_map, List.length_set, List.set_set, hset, Int.toNat_natCast]
          (repeat refine And.intro (by omega) ?_)
          have hok2 : KOk (rest.set j (joinF m x).1) := by
            refine ⟨by rw [List.length_set]; exact hok.1, fun y hy => ?_⟩
            rcases List.mem_or_eq_of_mem_set hy with h | h
            · exact hok.2 y h
            · subst h
              rw [← hjm]
              refine ⟨hkx.1, hkx.2.1, ?_⟩
              exact thenR_size (by omega) (Nat.le_trans hz1 hkm.2.2) (Nat.le_trans hz2 hkx.2.2)
          refine ⟨l.length - (i + 1), by omega, i + 1, rest.set j (joinF m x).1, out, by rw [List.length_set]; exact hn, by omega, rfl, hok2, by omega, ?_, ?_, ?_, ?_, ?_, hr⟩ <;>
            (simp (maxSteps := 4000000) only [go_sem, ↓reduceIte, reduceCtorEq, Nat.reduceEqDiff, Nat.reduceBEq, Nat.reduceAdd, Nat.reduceSub, Nat.reduceMul, Nat.reduceLT, Nat.reduceLeDiff, Nat.reduceBNe, Int.reduceBEq, Int.reduceBNe, Int.reduceLT, Int.reduceLE, Spn.a, Msg.a, Eff.a, t0, t4, o7, t3, o3, hw, gM hxj, List.length_map, List.length_set, List.set_set, hset, List.map_set, ← hjm])
  · have hlt' : ¬ (i : Int) < (l.length : Int) := by omega
    rw [show l.length - i = 0 by omega, sqGo] at hr
    simp (maxSteps := 4000000) only [go_sem, ↓reduceIte, reduceCtorEq, Nat.reduceEqDiff, Nat.reduceBEq, Nat.reduceAdd, Nat.reduceSub, Nat.reduceMul, Nat.reduceLT, Nat.reduceLeDiff, Nat.reduceBNe, Int.reduceBEq, Int.reduceBNe, Int.reduceLT, Int.reduceLE, Spn.a, Msg.a, Eff.a, t0, t4, o7, t3, o3, hlt', List.length_map]
    rw [hr]
end Go.Proofs.Ytdjkefndigijjaa
