/-
  Layer 6 on the plain machine: a word as a text, a text as a number.
-/
import Derived.Test.YtkdbphhekpdmhaaDoorPkB
namespace Go.Proofs.YtkdbphhekpdmhaaDoor
open Go.RowKit
set_option linter.unusedVariables false
set_option linter.unusedSimpArgs false
set_option maxRecDepth 100000
attribute [local go_sem ↓] runOp headOp
attribute [local go_sem] ev0 ev1 ev2 ev3 ev4 evA stHOk.eq_1 stHOk.eq_2 stHSt.eq_1 stHSt.eq_2 okV valV fzV okF valF okBld valBld mxOk.eq_1 mxOk.eq_2 mxVal.eq_1 mxVal.eq_2 cellFit.eq_1 cellFit.eq_2 cellFit.eq_3 cellEq.eq_1 cellEq.eq_2 cellEq.eq_3 upd_at AV.flatB AV.flatBs binIok binIV binSok binSV cellsOk.eq_1 cellsOk.eq_2 cellsVal.eq_1 cellsVal.eq_2 objCells.eq_1 objCells.eq_2 objZ.eq_1 objZ.eq_2 objProt.eq_1 objProt.eq_2 oneObj ptrOk.eq_1 ptrOk.eq_2 ptrOk.eq_3 ptrCells.eq_1 ptrCells.eq_2 ptrCells.eq_3 lenOk.eq_1 lenOk.eq_2 lenOk.eq_3 lenOk.eq_4 lenVal.eq_1 lenVal.eq_2 lenVal.eq_3 lenVal.eq_4 faOk.eq_1 faOk.eq_2 faOk.eq_3 faVal.eq_1 faVal.eq_2 faVal.eq_3 iaOk.eq_1 iaOk.eq_2 iaOk.eq_3 iaVal.eq_1 iaVal.eq_2 iaVal.eq_3 slcLen.eq_1 slcLen.eq_2 slcLen.eq_3 slcLen.eq_4 bdOk.eq_1 bdOk.eq_2 bdVal.eq_1 bdVal.eq_2 slcOk.eq_1 slcOk.eq_2 slcOk.eq_3 slcOk.eq_4 slcVal.eq_1 slcVal.eq_2 slcVal.eq_3 slcVal.eq_4 slcFz.eq_1 slcFz.eq_2 byOk.eq_1 byOk.eq_2 byOk.eq_3 byOk.eq_4 byOk.eq_5 byOk.eq_6 byOk.eq_7 byVal.eq_1 byVal.eq_2 byVal.eq_3 byFz.eq_1 byFz.eq_2 byFz.eq_3 byOks byVals byFzs allOne resSt.eq_1 resSt.eq_2 resName.eq_1 resName.eq_2 stOk.eq_1 stOk.eq_2 stArr.eq_1 stArr.eq_2 stSt.eq_1 stSt.eq_2 AV.patch nameOk_none gB.eq_1 gB.eq_2 gB.eq_3 gIs.eq_1 gIs.eq_2 gIs.eq_3 retV resV resVs evalV cellsV St.byval List.getD_cons_zero List.getD_cons_succ List.getD_nil List.map_cons List.map_nil List.length_cons List.length_nil List.take_succ_cons List.take_zero List.drop_succ_cons List.drop_zero List.headD_cons List.set_cons_zero List.append_nil List.nil_append List.cons_append List.contains_cons List.contains_nil List.elem_cons List.elem_nil List.all_cons List.all_nil List.getElem?_cons_zero List.getElem?_cons_succ List.filterMap_cons List.filterMap_nil Option.isSome_some Option.isSome_none Option.map_some Option.map_none Option.some.injEq AV.int.injEq AV.bool.injEq AV.str.injEq AV.tup.injEq AV.agg.injEq AV.sl.injEq List.cons.injEq Bool.false_eq_true Bool.true_eq_false Bool.not_true Bool.not_false Bool.and_true Bool.true_and Bool.or_false Bool.or_true Bool.false_or Bool.true_or Bool.or_self Bool.and_self Bool.not_eq_true' Bool.not_eq_false' Bool.not_not beq_self_eq_true true_and and_true false_and and_false and_self not_true_eq_false not_false_eq_true forall_const true_implies false_implies implies_true imp_self Nat.lt_add_one Nat.le_refl Nat.zero_le Nat.add_zero Nat.zero_add decide_true decide_false decide_eq_true_eq decide_eq_false_iff_not exists_eq_left exists_eq_left' ge_iff_le gt_iff_lt ite_branch ite_branch' nilOk.eq_1 nilOk.eq_2 nilMay.eq_1 nilMay.eq_2 AV.isSl.eq_1 objTy'.eq_1 objTy'.eq_2 apSt.eq_1 apArr.eq_1 apArr.eq_2 slOf.eq_1 fitsV List.mem_cons List.not_mem_nil Bool.false_and Bool.and_false primOk.eq_1 primOk.eq_2 primOk.eq_3 primOk.eq_4 primOk.eq_5 primVal.eq_1 primVal.eq_2 primVal.eq_3 primVal.eq_4 primVal.eq_5 mOk.eq_1 mOk.eq_2 mVal.eq_1 mVal.eq_2 mFz.eq_1 mFz.eq_2 mOks mVals mFzs mCalOk.eq_1 mCalOk.eq_2 mFn.eq_1 mFn.eq_2 mArgs.eq_1 mArgs.eq_2 ckOk.eq_1 ckOk.eq_2 cloOk.eq_1 ptrAt.eq_1 sh.eq_1 sh.eq_2 sh.eq_3 sh.eq_4 sh.eq_5 retM shH_small
/-! ### percolate/pack.Unquote -/
def r_unq_0 : Reg := ⟨[], [⟨(.mv (.c (.str ⟨#[]⟩))), (some 2), none, [], []⟩, ⟨(.mv (.c (.bool false))), (some 3), none, [], []⟩], [], [], false⟩
def r_unq_1 : Reg := ⟨[], [⟨(.mv (.t 0)), (some 7), none, [], []⟩, ⟨(.bin .eql (.t 7) (.c (.str ⟨#[45]⟩))), (some 8), none, [], []⟩], [], [], false⟩
def r_unq_2 : Reg := ⟨[], [⟨(.mv (.c (.str ⟨#[]⟩))), (some 2), none, [], []⟩, ⟨(.mv (.c (.bool true))), (some 3), none, [], []⟩], [], [], false⟩
def r_unq_3 : Reg := ⟨[], [⟨(.mknil 1 5), (some 4), none, [], []⟩], [4], [], false⟩
def r_unq_4 : Reg := ⟨[], [⟨(.mv (.c (.int .i64 0))), (some 5), none, [], []⟩], [], [], false⟩
def r_unq_5 : Reg := ⟨[], [⟨(.mv (.t 5)), (some 9), none, [], []⟩, ⟨(.mv (.t 0)), (some 10), none, [], []⟩, ⟨(.len true (.t 10)), (some 11), none, [], []⟩, ⟨(.bin .lss (.t 9) (.t 11)), (some 12), none, [], []⟩], [], [], false⟩
def r_unq_6 : Reg := ⟨[], [⟨(.mv (.t 0)), (some 15), none, [18], []⟩, ⟨(.mv (.t 5)), (some 16), none, [18], []⟩, ⟨(.idx (.t 15) (.t 16)), (some 17), none, [18], []⟩, ⟨(.callv (.c (.clo 102 [] [])) [(.t 17)]), (some 18), none, [], []⟩], [18], [], false⟩
def r_unq_7 : Reg := ⟨[], [⟨(.mv (.t 4)), (some 19), none, [23], []⟩, ⟨(.mv (.t 0)), (some 20), none, [23], []⟩, ⟨(.mv (.t 5)), (some 21), none, [23], []⟩, ⟨(.idx (.t 20) (.t 21)), (some 22), none, [23], []⟩, ⟨(.bsl 1 5 [(.t 22)]), (some 23), none, [], []⟩, ⟨(.append 1 5 1 (.t 19) (.t 23)), (some 24), none, [], []⟩, ⟨(.mv (.t 24)), (some 4), none, [], []⟩], [23], [], false⟩
def r_unq_8 : Reg := ⟨[], [⟨(.mv (.t 0)), (some 25), none, [41, 49], []⟩, ⟨(.mv (.t 5)), (some 26), none, [41, 49], []⟩, ⟨(.idx (.t 25) (.t 26)), (some 27), none, [41, 49], []⟩, ⟨(.bin .neq (.t 27) (.c (.int .u8 37))), (some 28), none, [41, 49], []⟩, ⟨(.mv (.t 28)), (some 29), none, [41, 49], []⟩, ⟨(.mv (.t 0)), (some 30), (some (29, false)), [41, 49], []⟩, ⟨(.len true (.t 30)), (some 31), (some (29, false)), [41, 49], []⟩, ⟨(.mv (.t 5)), (some 32), (some (29, false)), [41, 49], []⟩, ⟨(.bin .sub (.t 31) (.t 32)), (some 33), (some (29, false)), [41, 49], []⟩, ⟨(.bin .lss (.t 33) (.c (.int .i64 3))), (some 34), (some (29, false)), [41, 49], []⟩, ⟨(.pick (.t 29) (.c (.bool true)) (.t 34)), (some 35), none, [41, 49], []⟩, ⟨(.mv (.t 35)), (some 36), none, [41, 49], []⟩, ⟨(.mv (.t 0)), (some 37), (some (36, false)), [41, 49], []⟩, ⟨(.mv (.t 5)), (some 38), (some (36, false)), [41, 49], []⟩, ⟨(.bin .add (.t 38) (.c (.int .i64 1))), (some 39), (some (36, false)), [41, 49], []⟩, ⟨(.idx (.t 37) (.t 39)), (some 40), (some (36, false)), [41, 49], []⟩, ⟨(.callv (.c (.clo 139 [] [])) [(.t 40)]), (some 41), (some (36, false)), [49], []⟩, ⟨(.bin .lss (.t 41) (.c (.int .i64 0))), (some 42), (some (36, false)), [49], []⟩, ⟨(.pick (.t 36) (.c (.bool true)) (.t 42)), (some 43), none, [49], []⟩, ⟨(.mv (.t 43)), (some 44), none, [49], []⟩, ⟨(.mv (.t 0)), (some 45), (some (44, false)), [49], []⟩, ⟨(.mv (.t 5)), (some 46), (some (44, false)), [49], []⟩, ⟨(.bin .add (.t 46) (.c (.int .i64 2))), (some 47), (some (44, false)), [49], []⟩, ⟨(.idx (.t 45) (.t 47)), (some 48), (some (44, false)), [49], []⟩, ⟨(.callv (.c (.clo 139 [] [])) [(.t 48)]), (some 49), (some (44, false)), [], []⟩, ⟨(.bin .lss (.t 49) (.c (.int .i64 0))), (some 50), (some (44, false)), [], []⟩, ⟨(.pick (.t 44) (.c (.bool true)) (.t 50)), (some 51), none, [], []⟩], [41, 49], [], false⟩
def r_unq_9 : Reg := ⟨[], [⟨(.mv (.c (.str ⟨#[]⟩))), (some 2), none, [], []⟩, ⟨(.mv (.c (.bool false))), (some 3), none, [], []⟩], [], [], false⟩
def r_unq_10 : Reg := ⟨[⟨(.mv (.t 0)), (some 52), none, [56, 57, 62], []⟩, ⟨(.mv (.t 5)), (some 53), none, [56, 57, 62], []⟩, ⟨(.bin .add (.t 53) (.c (.int .i64 1))), (some 54), none, [56, 57, 62], []⟩, ⟨(.idx (.t 52) (.t 54)), (some 55), none, [56, 57, 62], []⟩, ⟨(.callv (.c (.clo 139 [] [])) [(.t 55)]), (some 56), none, [57, 62], []⟩, ⟨(.call 3 [(.t 56), (.c (.int .u64 4))]), (some 57), none, [62], []⟩, ⟨(.mv (.t 0)), (some 58), none, [56, 57, 62], []⟩, ⟨(.mv (.t 5)), (some 59), none, [56, 57, 62], []⟩, ⟨(.bin .add (.t 59) (.c (.int .i64 2))), (some 60), none, [56, 57, 62], []⟩, ⟨(.idx (.t 58) (.t 60)), (some 61), none, [56, 57, 62], []⟩, ⟨(.callv (.c (.clo 139 [] [])) [(.t 61)]), (some 62), none, [57], []⟩], [⟨(.bin .or (.t 57) (.t 62)), (some 63), none, [], []⟩, ⟨(.conv .u8 (.t 63)), (some 64), none, [], []⟩, ⟨(.mv (.t 64)), (some 6), none, [], []⟩], [56, 57, 62], [], true⟩
def r_unq_11 : Reg := ⟨[], [⟨(.mv (.t 6)), (some 65), none, [66], []⟩, ⟨(.callv (.c (.clo 102 [] [])) [(.t 65)]), (some 66), none, [], []⟩], [66], [], false⟩
def r_unq_12 : Reg := ⟨[], [⟨(.mv (.c (.str ⟨#[]⟩))), (some 2), none, [], []⟩, ⟨(.mv (.c (.bool false))), (some 3), none, [], []⟩], [], [], false⟩
def r_unq_13 : Reg := ⟨[], [⟨(.mv (.t 4)), (some 67), none, [69], []⟩, ⟨(.mv (.t 6)), (some 68), none, [69], []⟩, ⟨(.bsl 1 5 [(.t 68)]), (some 69), none, [], []⟩, ⟨(.append 1 5 1 (.t 67) (.t 69)), (some 70), none, [], []⟩, ⟨(.mv (.t 70)), (some 4), none, [], []⟩], [69], [], false⟩
def r_unq_14 : Reg := ⟨[], [⟨(.mv (.t 5)), (some 71), none, [], []⟩, ⟨(.bin .add (.t 71) (.c (.int .i64 2))), (some 72), none, [], []⟩, ⟨(.mv (.t 72)), (some 5), none, [], []⟩], [], [], false⟩
def r_unq_15 : Reg := ⟨[], [⟨(.mv (.t 5)), (some 13), none, [], []⟩, ⟨(.bin .add (.t 13) (.c (.int .i64 1))), (some 14), none, [], []⟩, ⟨(.mv (.t 14)), (some 5), none, [], []⟩], [], [], false⟩
def r_unq_l16 : IR := (.seq (.seq (.reg r_unq_5)
  (.cond (.t 12) .skip
  (.exit 0)))
  (.seq (.block 1 (.seq (.seq (.reg r_unq_6)
  (.cond (.t 18) (.seq (.reg r_unq_7)
  (.exit 1))
  .skip))
  (.seq (.seq (.reg r_unq_8)
  (.cond (.t 51) (.seq (.reg r_unq_9)
  .ret)
  .skip))
  (.seq (.reg r_unq_10)
  (.seq (.seq (.reg r_unq_11)
  (.cond (.t 66) (.seq (.reg r_unq_12)
  .ret)
  .skip))
  (.seq (.reg r_unq_13)
  (.reg r_unq_14)))))))
  (.reg r_unq_15)))
def r_unq_17 : Reg := ⟨[], [⟨(.mv (.t 4)), (some 73), none, [74], []⟩, ⟨(.call 1 [(.t 73)]), (some 74), none, [], []⟩, ⟨(.mv (.t 4)), (some 75), none, [], []⟩, ⟨(.len false (.t 75)), (some 76), none, [], []⟩, ⟨(.bin .gtr (.t 76) (.c (.int .i64 0))), (some 77), none, [], []⟩, ⟨(.mv (.t 74)), (some 2), none, [], []⟩, ⟨(.mv (.t 77)), (some 3), none, [], []⟩], [74], [], false⟩
def ir_unq : IR := (.seq (.reg r_unq_0)
  (.seq (.seq (.reg r_unq_1)
  (.cond (.t 8) (.seq (.reg r_unq_2)
  .ret)
  .skip))
  (.seq (.reg r_unq_3)
  (.seq (.seq (.reg r_unq_4)
  (.block 0 (.loop r_unq_l16)))
  (.seq (.reg r_unq_17)
  .ret)))))
def res_unq : List RDesc := [(.tmp 2), (.tmp 3)]
theorem e_unq_0 (C : FuncId → List AV → AV → Prop) (σ : St) (K : St → Prop) : runReg C r_unq_0 σ K = runOps C [⟨(.mv (.c (.str ⟨#[]⟩))), (some 2), none, [], []⟩, ⟨(.mv (.c (.bool false))), (some 3), none, [], []⟩] (σ.kills []) K := rfl
theorem e_unq_1 (C : FuncId → List AV → AV → Prop) (σ : St) (K : St → Prop) : runReg C r_unq_1 σ K = runOps C [⟨(.mv (.t 0)), (some 7), none, [], []⟩, ⟨(.bin .eql (.t 7) (.c (.str ⟨#[45]⟩))), (some 8), none, [], []⟩] (σ.kills []) K := rfl
theorem e_unq_2 (C : FuncId → List AV → AV → Prop) (σ : St) (K : St → Prop) : runReg C r_unq_2 σ K = runOps C [⟨(.mv (.c (.str ⟨#[]⟩))), (some 2), none, [], []⟩, ⟨(.mv (.c (.bool true))), (some 3), none, [], []⟩] (σ.kills []) K := rfl
theorem e_unq_3 (C : FuncId → List AV → AV → Prop) (σ : St) (K : St → Prop) : runReg C r_unq_3 σ K = runOps C [⟨(.mknil 1 5), (some 4), none, [], []⟩] (σ.kills [4]) K := rfl
theorem e_unq_4 (C : FuncId → List AV → AV → Prop) (σ : St) (K : St → Prop) : runReg C r_unq_4 σ K = runOps C [⟨(.mv (.c (.int .i64 0))), (some 5), none, [], []⟩] (σ.kills []) K := rfl
theorem e_unq_5 (C : FuncId → List AV → AV → Prop) (σ : St) (K : St → Prop) : runReg C r_unq_5 σ K = runOps C [⟨(.mv (.t 5)), (some 9), none, [], []⟩, ⟨(.mv (.t 0)), (some 10), none, [], []⟩, ⟨(.len true (.t 10)), (some 11), none, [], []⟩, ⟨(.bin .lss (.t 9) (.t 11)), (some 12), none, [], []⟩] (σ.kills []) K := rfl
theorem e_unq_6 (C : FuncId → List AV → AV → Prop) (σ : St) (K : St → Prop) : runReg C r_unq_6 σ K = runOps C [⟨(.mv (.t 0)), (some 15), none, [18], []⟩, ⟨(.mv (.t 5)), (some 16), none, [18], []⟩, ⟨(.idx (.t 15) (.t 16)), (some 17), none, [18], []⟩, ⟨(.callv (.c (.clo 102 [] [])) [(.t 17)]), (some 18), none, [], []⟩] (σ.kills [18]) K := rfl
theorem e_unq_7 (C : FuncId → List AV → AV → Prop) (σ : St) (K : St → Prop) : runReg C r_unq_7 σ K = runOps C [⟨(.mv (.t 4)), (some 19), none, [23], []⟩, ⟨(.mv (.t 0)), (some 20), none, [23], []⟩, ⟨(.mv (.t 5)), (some 21), none, [23], []⟩, ⟨(.idx (.t 20) (.t 21)), (some 22), none, [23], []⟩, ⟨(.bsl 1 5 [(.t 22)]), (some 23), none, [], []⟩, ⟨(.append 1 5 1 (.t 19) (.t 23)), (some 24), none, [], []⟩, ⟨(.mv (.t 24)), (some 4), none, [], []⟩] (σ.kills [23]) K := rfl
theorem e_unq_8 (C : FuncId → List AV → AV → Prop) (σ : St) (K : St → Prop) : runReg C r_unq_8 σ K = runOps C [⟨(.mv (.t 0)), (some 25), none, [41, 49], []⟩, ⟨(.mv (.t 5)), (some 26), none, [41, 49], []⟩, ⟨(.idx (.t 25) (.t 26)), (some 27), none, [41, 49], []⟩, ⟨(.bin .neq (.t 27) (.c (.int .u8 37))), (some 28), none, [41, 49], []⟩, ⟨(.mv (.t 28)), (some 29), none, [41, 49], []⟩, ⟨(.mv (.t 0)), (some 30), (some (29, false)), [41, 49], []⟩, ⟨(.len true (.t 30)), (some 31), (some (29, false)), [41, 49], []⟩, ⟨(.mv (.t 5)), (some 32), (some (29, false)), [41, 49], []⟩, ⟨(.bin .sub (.t 31) (.t 32)), (some 33), (some (29, false)), [41, 49], []⟩, ⟨(.bin .lss (.t 33) (.c (.int .i64 3))), (some 34), (some (29, false)), [41, 49], []⟩, ⟨(.pick (.t 29) (.c (.bool true)) (.t 34)), (some 35), none, [41, 49], []⟩, ⟨(.mv (.t 35)), (some 36), none, [41, 49], []⟩, ⟨(.mv (.t 0)), (some 37), (some (36, false)), [41, 49], []⟩, ⟨(.mv (.t 5)), (some 38), (some (36, false)), [41, 49], []⟩, ⟨(.bin .add (.t 38) (.c (.int .i64 1))), (some 39), (some (36, false)), [41, 49], []⟩, ⟨(.idx (.t 37) (.t 39)), (some 40), (some (36, false)), [41, 49], []⟩, ⟨(.callv (.c (.clo 139 [] [])) [(.t 40)]), (some 41), (some (36, false)), [49], []⟩, ⟨(.bin .lss (.t 41) (.c (.int .i64 0))), (some 42), (some (36, false)), [49], []⟩, ⟨(.pick (.t 36) (.c (.bool true)) (.t 42)), (some 43), none, [49], []⟩, ⟨(.mv (.t 43)), (some 44), none, [49], []⟩, ⟨(.mv (.t 0)), (some 45), (some (44, false)), [49], []⟩, ⟨(.mv (.t 5)), (some 46), (some (44, false)), [49], []⟩, ⟨(.bin .add (.t 46) (.c (.int .i64 2))), (some 47), (some (44, false)), [49], []⟩, ⟨(.idx (.t 45) (.t 47)), (some 48), (some (44, false)), [49], []⟩, ⟨(.callv (.c (.clo 139 [] [])) [(.t 48)]), (some 49), (some (44, false)), [], []⟩, ⟨(.bin .lss (.t 49) (.c (.int .i64 0))), (some 50), (some (44, false)), [], []⟩, ⟨(.pick (.t 44) (.c (.bool true)) (.t 50)), (some 51), none, [], []⟩] (σ.kills [41, 49]) K := rfl
theorem e_unq_9 (C : FuncId → List AV → AV → Prop) (σ : St) (K : St → Prop) : runReg C r_unq_9 σ K = runOps C [⟨(.mv (.c (.str ⟨#[]⟩))), (some 2), none, [], []⟩, ⟨(.mv (.c (.bool false))), (some 3), none, [], []⟩] (σ.kills []) K := rfl
theorem e_unq_10 (C : FuncId → List AV → AV → Prop) (σ : St) (K : St → Prop) : runReg C r_unq_10 σ K = runHead C [] [⟨(.bin .or (.t 57) (.t 62)), (some 63), none, [], []⟩, ⟨(.conv .u8 (.t 63)), (some 64), none, [], []⟩, ⟨(.mv (.t 64)), (some 6), none, [], []⟩] [⟨(.mv (.t 0)), (some 52), none, [56, 57, 62], []⟩, ⟨(.mv (.t 5)), (some 53), none, [56, 57, 62], []⟩, ⟨(.bin .add (.t 53) (.c (.int .i64 1))), (some 54), none, [56, 57, 62], []⟩, ⟨(.idx (.t 52) (.t 54)), (some 55), none, [56, 57, 62], []⟩, ⟨(.callv (.c (.clo 139 [] [])) [(.t 55)]), (some 56), none, [57, 62], []⟩, ⟨(.call 3 [(.t 56), (.c (.int .u64 4))]), (some 57), none, [62], []⟩, ⟨(.mv (.t 0)), (some 58), none, [56, 57, 62], []⟩, ⟨(.mv (.t 5)), (some 59), none, [56, 57, 62], []⟩, ⟨(.bin .add (.t 59) (.c (.int .i64 2))), (some 60), none, [56, 57, 62], []⟩, ⟨(.idx (.t 58) (.t 60)), (some 61), none, [56, 57, 62], []⟩, ⟨(.callv (.c (.clo 139 [] [])) [(.t 61)]), (some 62), none, [57], []⟩] (σ.kills [56, 57, 62]) K := rfl
theorem e_unq_11 (C : FuncId → List AV → AV → Prop) (σ : St) (K : St → Prop) : runReg C r_unq_11 σ K = runOps C [⟨(.mv (.t 6)), (some 65), none, [66], []⟩, ⟨(.callv (.c (.clo 102 [] [])) [(.t 65)]), (some 66), none, [], []⟩] (σ.kills [66]) K := rfl
theorem e_unq_12 (C : FuncId → List AV → AV → Prop) (σ : St) (K : St → Prop) : runReg C r_unq_12 σ K = runOps C [⟨(.mv (.c (.str ⟨#[]⟩))), (some 2), none, [], []⟩, ⟨(.mv (.c (.bool false))), (some 3), none, [], []⟩] (σ.kills []) K := rfl
theorem e_unq_13 (C : FuncId → List AV → AV → Prop) (σ : St) (K : St → Prop) : runReg C r_unq_13 σ K = runOps C [⟨(.mv (.t 4)), (some 67), none, [69], []⟩, ⟨(.mv (.t 6)), (some 68), none, [69], []⟩, ⟨(.bsl 1 5 [(.t 68)]), (some 69), none, [], []⟩, ⟨(.append 1 5 1 (.t 67) (.t 69)), (some 70), none, [], []⟩, ⟨(.mv (.t 70)), (some 4), none, [], []⟩] (σ.kills [69]) K := rfl
theorem e_unq_14 (C : FuncId → List AV → AV → Prop) (σ : St) (K : St → Prop) : runReg C r_unq_14 σ K = runOps C [⟨(.mv (.t 5)), (some 71), none, [], []⟩, ⟨(.bin .add (.t 71) (.c (.int .i64 2))), (some 72), none, [], []⟩, ⟨(.mv (.t 72)), (some 5), none, [], []⟩] (σ.kills []) K := rfl
theorem e_unq_15 (C : FuncId → List AV → AV → Prop) (σ : St) (K : St → Prop) : runReg C r_unq_15 σ K = runOps C [⟨(.mv (.t 5)), (some 13), none, [], []⟩, ⟨(.bin .add (.t 13) (.c (.int .i64 1))), (some 14), none, [], []⟩, ⟨(.mv (.t 14)), (some 5), none, [], []⟩] (σ.kills []) K := rfl
theorem e_unq_17 (C : FuncId → List AV → AV → Prop) (σ : St) (K : St → Prop) : runReg C r_unq_17 σ K = runOps C [⟨(.mv (.t 4)), (some 73), none, [74], []⟩, ⟨(.call 1 [(.t 73)]), (some 74), none, [], []⟩, ⟨(.mv (.t 4)), (some 75), none, [], []⟩, ⟨(.len false (.t 75)), (some 76), none, [], []⟩, ⟨(.bin .gtr (.t 76) (.c (.int .i64 0))), (some 77), none, [], []⟩, ⟨(.mv (.t 74)), (some 2), none, [], []⟩, ⟨(.mv (.t 77)), (some 3), none, [], []⟩] (σ.kills [74]) K := rfl
theorem fn_unq {args : List AV} {r : AV} (ha : args.length.ble Tryd.f111.ntmps = true) (h : run (AFn Tryd.prog) ir_unq (endQ res_unq r) (initSt args)) : AFn Tryd.prog 111 args r :=
  AFn.of_code (hint := fun _ => []) (c := Tryd.f111.body.getD .skip) (by kernel_rfl) (by kernel_rfl) Tryd.func111 (by kernel_rfl) (by kernel_rfl) (by kernel_rfl) (of_decide_eq_true (by kernel_rfl)) (Nat.le_of_ble_eq_true ha) (Nat.le_of_ble_eq_true (by kernel_rfl)) (run_ok h)

/-! ### percolate/pack.Undec -/
def r_undec_0 : Reg := ⟨[], [⟨(.mv (.c (.int .i64 0))), (some 2), none, [], []⟩, ⟨(.mv (.c (.bool false))), (some 3), none, [], []⟩], [], [], false⟩
def r_undec_1 : Reg := ⟨[], [⟨(.mv (.t 0)), (some 7), none, [], []⟩, ⟨(.bin .eql (.t 7) (.c (.str ⟨#[]⟩))), (some 8), none, [], []⟩, ⟨(.mv (.t 8)), (some 9), none, [], []⟩, ⟨(.mv (.t 0)), (some 10), (some (9, false)), [], []⟩, ⟨(.len true (.t 10)), (some 11), (some (9, false)), [], []⟩, ⟨(.bin .gtr (.t 11) (.c (.int .i64 9))), (some 12), (some (9, false)), [], []⟩, ⟨(.pick (.t 9) (.c (.bool true)) (.t 12)), (some 13), none, [], []⟩, ⟨(.mv (.t 13)), (some 14), none, [], []⟩, ⟨(.mv (.t 0)), (some 15), (some (14, false)), [], []⟩, ⟨(.idx (.t 15) (.c (.int .i64 0))), (some 16), (some (14, false)), [], []⟩, ⟨(.bin .eql (.t 16) (.c (.int .u8 48))), (some 17), (some (14, false)), [], []⟩, ⟨(.mv (.t 17)), (some 18), (some (14, false)), [], []⟩, ⟨(.mv (.t 0)), (some 19), (some (18, true)), [], []⟩, ⟨(.len true (.t 19)), (some 20), (some (18, true)), [], []⟩, ⟨(.bin .gtr (.t 20) (.c (.int .i64 1))), (some 21), (some (18, true)), [], []⟩, ⟨(.pick (.t 18) (.t 21) (.c (.bool false))), (some 22), (some (14, false)), [], []⟩, ⟨(.pick (.t 14) (.c (.bool true)) (.t 22)), (some 23), none, [], []⟩], [], [], false⟩
def r_undec_2 : Reg := ⟨[], [⟨(.mv (.c (.int .i64 0))), (some 2), none, [], []⟩, ⟨(.mv (.c (.bool false))), (some 3), none, [], []⟩], [], [], false⟩
def r_undec_3 : Reg := ⟨[], [⟨(.mv (.c (.int .i64 0))), (some 4), none, [], []⟩], [], [], false⟩
def r_undec_4 : Reg := ⟨[], [⟨(.mv (.t 0)), (some 24), none, [25], []⟩, ⟨(.call 0 [(.t 24)]), (some 25), none, [], []⟩, ⟨(.len false (.t 25)), (some 26), none, [], []⟩, ⟨(.mv (.c (.int .i64 0))), (some 27), none, [], []⟩], [25], [], false⟩
def r_undec_5 : Reg := ⟨[], [⟨(.bin .lss (.t 27) (.t 26)), (some 28), none, [], []⟩], [], [], false⟩
def r_undec_6 : Reg := ⟨[], [⟨(.iaddr 1 (.t 25) (.t 27)), (some 29), none, [], []⟩, ⟨(.load 1 false (.t 29)), (some 30), none, [], []⟩, ⟨(.mv (.t 30)), (some 6), none, [], []⟩], [], [], false⟩
def r_undec_7 : Reg := ⟨[], [⟨(.mv (.t 6)), (some 31), none, [], []⟩, ⟨(.bin .lss (.t 31) (.c (.int .u8 48))), (some 32), none, [], []⟩, ⟨(.mv (.t 32)), (some 33), none, [], []⟩, ⟨(.mv (.t 6)), (some 34), (some (33, false)), [], []⟩, ⟨(.bin .gtr (.t 34) (.c (.int .u8 57))), (some 35), (some (33, false)), [], []⟩, ⟨(.pick (.t 33) (.c (.bool true)) (.t 35)), (some 36), none, [], []⟩], [], [], false⟩
def r_undec_8 : Reg := ⟨[], [⟨(.mv (.c (.int .i64 0))), (some 2), none, [], []⟩, ⟨(.mv (.c (.bool false))), (some 3), none, [], []⟩], [], [], false⟩
def r_undec_9 : Reg := ⟨[], [⟨(.mv (.t 4)), (some 37), none, [], []⟩, ⟨(.bin .mul (.c (.int .i64 10)) (.t 37)), (some 38), none, [], []⟩, ⟨(.mv (.t 6)), (some 39), none, [], []⟩, ⟨(.bin .sub (.t 39) (.c (.int .u8 48))), (some 40), none, [], []⟩, ⟨(.conv .i64 (.t 40)), (some 41), none, [], []⟩, ⟨(.bin .add (.t 38) (.t 41)), (some 42), none, [], []⟩, ⟨(.mv (.t 42)), (some 4), none, [], []⟩], [], [], false⟩
def r_undec_10 : Reg := ⟨[], [⟨(.bin .add (.t 27) (.c (.int .i64 1))), (some 43), none, [], []⟩, ⟨(.mv (.t 43)), (some 27), none, [], []⟩], [], [], false⟩
def r_undec_l11 : IR := (.seq (.reg r_undec_5)
  (.seq (.cond (.t 28) .skip
  (.exit 0))
  (.seq (.block 1 (.seq (.reg r_undec_6)
  (.seq (.seq (.reg r_undec_7)
  (.cond (.t 36) (.seq (.reg r_undec_8)
  .ret)
  .skip))
  (.reg r_undec_9))))
  (.reg r_undec_10))))
def r_undec_12 : Reg := ⟨[], [⟨(.mv (.t 4)), (some 44), none, [], []⟩, ⟨(.mv (.t 44)), (some 2), none, [], []⟩, ⟨(.mv (.c (.bool true))), (some 3), none, [], []⟩], [], [], false⟩
def ir_undec : IR := (.seq (.reg r_undec_0)
  (.seq (.seq (.reg r_undec_1)
  (.cond (.t 23) (.seq (.reg r_undec_2)
  .ret)
  .skip))
  (.seq (.reg r_undec_3)
  (.seq (.seq (.reg r_undec_4)
  (.block 0 (.loop r_undec_l11)))
  (.seq (.reg r_undec_12)
  .ret)))))
def res_undec : List RDesc := [(.tmp 2), (.tmp 3)]
theorem e_undec_0 (C : FuncId → List AV → AV → Prop) (σ : St) (K : St → Prop) : runReg C r_undec_0 σ K = runOps C [⟨(.mv (.c (.int .i64 0))), (some 2), none, [], []⟩, ⟨(.mv (.c (.bool false))), (some 3), none, [], []⟩] (σ.kills []) K := rfl
theorem e_undec_1 (C : FuncId → List AV → AV → Prop) (σ : St) (K : St → Prop) : runReg C r_undec_1 σ K = runOps C [⟨(.mv (.t 0)), (some 7), none, [], []⟩, ⟨(.bin .eql (.t 7) (.c (.str ⟨#[]⟩))), (some 8), none, [], []⟩, ⟨(.mv (.t 8)), (some 9), none, [], []⟩, ⟨(.mv (.t 0)), (some 10), (some (9, false)), [], []⟩, ⟨(.len true (.t 10)), (some 11), (some (9, false)), [], []⟩, ⟨(.bin .gtr (.t 11) (.c (.int .i64 9))), (some 12), (some (9, false)), [], []⟩, ⟨(.pick (.t 9) (.c (.bool true)) (.t 12)), (some 13), none, [], []⟩, ⟨(.mv (.t 13)), (some 14), none, [], []⟩, ⟨(.mv (.t 0)), (some 15), (some (14, false)), [], []⟩, ⟨(.idx (.t 15) (.c (.int .i64 0))), (some 16), (some (14, false)), [], []⟩, ⟨(.bin .eql (.t 16) (.c (.int .u8 48))), (some 17), (some (14, false)), [], []⟩, ⟨(.mv (.t 17)), (some 18), (some (14, false)), [], []⟩, ⟨(.mv (.t 0)), (some 19), (some (18, true)), [], []⟩, ⟨(.len true (.t 19)), (some 20), (some (18, true)), [], []⟩, ⟨(.bin .gtr (.t 20) (.c (.int .i64 1))), (some 21), (some (18, true)), [], []⟩, ⟨(.pick (.t 18) (.t 21) (.c (.bool false))), (some 22), (some (14, false)), [], []⟩, ⟨(.pick (.t 14) (.c (.bool true)) (.t 22)), (some 23), none, [], []⟩] (σ.kills []) K := rfl
theorem e_undec_2 (C : FuncId → List AV → AV → Prop) (σ : St) (K : St → Prop) : runReg C r_undec_2 σ K = runOps C [⟨(.mv (.c (.int .i64 0))), (some 2), none, [], []⟩, ⟨(.mv (.c (.bool false))), (some 3), none, [], []⟩] (σ.kills []) K := rfl
theorem e_undec_3 (C : FuncId → List AV → AV → Prop) (σ : St) (K : St → Prop) : runReg C r_undec_3 σ K = runOps C [⟨(.mv (.c (.int .i64 0))), (some 4), none, [], []⟩] (σ.kills []) K := rfl
theorem e_undec_4 (C : FuncId → List AV → AV → Prop) (σ : St) (K : St → Prop) : runReg C r_undec_4 σ K = runOps C [⟨(.mv (.t 0)), (some 24), none, [25], []⟩, ⟨(.call 0 [(.t 24)]), (some 25), none, [], []⟩, ⟨(.len false (.t 25)), (some 26), none, [], []⟩, ⟨(.mv (.c (.int .i64 0))), (some 27), none, [], []⟩] (σ.kills [25]) K := rfl
theorem e_undec_5 (C : FuncId → List AV → AV → Prop) (σ : St) (K : St → Prop) : runReg C r_undec_5 σ K = runOps C [⟨(.bin .lss (.t 27) (.t 26)), (some 28), none, [], []⟩] (σ.kills []) K := rfl
theorem e_undec_6 (C : FuncId → List AV → AV → Prop) (σ : St) (K : St → Prop) : runReg C r_undec_6 σ K = runOps C [⟨(.iaddr 1 (.t 25) (.t 27)), (some 29), none, [], []⟩, ⟨(.load 1 false (.t 29)), (some 30), none, [], []⟩, ⟨(.mv (.t 30)), (some 6), none, [], []⟩] (σ.kills []) K := rfl
theorem e_undec_7 (C : FuncId → List AV → AV → Prop) (σ : St) (K : St → Prop) : runReg C r_undec_7 σ K = runOps C [⟨(.mv (.t 6)), (some 31), none, [], []⟩, ⟨(.bin .lss (.t 31) (.c (.int .u8 48))), (some 32), none, [], []⟩, ⟨(.mv (.t 32)), (some 33), none, [], []⟩, ⟨(.mv (.t 6)), (some 34), (some (33, false)), [], []⟩, ⟨(.bin .gtr (.t 34) (.c (.int .u8 57))), (some 35), (some (33, false)), [], []⟩, ⟨(.pick (.t 33) (.c (.bool true)) (.t 35)), (some 36), none, [], []⟩] (σ.kills []) K := rfl
theorem e_undec_8 (C : FuncId → List AV → AV → Prop) (σ : St) (K : St → Prop) : runReg C r_undec_8 σ K = runOps C [⟨(.mv (.c (.int .i64 0))), (some 2), none, [], []⟩, ⟨(.mv (.c (.bool false))), (some 3), none, [], []⟩] (σ.kills []) K := rfl
theorem e_undec_9 (C : FuncId → List AV → AV → Prop) (σ : St) (K : St → Prop) : runReg C r_undec_9 σ K = runOps C [⟨(.mv (.t 4)), (some 37), none, [], []⟩, ⟨(.bin .mul (.c (.int .i64 10)) (.t 37)), (some 38), none, [], []⟩, ⟨(.mv (.t 6)), (some 39), none, [], []⟩, ⟨(.bin .sub (.t 39) (.c (.int .u8 48))), (some 40), none, [], []⟩, ⟨(.conv .i64 (.t 40)), (some 41), none, [], []⟩, ⟨(.bin .add (.t 38) (.t 41)), (some 42), none, [], []⟩, ⟨(.mv (.t 42)), (some 4), none, [], []⟩] (σ.kills []) K := rfl
theorem e_undec_10 (C : FuncId → List AV → AV → Prop) (σ : St) (K : St → Prop) : runReg C r_undec_10 σ K = runOps C [⟨(.bin .add (.t 27) (.c (.int .i64 1))), (some 43), none, [], []⟩, ⟨(.mv (.t 43)), (some 27), none, [], []⟩] (σ.kills []) K := rfl
theorem e_undec_12 (C : FuncId → List AV → AV → Prop) (σ : St) (K : St → Prop) : runReg C r_undec_12 σ K = runOps C [⟨(.mv (.t 4)), (some 44), none, [], []⟩, ⟨(.mv (.t 44)), (some 2), none, [], []⟩, ⟨(.mv (.c (.bool true))), (some 3), none, [], []⟩] (σ.kills []) K := rfl
theorem fn_undec {args : List AV} {r : AV} (ha : args.length.ble Tryd.f69.ntmps = true) (h : run (AFn Tryd.prog) ir_undec (endQ res_undec r) (initSt args)) : AFn Tryd.prog 69 args r :=
  AFn.of_code (hint := fun _ => []) (c := Tryd.f69.body.getD .skip) (by kernel_rfl) (by kernel_rfl) Tryd.func69 (by kernel_rfl) (by kernel_rfl) (by kernel_rfl) (of_decide_eq_true (by kernel_rfl)) (Nat.le_of_ble_eq_true ha) (Nat.le_of_ble_eq_true (by kernel_rfl)) (run_ok h)

attribute [local go_sem ↓] ir_unq
attribute [local go_sem] res_unq e_unq_0 e_unq_1 e_unq_2 e_unq_3 e_unq_4 e_unq_5 e_unq_6 e_unq_7 e_unq_8 e_unq_9 e_unq_10 e_unq_11 e_unq_12 e_unq_13 e_unq_14 e_unq_15 e_unq_17
attribute [local go_sem ↓] ir_undec
attribute [local go_sem] res_undec e_undec_0 e_undec_1 e_undec_2 e_undec_3 e_undec_4 e_undec_5 e_undec_6 e_undec_7 e_undec_8 e_undec_9 e_undec_10 e_undec_12

theorem digF_le : ∀ c : UInt8, digF c < 16 := by
  have h : ∀ n : Fin 256, digF (UInt8.ofFin n) < 16 := by decide +kernel
  intro c
  have := h c.toFin
  simpa using this
theorem or_hex : ∀ a b : Fin 16, IntKind.i64.wrap (orI .i64 ((a.val : Int) * 16) (b.val : Int)) = (a.val : Int) * 16 + (b.val : Int) := by decide +kernel
def hexV (a b : UInt8) : UInt8 := UInt8.ofNat (digF a * 16 + digF b).toNat
def uqGo (s : List UInt8) : Nat → Nat → List UInt8 → Option (List UInt8)
  | 0, _, out => some out
  | f + 1, i, out => match s[i]? with
    | none => some out
    | some c => if plainB c then uqGo s f (i + 1) (out ++ [c]) else if c ≠ 37 ∨ s.length - i < 3 then none else match s[i + 1]?, s[i + 2]? with
      | some a, some b => if digF a < 0 ∨ digF b < 0 then none else if plainB (hexV a b) then none else uqGo s f (i + 3) (out ++ [hexV a b])
      | _, _ => none
def uqAns : Option (List UInt8) → AV
  | some out => .tup [.str ⟨out.toArray⟩, .bool (decide (0 < (out.length : Int)))]
  | none => .tup [.str ⟨#[]⟩, .bool false]
def uqF (s : ByteArray) : AV := if s.toList == (ByteArray.mk #[45]).toList then .tup [.str ⟨#[]⟩, .bool true] else uqAns (uqGo s.data.toList s.size 0 [])
def uqInv (s : ByteArray) (r : Option (List UInt8)) (k : Nat) (σ : St) : Prop :=
  ∃ (i : Nat) (out : List UInt8), i ≤ s.size + 2 ∧ out.length ≤ i ∧ s.size ≤ i + k ∧ σ.T 0 = .str s ∧ σ.T 5 = .int .i64 i ∧ σ.T 4 = .rs 4 0 out.length ∧ σ.H 4 = some ⟨1, 5, out.map bz, 0⟩ ∧ uqGo s.data.toList k i out = r
theorem bz_all (l : List UInt8) : (l.map bz).all AV.byteB = true := by
  rw [List.all_map]
  exact List.all_eq_true.2 fun c _ => byteB_bz c
theorem bz_back (l : List UInt8) : (l.map bz).map AV.toB = l := by
  rw [List.map_map]
  conv => rhs; rw [← List.map_id l]
  exact List.map_congr_left fun c _ => toB_bz c
theorem unq_ok (s : ByteArray) (hs : s.size ≤ 1000000) : AFn Tryd.prog 111 [.str s] (uqF s) := by
  have hL : s.data.toList.length = s.size := by rw [Array.length_toList]; rfl
  refine fn_unq rfl ?_
  unfold uqF
  cases he : (s.toList == (ByteArray.mk #[45]).toList) with
  | true =>
    rw [if_pos rfl]
    simp (maxSteps := 4000000) only [go_sem, ↓reduceIte, reduceCtorEq, Nat.reduceEqDiff, Nat.reduceBEq, Nat.reduceAdd, Nat.reduceSub, Nat.reduceMul, Nat.reduceLT, Nat.reduceLeDiff, Nat.reduceBNe, Int.reduceBEq, Int.reduceBNe, Int.reduceLT, Int.reduceLE, he]
  | false =>
    rw [if_neg (by simp)]
    simp (maxSteps := 4000000) only [go_sem, ↓reduceIte, reduceCtorEq, Nat.reduceEqDiff, Nat.reduceBEq, Nat.reduceAdd, Nat.reduceSub, Nat.reduceMul, Nat.reduceLT, Nat.reduceLeDiff, Nat.reduceBNe, Int.reduceBEq, Int.reduceBNe, Int.reduceLT, Int.reduceLE, he]
    refine run_loop (uqInv s (uqGo s.data.toList s.size 0 [])) (k := s.size) ⟨0, [], by omega, Nat.le_refl _, by omega, ?_, ?_, ?_, ?_, rfl⟩ ?_
    · simp (maxSteps := 4000000) only [go_sem, ↓reduceIte, reduceCtorEq, Nat.reduceEqDiff, Nat.reduceBEq, Nat.reduceAdd, Nat.reduceSub, Nat.reduceMul, Nat.reduceLT, Nat.reduceLeDiff, Nat.reduceBNe, Int.reduceBEq, Int.reduceBNe, Int.reduceLT, Int.reduceLE]
    · simp (maxSteps := 4000000) only [go_sem, ↓reduceIte, reduceCtorEq, Nat.reduceEqDiff, Nat.reduceBEq, Nat.reduceAdd, Nat.reduceSub, Nat.reduceMul, Nat.reduceLT, Nat.reduceLeDiff, Nat.reduceBNe, Int.reduceBEq, Int.reduceBNe, Int.reduceLT, Int.reduceLE]
      rfl
    · simp (maxSteps := 4000000) only [go_sem, ↓reduceIte, reduceCtorEq, Nat.reduceEqDiff, Nat.reduceBEq, Nat.reduceAdd, Nat.reduceSub, Nat.reduceMul, Nat.reduceLT, Nat.reduceLeDiff, Nat.reduceBNe, Int.reduceBEq, Int.reduceBNe, Int.reduceLT, Int.reduceLE]
    · simp (maxSteps := 4000000) only [go_sem, ↓reduceIte, reduceCtorEq, Nat.reduceEqDiff, Nat.reduceBEq, Nat.reduceAdd, Nat.reduceSub, Nat.reduceMul, Nat.reduceLT, Nat.reduceLeDiff, Nat.reduceBNe, Int.reduceBEq, Int.reduceBNe, Int.reduceLT, Int.reduceLE]
    rintro k σ ⟨i, out, hi, ho, hk, t0, t5, t4, o4, hr⟩
    simp only [r_unq_l16]
    have hto : (out.map bz).take out.length = out.map bz := List.take_of_length_le (by rw [List.length_map]; exact Nat.le_refl _)
    have hw1 : IntKind.i64.wrap ((i : Int) + 1) = ((i + 1 : Nat) : Int) := by rw [IntWalk.i64_in _ (by omega)]; rfl
    by_cases hlt : i < s.size
    · have hlt' : (i : Int) < (s.size : Int) := by omega
      obtain ⟨f, rfl⟩ : ∃ f, k = f + 1 := ⟨k - 1, by omega⟩
      have hli : i < s.data.toList.length := by omega
      obtain ⟨c, hc⟩ : ∃ c, s.data.toList[i]? = some c := ⟨_, List.getElem?_eq_getElem hli⟩
      have hg : s.data.toList.getD i 0 = c := by rw [List.getD_eq_getElem?_getD, hc]; rfl
      rw [uqGo, hc] at hr
      simp only at hr
      simp (maxSteps := 4000000) only [go_sem, ↓reduceIte, reduceCtorEq, Nat.reduceEqDiff, Nat.reduceBEq, Nat.reduceAdd, Nat.reduceSub, Nat.reduceMul, Nat.reduceLT, Nat.reduceLeDiff, Nat.reduceBNe, Int.reduceBEq, Int.reduceBNe, Int.reduceLT, Int.reduceLE, t0, t5, t4, o4, hlt', hg, Int.toNat_natCast]
      (repeat refine And.intro (by omega) ?_)
      (first | refine calling (plain_ok c) ?_ | refine callingH (plain_ok c) ?_)
      cases hp : plainB c with
      | true =>
        rw [hp, if_pos rfl] at hr
        simp (maxSteps := 4000000) only [go_sem, ↓reduceIte, reduceCtorEq, Nat.reduceEqDiff, Nat.reduceBEq, Nat.reduceAdd, Nat.reduceSub, Nat.reduceMul, Nat.reduceLT, Nat.reduceLeDiff, Nat.reduceBNe, Int.reduceBEq, Int.reduceBNe, Int.reduceLT, Int.reduceLE, t0, t5, t4, o4, hp, hg, hw1, Int.toNat_natCast, List.length_map]
        (repeat refine And.intro (by omega) ?_)
        refine ⟨⟨⟨by omega, by omega⟩, fun d hd => by rcases hd with rfl | hd; exact ⟨rfl, rfl⟩; cases hd⟩, f, by omega, i + 1, out ++ [c], by omega, by rw [List.length_append]; simp; omega, by omega, ?_, ?_, ?_, ?_, hr⟩ <;>
          (simp (maxSteps := 4000000) only [go_sem, ↓reduceIte, reduceCtorEq, Nat.reduceEqDiff, Nat.reduceBEq, Nat.reduceAdd, Nat.reduceSub, Nat.reduceMul, Nat.reduceLT, Nat.reduceLeDiff, Nat.reduceBNe, Int.reduceBEq, Int.reduceBNe, Int.reduceLT, Int.reduceLE, t0, t5, t4, o4, hto, List.length_append, List.map_append])
      | false =>
        rw [hp, if_neg (by simp)] at hr
        by_cases h37 : c = 37
        · subst h37
          have hc37 : ((((37 : UInt8).toNat : Nat) : Int) != 37) = false := by decide
          have hwl : IntKind.i64.wrap ((s.size : Int) - (i : Int)) = (s.size : Int) - (i : Int) := IntWalk.i64_in _ (by omega)
          by_cases h3 : s.size - i < 3
          · rw [if_pos (.inr (by rw [hL]; exact h3))] at hr
            have h3' : (s.size : Int) - (i : Int) < 3 := by omega
            simp (maxSteps := 4000000) only [go_sem, ↓reduceIte, reduceCtorEq, Nat.reduceEqDiff, Nat.reduceBEq, Nat.reduceAdd, Nat.reduceSub, Nat.reduceMul, Nat.reduceLT, Nat.reduceLeDiff, Nat.reduceBNe, Int.reduceBEq, Int.reduceBNe, Int.reduceLT, Int.reduceLE, t0, t5, t4, o4, hg, hc37, hwl, h3', Int.toNat_natCast]
            (repeat refine And.intro (by omega) ?_)
            simp only [← hr, uqAns]
          · rw [if_neg (by rw [hL]; rintro (h | h); exact h rfl; omega)] at hr
            have h3' : ¬ (s.size : Int) - (i : Int) < 3 := by omega
            obtain ⟨a, ha⟩ : ∃ a, s.data.toList[i + 1]? = some a := ⟨_, List.getElem?_eq_getElem (by omega)⟩
            obtain ⟨b, hb⟩ : ∃ b, s.data.toList[i + 2]? = some b := ⟨_, List.getElem?_eq_getElem (by omega)⟩
            have hga : s.data.toList.getD (i + 1) 0 = a := by rw [List.getD_eq_getElem?_getD, ha]; rfl
            have hgb : s.data.toList.getD (i + 2) 0 = b := by rw [List.getD_eq_getElem?_getD, hb]; rfl
            have hw2 : IntKind.i64.wrap ((i : Int) + 2) = ((i + 2 : Nat) : Int) := by rw [IntWalk.i64_in _ (by omega)]; rfl
            have hw3 : IntKind.i64.wrap (((i + 2 : Nat) : Int) + 1) = ((i + 3 : Nat) : Int) := by rw [IntWalk.i64_in _ (by omega)]; rfl
            rw [ha, hb] at hr
            simp only at hr
            simp (maxSteps := 4000000) only [go_sem, ↓reduceIte, reduceCtorEq, Nat.reduceEqDiff, Nat.reduceBEq, Nat.reduceAdd, Nat.reduceSub, Nat.reduceMul, Nat.reduceLT, Nat.reduceLeDiff, Nat.reduceBNe, Int.reduceBEq, Int.reduceBNe, Int.reduceLT, Int.reduceLE, t0, t5, t4, o4, hg, hc37, hwl, h3', hw1, hga, Int.toNat_natCast]
            (repeat refine And.intro (by omega) ?_)
            (first | refine calling (digit_ok a) ?_ | refine callingH (digit_ok a) ?_)
            by_cases hda : digF a < 0
            · rw [if_pos (.inl hda)] at hr
              simp (maxSteps := 4000000) only [go_sem, ↓reduceIte, reduceCtorEq, Nat.reduceEqDiff, Nat.reduceBEq, Nat.reduceAdd, Nat.reduceSub, Nat.reduceMul, Nat.reduceLT, Nat.reduceLeDiff, Nat.reduceBNe, Int.reduceBEq, Int.reduceBNe, Int.reduceLT, Int.reduceLE, hda]
              simp only [← hr, uqAns]
            · simp (maxSteps := 4000000) only [go_sem, ↓reduceIte, reduceCtorEq, Nat.reduceEqDiff, Nat.reduceBEq, Nat.reduceAdd, Nat.reduceSub, Nat.reduceMul, Nat.reduceLT, Nat.reduceLeDiff, Nat.reduceBNe, Int.reduceBEq, Int.reduceBNe, Int.reduceLT, Int.reduceLE, t0, t5, hda, hw2, hgb, Int.toNat_natCast]
              (repeat refine And.intro (by omega) ?_)
              (first | refine calling (digit_ok b) ?_ | refine callingH (digit_ok b) ?_)
              by_cases hdb : digF b < 0
              · rw [if_pos (.inr hdb)] at hr
                simp (maxSteps := 4000000) only [go_sem, ↓reduceIte, reduceCtorEq, Nat.reduceEqDiff, Nat.reduceBEq, Nat.reduceAdd, Nat.reduceSub, Nat.reduceMul, Nat.reduceLT, Nat.reduceLeDiff, Nat.reduceBNe, Int.reduceBEq, Int.reduceBNe, Int.reduceLT, Int.reduceLE, hdb]
                simp only [← hr, uqAns]
              · rw [if_neg (by omega)] at hr
                have ba := digF_le a
                have bb := digF_le b
                have hsh : IntKind.i64.wrap (digF a * 2 ^ min (Int.toNat 4) 64) = digF a * 16 := by
                  rw [show (2 : Int) ^ min (Int.toNat 4) 64 = 16 by decide]
                  exact IntWalk.i64_in _ (by omega)
                have hor : IntKind.i64.wrap (orI .i64 (digF a * 16) (digF b)) = digF a * 16 + digF b := by
                  have := or_hex ⟨(digF a).toNat, by omega⟩ ⟨(digF b).toNat, by omega⟩
                  simp only at this
                  rwa [show (((digF a).toNat : Nat) : Int) = digF a by omega, show (((digF b).toNat : Nat) : Int) = digF b by omega] at this
                have hv : IntKind.u8.wrap (digF a * 16 + digF b) = ((hexV a b).toNat : Int) := by
                  have := wrapU8 (digF a * 16 + digF b).toNat
                  rwa [show (((digF a * 16 + digF b).toNat : Nat) : Int) = digF a * 16 + digF b by omega] at this
                simp (maxSteps := 4000000) only [go_sem, ↓reduceIte, reduceCtorEq, Nat.reduceEqDiff, Nat.reduceBEq, Nat.reduceAdd, Nat.reduceSub, Nat.reduceMul, Nat.reduceLT, Nat.reduceLeDiff, Nat.reduceBNe, Int.reduceBEq, Int.reduceBNe, Int.reduceLT, Int.reduceLE, t0, t5, hdb, hw1, hw2, hga, hgb, Int.toNat_natCast]
                (repeat refine And.intro (by omega) ?_)
                (first | refine calling (digit_ok a) ?_ | refine callingH (digit_ok a) ?_)
                simp (maxSteps := 4000000) only [go_sem, ↓reduceIte, reduceCtorEq, Nat.reduceEqDiff, Nat.reduceBEq, Nat.reduceAdd, Nat.reduceSub, Nat.reduceMul, Nat.reduceLT, Nat.reduceLeDiff, Nat.reduceBNe, Int.reduceBEq, Int.reduceBNe, Int.reduceLT, Int.reduceLE, t0, t5, hw1, hw2, hga, hgb, hsh, Int.toNat_natCast]
                (repeat refine And.intro (by omega) ?_)
                (first | refine calling (digit_ok b) ?_ | refine callingH (digit_ok b) ?_)
                simp (maxSteps := 4000000) only [go_sem, ↓reduceIte, reduceCtorEq, Nat.reduceEqDiff, Nat.reduceBEq, Nat.reduceAdd, Nat.reduceSub, Nat.reduceMul, Nat.reduceLT, Nat.reduceLeDiff, Nat.reduceBNe, Int.reduceBEq, Int.reduceBNe, Int.reduceLT, Int.reduceLE, t0, t5, hor, hv]
                (first | refine calling (plain_ok (hexV a b)) ?_ | refine callingH (plain_ok (hexV a b)) ?_)
                cases hp2 : plainB (hexV a b) with
                | true =>
                  rw [hp2, if_pos rfl] at hr
                  simp (maxSteps := 4000000) only [go_sem, ↓reduceIte, reduceCtorEq, Nat.reduceEqDiff, Nat.reduceBEq, Nat.reduceAdd, Nat.reduceSub, Nat.reduceMul, Nat.reduceLT, Nat.reduceLeDiff, Nat.reduceBNe, Int.reduceBEq, Int.reduceBNe, Int.reduceLT, Int.reduceLE, hp2]
                  simp only [← hr, uqAns]
                | false =>
                  rw [hp2, if_neg (by simp)] at hr
                  simp (maxSteps := 4000000) only [go_sem, ↓reduceIte, reduceCtorEq, Nat.reduceEqDiff, Nat.reduceBEq, Nat.reduceAdd, Nat.reduceSub, Nat.reduceMul, Nat.reduceLT, Nat.reduceLeDiff, Nat.reduceBNe, Int.reduceBEq, Int.reduceBNe, Int.reduceLT, Int.reduceLE, t0, t5, t4, o4, hw2, hw3, List.length_map]
                  (repeat refine And.intro (by omega) ?_)
                  refine ⟨⟨⟨by omega, by omega⟩, fun d hd => by rcases hd with rfl | hd; exact ⟨rfl, rfl⟩; cases hd⟩, f, by omega, i + 3, out ++ [hexV a b], by omega, by rw [List.length_append]; simp; omega, by omega, ?_, ?_, ?_, ?_, hr⟩ <;>
                    (simp (maxSteps := 4000000) only [go_sem, ↓reduceIte, reduceCtorEq, Nat.reduceEqDiff, Nat.reduceBEq, Nat.reduceAdd, Nat.reduceSub, Nat.reduceMul, Nat.reduceLT, Nat.reduceLeDiff, Nat.reduceBNe, Int.reduceBEq, Int.reduceBNe, Int.reduceLT, Int.reduceLE, t0, t5, t4, o4, hto, List.length_append, List.map_append])
        · rw [if_pos (.inl h37)] at hr
          have hc37 : (((c.toNat : Nat) : Int) != 37) = true := by
            simp only [bne_iff_ne, ne_eq]
            intro e
            exact h37 (UInt8.toNat.inj (by rw [show (37 : UInt8).toNat = 37 from rfl]; omega))
          simp (maxSteps := 4000000) only [go_sem, ↓reduceIte, reduceCtorEq, Nat.reduceEqDiff, Nat.reduceBEq, Nat.reduceAdd, Nat.reduceSub, Nat.reduceMul, Nat.reduceLT, Nat.reduceLeDiff, Nat.reduceBNe, Int.reduceBEq, Int.reduceBNe, Int.reduceLT, Int.reduceLE, t0, t5, t4, o4, hg, hc37, Int.toNat_natCast]
          (repeat refine And.intro (by omega) ?_)
          simp only [← hr, uqAns]
    · have hlt' : ¬ (i : Int) < (s.size : Int) := by omega
      have hr' : some out = uqGo s.data.toList s.size 0 [] := by
        rw [← hr]
        cases k with
        | zero => rfl
        | succ f => rw [uqGo, List.getElem?_eq_none (by omega)]
      simp (maxSteps := 4000000) only [go_sem, ↓reduceIte, reduceCtorEq, Nat.reduceEqDiff, Nat.reduceBEq, Nat.reduceAdd, Nat.reduceSub, Nat.reduceMul, Nat.reduceLT, Nat.reduceLeDiff, Nat.reduceBNe, Int.reduceBEq, Int.reduceBNe, Int.reduceLT, Int.reduceLE, t0, t5, t4, o4, hlt', hto, bz_all, bz_back, List.length_map]
      rw [← hr']; rfl

def udGo : List UInt8 → Int → Option Int
  | [], n => some n
  | c :: l, n => if (c.toNat : Int) < 48 then none else if 57 < (c.toNat : Int) then none else udGo l (10 * n + ((c.toNat : Int) - 48))
def udAns : Option Int → AV
  | some n => .tup [.int .i64 n, .bool true]
  | none => .tup [.int .i64 0, .bool false]
def udF (s : ByteArray) : AV := if s.size = 0 ∨ 9 < s.size ∨ (b0 s = 48 ∧ 1 < s.size) then .tup [.int .i64 0, .bool false] else udAns (udGo s.data.toList 0)
def udInv (s : ByteArray) (r : Option Int) (k : Nat) (σ : St) : Prop :=
  ∃ (j : Nat) (n : Int), j ≤ s.size ∧ k = s.size - j ∧ 0 ≤ n ∧ n < 10 ^ j ∧ σ.T 25 = .sl (s.data.toList.map bz) ∧ σ.T 26 = .int .i64 s.size ∧ σ.T 27 = .int .i64 j ∧ σ.T 4 = .int .i64 n ∧ udGo (s.data.toList.drop j) n = r
theorem bytes_nil {s : ByteArray} : (s.toList == (ByteArray.mk #[]).toList) = decide (s.size = 0) := by
  rw [ByteArray.toList_eq, ByteArray.toList_eq]
  have : s.size = s.data.toList.length := by rw [Array.length_toList]; rfl
  rw [this]
  cases s.data.toList with
  | nil => rfl
  | cons c l => simp
theorem pow9 : ∀ j : Fin 9, (10 : Int) ^ j.val ≤ 100000000 := by decide
theorem undec_ok (s : ByteArray) (hs : s.size ≤ 1000000) : AFn Tryd.prog 69 [.str s] (udF s) := by
  have hL : s.data.toList.length = s.size := by rw [Array.length_toList]; rfl
  have hz : Int.toNat 0 = 0 := rfl
  have hg0 : s.data.toList.getD 0 0 = b0 s := rfl
  have hb := (b0 s).toNat_lt
  refine fn_undec rfl ?_
  unfold udF
  by_cases h0 : s.size = 0
  · have he : (s.toList == (ByteArray.mk #[]).toList) = true := by rw [bytes_nil]; simpa using h0
    rw [if_pos (.inl h0)]
    simp (maxSteps := 4000000) only [go_sem, ↓reduceIte, reduceCtorEq, Nat.reduceEqDiff, Nat.reduceBEq, Nat.reduceAdd, Nat.reduceSub, Nat.reduceMul, Nat.reduceLT, Nat.reduceLeDiff, Nat.reduceBNe, Int.reduceBEq, Int.reduceBNe, Int.reduceLT, Int.reduceLE, he]
  · have he : (s.toList == (ByteArray.mk #[]).toList) = false := by rw [bytes_nil]; simpa using h0
    by_cases h9 : 9 < s.size
    · have h9' : (9 : Int) < (s.size : Int) := by omega
      rw [if_pos (.inr (.inl h9))]
      simp (maxSteps := 4000000) only [go_sem, ↓reduceIte, reduceCtorEq, Nat.reduceEqDiff, Nat.reduceBEq, Nat.reduceAdd, Nat.reduceSub, Nat.reduceMul, Nat.reduceLT, Nat.reduceLeDiff, Nat.reduceBNe, Int.reduceBEq, Int.reduceBNe, Int.reduceLT, Int.reduceLE, he, h9']
    · have h9' : ¬ (9 : Int) < (s.size : Int) := by omega
      by_cases h48 : b0 s = 48 ∧ 1 < s.size
      · have e1 : (((b0 s).toNat : Int) == 48) = true := by rw [h48.1]; rfl
        have e2 : (1 : Int) < (s.size : Int) := by omega
        rw [if_pos (.inr (.inr h48))]
        simp (maxSteps := 4000000) only [go_sem, ↓reduceIte, reduceCtorEq, Nat.reduceEqDiff, Nat.reduceBEq, Nat.reduceAdd, Nat.reduceSub, Nat.reduceMul, Nat.reduceLT, Nat.reduceLeDiff, Nat.reduceBNe, Int.reduceBEq, Int.reduceBNe, Int.reduceLT, Int.reduceLE, he, h9', hz, hg0, e1, e2]
        omega
      · rw [if_neg (by rintro (h | h | h); exact h0 h; exact h9 h; exact h48 h)]
        have go : run (AFn Tryd.prog) ir_undec (endQ res_undec (udAns (udGo s.data.toList 0))) (initSt [.str s]) := by
          have key : ∀ σ : St, σ.T 25 = .sl (s.data.toList.map bz) → σ.T 26 = .int .i64 s.size → σ.T 27 = .int .i64 0 → σ.T 4 = .int .i64 0 → awp (AFn Tryd.prog) (.loop r_undec_l11) (blockQ 0 (thenQ (run (AFn Tryd.prog) (.seq (.reg r_undec_12) .ret) (endQ [.tmp 2, .tmp 3] (udAns (udGo s.data.toList 0)))) (endQ [.tmp 2, .tmp 3] (udAns (udGo s.data.toList 0))))) σ := by
            intro σ q25 q26 q27 q4
            refine run_loop (udInv s (udGo s.data.toList 0)) (k := s.size) ⟨0, 0, by omega, by omega, by omega, by omega, q25, q26, q27, q4, rfl⟩ ?_
            rintro k σ ⟨j, n, hj, rfl, hn0, hn1, t25, t26, t27, t4, hr⟩
            simp only [r_undec_l11]
            by_cases hlt : j < s.size
            · have hlt' : (j : Int) < (s.size : Int) := by omega
              have hli : j < s.data.toList.length := by omega
              obtain ⟨c, hc⟩ : ∃ c, s.data.toList[j]? = some c := ⟨_, List.getElem?_eq_getElem hli⟩
              have hg : (s.data.toList.map bz).getD j .und = .int .u8 (c.toNat : Int) := by rw [List.getD_eq_getElem?_getD, List.getElem?_map, hc]; rfl
              have hw1 : IntKind.i64.wrap ((j : Int) + 1) = ((j + 1 : Nat) : Int) := by rw [IntWalk.i64_in _ (by omega)]; rfl
              have hdc : s.data.toList.drop j = c :: s.data.toList.drop (j + 1) := by
                rw [List.drop_eq_getElem_cons hli]; congr 1; exact (List.getElem?_eq_some_iff.1 hc).2
              rw [hdc, udGo] at hr
              by_cases h1 : (c.toNat : Int) < 48
              · rw [if_pos h1] at hr
                simp (maxSteps := 4000000) only [go_sem, ↓reduceIte, reduceCtorEq, Nat.reduceEqDiff, Nat.reduceBEq, Nat.reduceAdd, Nat.reduceSub, Nat.reduceMul, Nat.reduceLT, Nat.reduceLeDiff, Nat.reduceBNe, Int.reduceBEq, Int.reduceBNe, Int.reduceLT, Int.reduceLE, t25, t26, t27, t4, hlt', hg, h1, Int.toNat_natCast, List.length_map, hL]
                (repeat refine And.intro (by omega) ?_)
                simp only [← hr, udAns]
              · rw [if_neg h1] at hr
                by_cases h2 : 57 < (c.toNat : Int)
                · rw [if_pos h2] at hr
                  simp (maxSteps := 4000000) only [go_sem, ↓reduceIte, reduceCtorEq, Nat.reduceEqDiff, Nat.reduceBEq, Nat.reduceAdd, Nat.reduceSub, Nat.reduceMul, Nat.reduceLT, Nat.reduceLeDiff, Nat.reduceBNe, Int.reduceBEq, Int.reduceBNe, Int.reduceLT, Int.reduceLE, t25, t26, t27, t4, hlt', hg, h1, h2, Int.toNat_natCast, List.length_map, hL]
                  (repeat refine And.intro (by omega) ?_)
                  simp only [← hr, udAns]
                · rw [if_neg h2] at hr
                  have hpow : (10 : Int) ^ (j + 1) = 10 * 10 ^ j := by rw [Int.pow_succ, Int.mul_comm]
                  have hp9 : (10 : Int) ^ j ≤ 100000000 := pow9 ⟨j, by omega⟩
                  have w1 : IntKind.i64.wrap (10 * n) = 10 * n := IntWalk.i64_in _ (by omega)
                  have w2 : IntKind.u8.wrap ((c.toNat : Int) - 48) = (c.toNat : Int) - 48 := by
                    have := c.toNat_lt
                    rw [show ((c.toNat : Int) - 48) = ((c.toNat - 48 : Nat) : Int) by omega, wrapU8, show (UInt8.ofNat (c.toNat - 48)).toNat = (c.toNat - 48) % 256 from UInt8.toNat_ofNat' ..]
                    omega
                  have w3 : IntKind.i64.wrap ((c.toNat : Int) - 48) = (c.toNat : Int) - 48 := IntWalk.i64_in _ (by omega)
                  have w4 : IntKind.i64.wrap (10 * n + ((c.toNat : Int) - 48)) = 10 * n + ((c.toNat : Int) - 48) := IntWalk.i64_in _ (by omega)
                  simp (maxSteps := 4000000) only [go_sem, ↓reduceIte, reduceCtorEq, Nat.reduceEqDiff, Nat.reduceBEq, Nat.reduceAdd, Nat.reduceSub, Nat.reduceMul, Nat.reduceLT, Nat.reduceLeDiff, Nat.reduceBNe, Int.reduceBEq, Int.reduceBNe, Int.reduceLT, Int.reduceLE, t25, t26, t27, t4, hlt', hg, h1, h2, w1, w2, w3, w4, hw1, Int.toNat_natCast, List.length_map, hL]
                  (repeat refine And.intro (by omega) ?_)
                  refine ⟨s.size - (j + 1), by omega, j + 1, 10 * n + ((c.toNat : Int) - 48), by omega, rfl, by omega, by omega, ?_, ?_, ?_, ?_, hr⟩ <;>
                    (simp (maxSteps := 4000000) only [go_sem, ↓reduceIte, reduceCtorEq, Nat.reduceEqDiff, Nat.reduceBEq, Nat.reduceAdd, Nat.reduceSub, Nat.reduceMul, Nat.reduceLT, Nat.reduceLeDiff, Nat.reduceBNe, Int.reduceBEq, Int.reduceBNe, Int.reduceLT, Int.reduceLE, t25, t26, t27, t4])
            · have hlt' : ¬ (j : Int) < (s.size : Int) := by omega
              have hjs : j = s.size := by omega
              rw [List.drop_eq_nil_of_le (by omega), udGo] at hr
              simp (maxSteps := 4000000) only [go_sem, ↓reduceIte, reduceCtorEq, Nat.reduceEqDiff, Nat.reduceBEq, Nat.reduceAdd, Nat.reduceSub, Nat.reduceMul, Nat.reduceLT, Nat.reduceLeDiff, Nat.reduceBNe, Int.reduceBEq, Int.reduceBNe, Int.reduceLT, Int.reduceLE, t25, t26, t27, t4, hlt', List.length_map, hL]
              rw [← hr]; rfl
          by_cases e1 : b0 s = 48
          · have e1' : (((b0 s).toNat : Int) == 48) = true := by rw [e1]; rfl
            have e2 : ¬ (1 : Int) < (s.size : Int) := by have : ¬ 1 < s.size := fun h => h48 ⟨e1, h⟩; omega
            simp (maxSteps := 4000000) only [go_sem, ↓reduceIte, reduceCtorEq, Nat.reduceEqDiff, Nat.reduceBEq, Nat.reduceAdd, Nat.reduceSub, Nat.reduceMul, Nat.reduceLT, Nat.reduceLeDiff, Nat.reduceBNe, Int.reduceBEq, Int.reduceBNe, Int.reduceLT, Int.reduceLE, he, h9', hz, hg0, e1', e2]
            (repeat refine And.intro (by omega) ?_)
            refine key _ ?_ ?_ ?_ ?_ <;> (simp (maxSteps := 4000000) only [go_sem, ↓reduceIte, reduceCtorEq, Nat.reduceEqDiff, Nat.reduceBEq, Nat.reduceAdd, Nat.reduceSub, Nat.reduceMul, Nat.reduceLT, Nat.reduceLeDiff, Nat.reduceBNe, Int.reduceBEq, Int.reduceBNe, Int.reduceLT, Int.reduceLE, List.length_map, hL])
          · have e1' : (((b0 s).toNat : Int) == 48) = false := by
              rw [beq_eq_false_iff_ne]
              intro e
              exact e1 (UInt8.toNat.inj (by rw [show (48 : UInt8).toNat = 48 from rfl]; omega))
            simp (maxSteps := 4000000) only [go_sem, ↓reduceIte, reduceCtorEq, Nat.reduceEqDiff, Nat.reduceBEq, Nat.reduceAdd, Nat.reduceSub, Nat.reduceMul, Nat.reduceLT, Nat.reduceLeDiff, Nat.reduceBNe, Int.reduceBEq, Int.reduceBNe, Int.reduceLT, Int.reduceLE, he, h9', hz, hg0, e1']
            (repeat refine And.intro (by omega) ?_)
            refine key _ ?_ ?_ ?_ ?_ <;> (simp (maxSteps := 4000000) only [go_sem, ↓reduceIte, reduceCtorEq, Nat.reduceEqDiff, Nat.reduceBEq, Nat.reduceAdd, Nat.reduceSub, Nat.reduceMul, Nat.reduceLT, Nat.reduceLeDiff, Nat.reduceBNe, Int.reduceBEq, Int.reduceBNe, Int.reduceLT, Int.reduceLE, List.length_map, hL])
        exact go
end Go.Proofs.YtkdbphhekpdmhaaDoor
