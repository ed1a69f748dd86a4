/-
  The law SqueezeKeeps on the plain machine.
-/
import Derived.Test.YtdjkefndigijjaaSqM
import Derived.Test.YtdjkefndigijjaaSqI
namespace Go.Proofs.Ytdjkefndigijjaa
open Go.RowKit
set_option linter.unusedVariables false
set_option linter.unusedSimpArgs false
set_option maxRecDepth 100000
attribute [local go_sem ↓] runOp headOp
attribute [local go_sem] ev0 ev1 ev2 ev3 evA stHOk.eq_1 stHOk.eq_2 stHSt.eq_1 stHSt.eq_2 okV valV fzV okF valF okBld valBld mxOk.eq_1 mxOk.eq_2 mxVal.eq_1 mxVal.eq_2 cellFit.eq_1 cellFit.eq_2 cellFit.eq_3 cellEq.eq_1 cellEq.eq_2 cellEq.eq_3 upd_at AV.flatB AV.flatBs binIok binIV binSok binSV cellsOk.eq_1 cellsOk.eq_2 cellsVal.eq_1 cellsVal.eq_2 objCells.eq_1 objCells.eq_2 objZ.eq_1 objZ.eq_2 objProt.eq_1 objProt.eq_2 oneObj ptrOk.eq_1 ptrOk.eq_2 ptrOk.eq_3 ptrCells.eq_1 ptrCells.eq_2 ptrCells.eq_3 lenOk.eq_1 lenOk.eq_2 lenOk.eq_3 lenOk.eq_4 lenVal.eq_1 lenVal.eq_2 lenVal.eq_3 lenVal.eq_4 faOk.eq_1 faOk.eq_2 faOk.eq_3 faVal.eq_1 faVal.eq_2 faVal.eq_3 iaOk.eq_1 iaOk.eq_2 iaOk.eq_3 iaVal.eq_1 iaVal.eq_2 iaVal.eq_3 slcLen.eq_1 slcLen.eq_2 slcLen.eq_3 slcLen.eq_4 bdOk.eq_1 bdOk.eq_2 bdVal.eq_1 bdVal.eq_2 slcOk.eq_1 slcOk.eq_2 slcOk.eq_3 slcOk.eq_4 slcVal.eq_1 slcVal.eq_2 slcVal.eq_3 slcVal.eq_4 slcFz.eq_1 slcFz.eq_2 byOk.eq_1 byOk.eq_2 byOk.eq_3 byOk.eq_4 byOk.eq_5 byVal.eq_1 byVal.eq_2 byVal.eq_3 byFz.eq_1 byFz.eq_2 byFz.eq_3 byOks byVals byFzs allOne resSt.eq_1 resSt.eq_2 resName.eq_1 resName.eq_2 stOk.eq_1 stOk.eq_2 stArr.eq_1 stArr.eq_2 stSt.eq_1 stSt.eq_2 AV.patch nameOk_none gB.eq_1 gB.eq_2 gB.eq_3 gIs.eq_1 gIs.eq_2 gIs.eq_3 retV resV resVs evalV cellsV St.byval List.getD_cons_zero List.getD_cons_succ List.getD_nil List.map_cons List.map_nil List.length_cons List.length_nil List.take_succ_cons List.take_zero List.drop_succ_cons List.drop_zero List.headD_cons List.set_cons_zero List.append_nil List.nil_append List.cons_append List.contains_cons List.contains_nil List.elem_cons List.elem_nil List.all_cons List.all_nil List.getElem?_cons_zero List.getElem?_cons_succ List.filterMap_cons List.filterMap_nil Option.isSome_some Option.isSome_none Option.map_some Option.map_none Option.some.injEq AV.int.injEq AV.bool.injEq AV.str.injEq AV.tup.injEq AV.agg.injEq AV.sl.injEq List.cons.injEq Bool.false_eq_true Bool.true_eq_false Bool.not_true Bool.not_false Bool.and_true Bool.true_and Bool.or_false Bool.or_true Bool.false_or Bool.true_or Bool.or_self Bool.and_self Bool.not_eq_true' Bool.not_eq_false' Bool.not_not beq_self_eq_true true_and and_true false_and and_false and_self not_true_eq_false not_false_eq_true forall_const true_implies false_implies implies_true imp_self Nat.lt_add_one Nat.le_refl Nat.zero_le Nat.add_zero Nat.zero_add decide_true decide_false decide_eq_true_eq decide_eq_false_iff_not exists_eq_left exists_eq_left' ge_iff_le gt_iff_lt ite_branch ite_branch' nilOk.eq_1 nilOk.eq_2 nilMay.eq_1 nilMay.eq_2 AV.isSl.eq_1 objTy'.eq_1 objTy'.eq_2 apSt.eq_1 apArr.eq_1 apArr.eq_2 slOf.eq_1 fitsV List.mem_cons List.not_mem_nil Bool.false_and Bool.and_false
/-! ### percolate/percolatelaw49.SqueezeKeeps -/
def r_keeps_0 : Reg := ⟨[], [⟨(.mv (.c (.bool false))), (some 4), none, [], []⟩], [], [], false⟩
def r_keeps_1 : Reg := ⟨[], [⟨(.mv (.t 0)), (some 11), none, [12, 16], []⟩, ⟨(.callv (.c (.clo 26 [] [])) [(.t 11), (.c (.int .i64 2000))]), (some 12), none, [16], []⟩, ⟨(.un .not (.t 12)), (some 13), none, [16], []⟩, ⟨(.mv (.t 13)), (some 14), none, [16], []⟩, ⟨(.mv (.t 0)), (some 15), (some (14, false)), [16], []⟩, ⟨(.callv (.c (.clo 27 [] [])) [(.t 15)]), (some 16), (some (14, false)), [], []⟩, ⟨(.un .not (.t 16)), (some 17), (some (14, false)), [], []⟩, ⟨(.pick (.t 14) (.c (.bool true)) (.t 17)), (some 18), none, [], []⟩, ⟨(.mv (.t 18)), (some 19), none, [], []⟩, ⟨(.mv (.t 1)), (some 20), (some (19, false)), [], []⟩, ⟨(.len true (.t 20)), (some 21), (some (19, false)), [], []⟩, ⟨(.bin .gtr (.t 21) (.c (.int .i64 300))), (some 22), (some (19, false)), [], []⟩, ⟨(.pick (.t 19) (.c (.bool true)) (.t 22)), (some 23), none, [], []⟩], [12, 16], [], false⟩
def r_keeps_2 : Reg := ⟨[], [⟨(.callv (.c (.clo 28 [] [])) []), (some 24), none, [], []⟩, ⟨(.mv (.t 24)), (some 4), none, [], []⟩], [24], [], false⟩
def r_keeps_3 : Reg := ⟨[], [⟨(.mv (.t 0)), (some 25), none, [26], []⟩, ⟨(.callv (.c (.clo 29 [] [])) [(.t 25)]), (some 26), none, [], []⟩, ⟨(.mv (.t 26)), (some 5), none, [], []⟩], [26], [], false⟩
def r_keeps_4 : Reg := ⟨[], [⟨(.mv (.t 5)), (some 27), none, [29, 30, 34, 39, 41, 46, 48, 50, 56, 58], []⟩, ⟨(.mv (.t 0)), (some 28), none, [29, 30, 34, 39, 41, 46, 48, 50, 56, 58], []⟩, ⟨(.callv (.c (.clo 34 [] [])) [(.t 28)]), (some 29), none, [30, 34, 39, 41, 46, 48, 50, 56, 58], []⟩, ⟨(.callv (.c (.clo 33 [] [])) [(.t 27), (.t 29)]), (some 30), none, [34, 39, 41, 46, 48, 50, 56, 58], []⟩, ⟨(.un .not (.t 30)), (some 31), none, [34, 39, 41, 46, 48, 50, 56, 58], []⟩, ⟨(.mv (.t 31)), (some 32), none, [34, 39, 41, 46, 48, 50, 56, 58], []⟩, ⟨(.mv (.t 5)), (some 33), (some (32, false)), [34, 39, 41, 46, 48, 50, 56, 58], []⟩, ⟨(.callv (.c (.clo 27 [] [])) [(.t 33)]), (some 34), (some (32, false)), [39, 41, 46, 48, 50, 56, 58], []⟩, ⟨(.un .not (.t 34)), (some 35), (some (32, false)), [39, 41, 46, 48, 50, 56, 58], []⟩, ⟨(.pick (.t 32) (.c (.bool true)) (.t 35)), (some 36), none, [39, 41, 46, 48, 50, 56, 58], []⟩, ⟨(.mv (.t 36)), (some 37), none, [39, 41, 46, 48, 50, 56, 58], []⟩, ⟨(.mv (.t 5)), (some 38), (some (37, false)), [39, 41, 46, 48, 50, 56, 58], []⟩, ⟨(.callv (.c (.clo 35 [] [])) [(.t 38)]), (some 39), (some (37, false)), [41, 46, 48, 50, 56, 58], []⟩, ⟨(.mv (.t 0)), (some 40), (some (37, false)), [41, 46, 48, 50, 56, 58], []⟩, ⟨(.callv (.c (.clo 35 [] [])) [(.t 40)]), (some 41), (some (37, false)), [46, 48, 50, 56, 58], []⟩, ⟨(.bin .gtr (.t 39) (.t 41)), (some 42), (some (37, false)), [46, 48, 50, 56, 58], []⟩, ⟨(.pick (.t 37) (.c (.bool true)) (.t 42)), (some 43), none, [46, 48, 50, 56, 58], []⟩, ⟨(.mv (.t 43)), (some 44), none, [46, 48, 50, 56, 58], []⟩, ⟨(.mv (.t 0)), (some 45), (some (44, false)), [46, 48, 50, 56, 58], []⟩, ⟨(.callv (.c (.clo 36 [] [])) [(.t 45)]), (some 46), (some (44, false)), [48, 50, 56, 58], []⟩, ⟨(.mv (.t 0)), (some 47), (some (44, false)), [48, 50, 56, 58], []⟩, ⟨(.callv (.c (.clo 35 [] [])) [(.t 47)]), (some 48), (some (44, false)), [50, 56, 58], []⟩, ⟨(.mv (.t 5)), (some 49), (some (44, false)), [50, 56, 58], []⟩, ⟨(.callv (.c (.clo 35 [] [])) [(.t 49)]), (some 50), (some (44, false)), [56, 58], []⟩, ⟨(.bin .sub (.t 48) (.t 50)), (some 51), (some (44, false)), [56, 58], []⟩, ⟨(.bin .neq (.t 46) (.t 51)), (some 52), (some (44, false)), [56, 58], []⟩, ⟨(.pick (.t 44) (.c (.bool true)) (.t 52)), (some 53), none, [56, 58], []⟩, ⟨(.mv (.t 53)), (some 54), none, [56, 58], []⟩, ⟨(.mv (.t 5)), (some 55), (some (54, false)), [56, 58], []⟩, ⟨(.callv (.c (.clo 29 [] [])) [(.t 55)]), (some 56), (some (54, false)), [58], []⟩, ⟨(.mv (.t 5)), (some 57), (some (54, false)), [58], []⟩, ⟨(.callv (.c (.clo 33 [] [])) [(.t 56), (.t 57)]), (some 58), (some (54, false)), [], []⟩, ⟨(.un .not (.t 58)), (some 59), (some (54, false)), [], []⟩, ⟨(.pick (.t 54) (.c (.bool true)) (.t 59)), (some 60), none, [], []⟩], [29, 30, 34, 39, 41, 46, 48, 50, 56, 58], [], false⟩
def r_keeps_5 : Reg := ⟨[], [⟨(.mv (.c (.bool false))), (some 4), none, [], []⟩], [], [], false⟩
def r_keeps_6 : Reg := ⟨[], [⟨(.mv (.t 1)), (some 61), none, [62], []⟩, ⟨(.bsl 1 9 [(.t 61)]), (some 62), none, [], []⟩, ⟨(.mv (.t 62)), (some 6), none, [], []⟩], [62], [], false⟩
def r_keeps_7 : Reg := ⟨[], [⟨(.mv (.t 0)), (some 63), none, [], []⟩, ⟨(.len false (.t 63)), (some 64), none, [], []⟩, ⟨(.mv (.c (.int .i64 0))), (some 65), none, [], []⟩], [], [], false⟩
def r_keeps_8 : Reg := ⟨[], [⟨(.bin .lss (.t 65) (.t 64)), (some 66), none, [], []⟩], [], [], false⟩
def r_keeps_9 : Reg := ⟨[], [⟨(.iaddr 6 (.t 63) (.t 65)), (some 67), none, [8], []⟩, ⟨(.load 6 true (.t 67)), (some 68), none, [8], []⟩, ⟨(.alloc 6 55 (.agg [(.int .i64 0), (.int .i64 0), (.str ⟨#[]⟩), (.str ⟨#[]⟩), (.bool false), (.str ⟨#[]⟩)])), (some 8), none, [], []⟩, ⟨(.store 6 (.t 8) (.t 68)), none, none, [], []⟩], [8], [], false⟩
def r_keeps_10 : Reg := ⟨[], [⟨(.mv (.t 6)), (some 69), none, [74], []⟩, ⟨(.faddr 2 (.t 8)), (some 70), none, [74], []⟩, ⟨(.load 1 false (.t 70)), (some 71), none, [74], []⟩, ⟨(.faddr 3 (.t 8)), (some 72), none, [74], []⟩, ⟨(.load 1 false (.t 72)), (some 73), none, [74], []⟩, ⟨(.bsl 1 9 [(.t 71), (.t 73)]), (some 74), none, [], []⟩, ⟨(.append 1 9 16 (.t 69) (.t 74)), (some 75), none, [], []⟩, ⟨(.mv (.t 75)), (some 6), none, [], []⟩], [74], [], false⟩
def r_keeps_11 : Reg := ⟨[], [⟨(.bin .add (.t 65) (.c (.int .i64 1))), (some 76), none, [], []⟩, ⟨(.mv (.t 76)), (some 65), none, [], []⟩], [], [], false⟩
def r_keeps_l12 : IR := (.seq (.reg r_keeps_8)
  (.seq (.cond (.t 66) .skip
  (.exit 0))
  (.seq (.block 1 (.seq (.reg r_keeps_9)
  (.reg r_keeps_10)))
  (.reg r_keeps_11))))
def r_keeps_13 : Reg := ⟨[], [⟨(.mv (.t 6)), (some 77), none, [78], []⟩, ⟨(.callv (.c (.clo 37 [] [])) [(.t 77)]), (some 78), none, [], []⟩, ⟨(.len false (.t 78)), (some 79), none, [], []⟩, ⟨(.mv (.c (.int .i64 0))), (some 80), none, [], []⟩], [78], [], false⟩
def r_keeps_14 : Reg := ⟨[], [⟨(.bin .lss (.t 80) (.t 79)), (some 81), none, [], []⟩], [], [], false⟩
def r_keeps_15 : Reg := ⟨[], [⟨(.iaddr 1 (.t 78) (.t 80)), (some 82), none, [], []⟩, ⟨(.load 1 false (.t 82)), (some 83), none, [], []⟩, ⟨(.mv (.t 83)), (some 10), none, [], []⟩], [], [], false⟩
def r_keeps_16 : Reg := ⟨[], [⟨(.mv (.t 10)), (some 84), none, [90, 93], []⟩, ⟨(.len true (.t 84)), (some 85), none, [90, 93], []⟩, ⟨(.bin .leq (.t 85) (.c (.int .i64 17))), (some 86), none, [90, 93], []⟩, ⟨(.mv (.t 86)), (some 87), none, [90, 93], []⟩, ⟨(.mv (.t 5)), (some 88), (some (87, true)), [90, 93], []⟩, ⟨(.mv (.t 10)), (some 89), (some (87, true)), [90, 93], []⟩, ⟨(.callv (.c (.clo 38 [] [])) [(.t 88), (.t 89)]), (some 90), (some (87, true)), [93], []⟩, ⟨(.mv (.t 0)), (some 91), (some (87, true)), [93], []⟩, ⟨(.mv (.t 10)), (some 92), (some (87, true)), [93], []⟩, ⟨(.callv (.c (.clo 38 [] [])) [(.t 91), (.t 92)]), (some 93), (some (87, true)), [], []⟩, ⟨(.feq true [(0, 0), (1, 1)] (.t 90) (.t 93)), (some 94), (some (87, true)), [], []⟩, ⟨(.pick (.t 87) (.t 94) (.c (.bool false))), (some 95), none, [], []⟩], [90, 93], [], false⟩
def r_keeps_17 : Reg := ⟨[], [⟨(.mv (.c (.bool false))), (some 4), none, [], []⟩], [], [], false⟩
def r_keeps_18 : Reg := ⟨[], [⟨(.bin .add (.t 80) (.c (.int .i64 1))), (some 96), none, [], []⟩, ⟨(.mv (.t 96)), (some 80), none, [], []⟩], [], [], false⟩
def r_keeps_l19 : IR := (.seq (.reg r_keeps_14)
  (.seq (.cond (.t 81) .skip
  (.exit 2))
  (.seq (.block 3 (.seq (.reg r_keeps_15)
  (.seq (.reg r_keeps_16)
  (.cond (.t 95) (.seq (.reg r_keeps_17)
  .ret)
  .skip))))
  (.reg r_keeps_18))))
def r_keeps_20 : Reg := ⟨[], [⟨(.callv (.c (.clo 28 [] [])) []), (some 97), none, [], []⟩, ⟨(.mv (.t 97)), (some 4), none, [], []⟩], [97], [], false⟩
def ir_keeps : IR := (.seq (.reg r_keeps_0)
  (.seq (.seq (.reg r_keeps_1)
  (.cond (.t 23) (.seq (.reg r_keeps_2)
  .ret)
  .skip))
  (.seq (.reg r_keeps_3)
  (.seq (.seq (.reg r_keeps_4)
  (.cond (.t 60) (.seq (.reg r_keeps_5)
  .ret)
  .skip))
  (.seq (.reg r_keeps_6)
  (.seq (.seq (.reg r_keeps_7)
  (.block 0 (.loop r_keeps_l12)))
  (.seq (.seq (.reg r_keeps_13)
  (.block 2 (.loop r_keeps_l19)))
  (.seq (.reg r_keeps_20)
  .ret))))))))
def res_keeps : List RDesc := [(.tmp 4)]
theorem e_keeps_0 (C : FuncId → List AV → AV → Prop) (σ : St) (K : St → Prop) : runReg C r_keeps_0 σ K = runOps C [⟨(.mv (.c (.bool false))), (some 4), none, [], []⟩] (σ.kills []) K := rfl
theorem e_keeps_1 (C : FuncId → List AV → AV → Prop) (σ : St) (K : St → Prop) : runReg C r_keeps_1 σ K = runOps C [⟨(.mv (.t 0)), (some 11), none, [12, 16], []⟩, ⟨(.callv (.c (.clo 26 [] [])) [(.t 11), (.c (.int .i64 2000))]), (some 12), none, [16], []⟩, ⟨(.un .not (.t 12)), (some 13), none, [16], []⟩, ⟨(.mv (.t 13)), (some 14), none, [16], []⟩, ⟨(.mv (.t 0)), (some 15), (some (14, false)), [16], []⟩, ⟨(.callv (.c (.clo 27 [] [])) [(.t 15)]), (some 16), (some (14, false)), [], []⟩, ⟨(.un .not (.t 16)), (some 17), (some (14, false)), [], []⟩, ⟨(.pick (.t 14) (.c (.bool true)) (.t 17)), (some 18), none, [], []⟩, ⟨(.mv (.t 18)), (some 19), none, [], []⟩, ⟨(.mv (.t 1)), (some 20), (some (19, false)), [], []⟩, ⟨(.len true (.t 20)), (some 21), (some (19, false)), [], []⟩, ⟨(.bin .gtr (.t 21) (.c (.int .i64 300))), (some 22), (some (19, false)), [], []⟩, ⟨(.pick (.t 19) (.c (.bool true)) (.t 22)), (some 23), none, [], []⟩] (σ.kills [12, 16]) K := rfl
theorem e_keeps_2 (C : FuncId → List AV → AV → Prop) (σ : St) (K : St → Prop) : runReg C r_keeps_2 σ K = runOps C [⟨(.callv (.c (.clo 28 [] [])) []), (some 24), none, [], []⟩, ⟨(.mv (.t 24)), (some 4), none, [], []⟩] (σ.kills [24]) K := rfl
theorem e_keeps_3 (C : FuncId → List AV → AV → Prop) (σ : St) (K : St → Prop) : runReg C r_keeps_3 σ K = runOps C [⟨(.mv (.t 0)), (some 25), none, [26], []⟩, ⟨(.callv (.c (.clo 29 [] [])) [(.t 25)]), (some 26), none, [], []⟩, ⟨(.mv (.t 26)), (some 5), none, [], []⟩] (σ.kills [26]) K := rfl
theorem e_keeps_4 (C : FuncId → List AV → AV → Prop) (σ : St) (K : St → Prop) : runReg C r_keeps_4 σ K = runOps C [⟨(.mv (.t 5)), (some 27), none, [29, 30, 34, 39, 41, 46, 48, 50, 56, 58], []⟩, ⟨(.mv (.t 0)), (some 28), none, [29, 30, 34, 39, 41, 46, 48, 50, 56, 58], []⟩, ⟨(.callv (.c (.clo 34 [] [])) [(.t 28)]), (some 29), none, [30, 34, 39, 41, 46, 48, 50, 56, 58], []⟩, ⟨(.callv (.c (.clo 33 [] [])) [(.t 27), (.t 29)]), (some 30), none, [34, 39, 41, 46, 48, 50, 56, 58], []⟩, ⟨(.un .not (.t 30)), (some 31), none, [34, 39, 41, 46, 48, 50, 56, 58], []⟩, ⟨(.mv (.t 31)), (some 32), none, [34, 39, 41, 46, 48, 50, 56, 58], []⟩, ⟨(.mv (.t 5)), (some 33), (some (32, false)), [34, 39, 41, 46, 48, 50, 56, 58], []⟩, ⟨(.callv (.c (.clo 27 [] [])) [(.t 33)]), (some 34), (some (32, false)), [39, 41, 46, 48, 50, 56, 58], []⟩, ⟨(.un .not (.t 34)), (some 35), (some (32, false)), [39, 41, 46, 48, 50, 56, 58], []⟩, ⟨(.pick (.t 32) (.c (.bool true)) (.t 35)), (some 36), none, [39, 41, 46, 48, 50, 56, 58], []⟩, ⟨(.mv (.t 36)), (some 37), none, [39, 41, 46, 48, 50, 56, 58], []⟩, ⟨(.mv (.t 5)), (some 38), (some (37, false)), [39, 41, 46, 48, 50, 56, 58], []⟩, ⟨(.callv (.c (.clo 35 [] [])) [(.t 38)]), (some 39), (some (37, false)), [41, 46, 48, 50, 56, 58], []⟩, ⟨(.mv (.t 0)), (some 40), (some (37, false)), [41, 46, 48, 50, 56, 58], []⟩, ⟨(.callv (.c (.clo 35 [] [])) [(.t 40)]), (some 41), (some (37, false)), [46, 48, 50, 56, 58], []⟩, ⟨(.bin .gtr (.t 39) (.t 41)), (some 42), (some (37, false)), [46, 48, 50, 56, 58], []⟩, ⟨(.pick (.t 37) (.c (.bool true)) (.t 42)), (some 43), none, [46, 48, 50, 56, 58], []⟩, ⟨(.mv (.t 43)), (some 44), none, [46, 48, 50, 56, 58], []⟩, ⟨(.mv (.t 0)), (some 45), (some (44, false)), [46, 48, 50, 56, 58], []⟩, ⟨(.callv (.c (.clo 36 [] [])) [(.t 45)]), (some 46), (some (44, false)), [48, 50, 56, 58], []⟩, ⟨(.mv (.t 0)), (some 47), (some (44, false)), [48, 50, 56, 58], []⟩, ⟨(.callv (.c (.clo 35 [] [])) [(.t 47)]), (some 48), (some (44, false)), [50, 56, 58], []⟩, ⟨(.mv (.t 5)), (some 49), (some (44, false)), [50, 56, 58], []⟩, ⟨(.callv (.c (.clo 35 [] [])) [(.t 49)]), (some 50), (some (44, false)), [56, 58], []⟩, ⟨(.bin .sub (.t 48) (.t 50)), (some 51), (some (44, false)), [56, 58], []⟩, ⟨(.bin .neq (.t 46) (.t 51)), (some 52), (some (44, false)), [56, 58], []⟩, ⟨(.pick (.t 44) (.c (.bool true)) (.t 52)), (some 53), none, [56, 58], []⟩, ⟨(.mv (.t 53)), (some 54), none, [56, 58], []⟩, ⟨(.mv (.t 5)), (some 55), (some (54, false)), [56, 58], []⟩, ⟨(.callv (.c (.clo 29 [] [])) [(.t 55)]), (some 56), (some (54, false)), [58], []⟩, ⟨(.mv (.t 5)), (some 57), (some (54, false)), [58], []⟩, ⟨(.callv (.c (.clo 33 [] [])) [(.t 56), (.t 57)]), (some 58), (some (54, false)), [], []⟩, ⟨(.un .not (.t 58)), (some 59), (some (54, false)), [], []⟩, ⟨(.pick (.t 54) (.c (.bool true)) (.t 59)), (some 60), none, [], []⟩] (σ.kills [29, 30, 34, 39, 41, 46, 48, 50, 56, 58]) K := rfl
theorem e_keeps_5 (C : FuncId → List AV → AV → Prop) (σ : St) (K : St → Prop) : runReg C r_keeps_5 σ K = runOps C [⟨(.mv (.c (.bool false))), (some 4), none, [], []⟩] (σ.kills []) K := rfl
theorem e_keeps_6 (C : FuncId → List AV → AV → Prop) (σ : St) (K : St → Prop) : runReg C r_keeps_6 σ K = runOps C [⟨(.mv (.t 1)), (some 61), none, [62], []⟩, ⟨(.bsl 1 9 [(.t 61)]), (some 62), none, [], []⟩, ⟨(.mv (.t 62)), (some 6), none, [], []⟩] (σ.kills [62]) K := rfl
theorem e_keeps_7 (C : FuncId → List AV → AV → Prop) (σ : St) (K : St → Prop) : runReg C r_keeps_7 σ K = runOps C [⟨(.mv (.t 0)), (some 63), none, [], []⟩, ⟨(.len false (.t 63)), (some 64), none, [], []⟩, ⟨(.mv (.c (.int .i64 0))), (some 65), none, [], []⟩] (σ.kills []) K := rfl
theorem e_keeps_8 (C : FuncId → List AV → AV → Prop) (σ : St) (K : St → Prop) : runReg C r_keeps_8 σ K = runOps C [⟨(.bin .lss (.t 65) (.t 64)), (some 66), none, [], []⟩] (σ.kills []) K := rfl
theorem e_keeps_9 (C : FuncId → List AV → AV → Prop) (σ : St) (K : St → Prop) : runReg C r_keeps_9 σ K = runOps C [⟨(.iaddr 6 (.t 63) (.t 65)), (some 67), none, [8], []⟩, ⟨(.load 6 true (.t 67)), (some 68), none, [8], []⟩, ⟨(.alloc 6 55 (.agg [(.int .i64 0), (.int .i64 0), (.str ⟨#[]⟩), (.str ⟨#[]⟩), (.bool false), (.str ⟨#[]⟩)])), (some 8), none, [], []⟩, ⟨(.store 6 (.t 8) (.t 68)), none, none, [], []⟩] (σ.kills [8]) K := rfl
theorem e_keeps_10 (C : FuncId → List AV → AV → Prop) (σ : St) (K : St → Prop) : runReg C r_keeps_10 σ K = runOps C [⟨(.mv (.t 6)), (some 69), none, [74], []⟩, ⟨(.faddr 2 (.t 8)), (some 70), none, [74], []⟩, ⟨(.load 1 false (.t 70)), (some 71), none, [74], []⟩, ⟨(.faddr 3 (.t 8)), (some 72), none, [74], []⟩, ⟨(.load 1 false (.t 72)), (some 73), none, [74], []⟩, ⟨(.bsl 1 9 [(.t 71), (.t 73)]), (some 74), none, [], []⟩, ⟨(.append 1 9 16 (.t 69) (.t 74)), (some 75), none, [], []⟩, ⟨(.mv (.t 75)), (some 6), none, [], []⟩] (σ.kills [74]) K := rfl
theorem e_keeps_11 (C : FuncId → List AV → AV → Prop) (σ : St) (K : St → Prop) : runReg C r_keeps_11 σ K = runOps C [⟨(.bin .add (.t 65) (.c (.int .i64 1))), (some 76), none, [], []⟩, ⟨(.mv (.t 76)), (some 65), none, [], []⟩] (σ.kills []) K := rfl
theorem e_keeps_13 (C : FuncId → List AV → AV → Prop) (σ : St) (K : St → Prop) : runReg C r_keeps_13 σ K = runOps C [⟨(.mv (.t 6)), (some 77), none, [78], []⟩, ⟨(.callv (.c (.clo 37 [] [])) [(.t 77)]), (some 78), none, [], []⟩, ⟨(.len false (.t 78)), (some 79), none, [], []⟩, ⟨(.mv (.c (.int .i64 0))), (some 80), none, [], []⟩] (σ.kills [78]) K := rfl
theorem e_keeps_14 (C : FuncId → List AV → AV → Prop) (σ : St) (K : St → Prop) : runReg C r_keeps_14 σ K = runOps C [⟨(.bin .lss (.t 80) (.t 79)), (some 81), none, [], []⟩] (σ.kills []) K := rfl
theorem e_keeps_15 (C : FuncId → List AV → AV → Prop) (σ : St) (K : St → Prop) : runReg C r_keeps_15 σ K = runOps C [⟨(.iaddr 1 (.t 78) (.t 80)), (some 82), none, [], []⟩, ⟨(.load 1 false (.t 82)), (some 83), none, [], []⟩, ⟨(.mv (.t 83)), (some 10), none, [], []⟩] (σ.kills []) K := rfl
theorem e_keeps_16 (C : FuncId → List AV → AV → Prop) (σ : St) (K : St → Prop) : runReg C r_keeps_16 σ K = runOps C [⟨(.mv (.t 10)), (some 84), none, [90, 93], []⟩, ⟨(.len true (.t 84)), (some 85), none, [90, 93], []⟩, ⟨(.bin .leq (.t 85) (.c (.int .i64 17))), (some 86), none, [90, 93], []⟩, ⟨(.mv (.t 86)), (some 87), none, [90, 93], []⟩, ⟨(.mv (.t 5)), (some 88), (some (87, true)), [90, 93], []⟩, ⟨(.mv (.t 10)), (some 89), (some (87, true)), [90, 93], []⟩, ⟨(.callv (.c (.clo 38 [] [])) [(.t 88), (.t 89)]), (some 90), (some (87, true)), [93], []⟩, ⟨(.mv (.t 0)), (some 91), (some (87, true)), [93], []⟩, ⟨(.mv (.t 10)), (some 92), (some (87, true)), [93], []⟩, ⟨(.callv (.c (.clo 38 [] [])) [(.t 91), (.t 92)]), (some 93), (some (87, true)), [], []⟩, ⟨(.feq true [(0, 0), (1, 1)] (.t 90) (.t 93)), (some 94), (some (87, true)), [], []⟩, ⟨(.pick (.t 87) (.t 94) (.c (.bool false))), (some 95), none, [], []⟩] (σ.kills [90, 93]) K := rfl
theorem e_keeps_17 (C : FuncId → List AV → AV → Prop) (σ : St) (K : St → Prop) : runReg C r_keeps_17 σ K = runOps C [⟨(.mv (.c (.bool false))), (some 4), none, [], []⟩] (σ.kills []) K := rfl
theorem e_keeps_18 (C : FuncId → List AV → AV → Prop) (σ : St) (K : St → Prop) : runReg C r_keeps_18 σ K = runOps C [⟨(.bin .add (.t 80) (.c (.int .i64 1))), (some 96), none, [], []⟩, ⟨(.mv (.t 96)), (some 80), none, [], []⟩] (σ.kills []) K := rfl
theorem e_keeps_20 (C : FuncId → List AV → AV → Prop) (σ : St) (K : St → Prop) : runReg C r_keeps_20 σ K = runOps C [⟨(.callv (.c (.clo 28 [] [])) []), (some 97), none, [], []⟩, ⟨(.mv (.t 97)), (some 4), none, [], []⟩] (σ.kills [97]) K := rfl
theorem fn_keeps {args : List AV} {r : AV} (ha : args.length.ble Try.f7.ntmps = true) (h : run (AFn Try.prog) ir_keeps (endQ res_keeps r) (initSt args)) : AFn Try.prog 7 args r :=
  AFn.of_code (hint := fun _ => []) (c := Try.f7.body.getD .skip) (by kernel_rfl) (by kernel_rfl) Try.func7 (by kernel_rfl) (by kernel_rfl) (by kernel_rfl) (of_decide_eq_true (by kernel_rfl)) (Nat.le_of_ble_eq_true ha) (run_ok h)

attribute [local go_sem ↓] ir_keeps
attribute [local go_sem] res_keeps e_keeps_0 e_keeps_1 e_keeps_2 e_keeps_3 e_keeps_4 e_keeps_5 e_keeps_6 e_keeps_7 e_keeps_8 e_keeps_9 e_keeps_10 e_keeps_11 e_keeps_13 e_keeps_14 e_keeps_15 e_keeps_16 e_keeps_17 e_keeps_18 e_keeps_20

def endsL (k : ByteArray) (l : List Msg) : List ByteArray := k :: l.flatMap fun m => [m.key, m.hi]
theorem endsL_len (k : ByteArray) (l : List Msg) : (endsL k l).length = 2 * l.length + 1 := by
  induction l with
  | nil => rfl
  | cons x l ih => simp [endsL] at ih ⊢; omega
def keI (l s : List Msg) (k : ByteArray) (n : Nat) (σ : St) : Prop :=
  ∃ j p : Nat, j ≤ l.length ∧ n = l.length - j ∧ σ.T 0 = .sl (l.map Msg.a) ∧ σ.T 5 = .rs 26 0 s.length ∧ σ.H 26 = some ⟨6, 55, s.map Msg.a, p⟩ ∧ σ.T 6 = .rs 62 0 (2 * j + 1) ∧ σ.H 62 = some ⟨1, 9, (endsL k (l.take j)).map .str, 0⟩ ∧ σ.T 63 = .sl (l.map Msg.a) ∧ σ.T 64 = .int .i64 l.length ∧ σ.T 65 = .int .i64 j
def koI (l s : List Msg) (e : List ByteArray) (n : Nat) (σ : St) : Prop :=
  ∃ j p : Nat, j ≤ e.length ∧ n = e.length - j ∧ σ.T 0 = .sl (l.map Msg.a) ∧ σ.T 5 = .rs 26 0 s.length ∧ σ.H 26 = some ⟨6, 55, s.map Msg.a, p⟩ ∧ σ.T 78 = .rs 78 0 e.length ∧ σ.H 78 = some ⟨1, 9, e.map .str, 0⟩ ∧ σ.T 79 = .int .i64 e.length ∧ σ.T 80 = .int .i64 j
theorem bulks_mem : ∀ {l : List Msg} {m : Msg}, m ∈ l → m.bulk ≤ bulks l
  | x :: l, m, h => by
    rw [bulks]
    rcases List.mem_cons.1 h with rfl | h
    · omega
    · have := bulks_mem h; omega
theorem kok_few {l : List Msg} (h : bulks l ≤ 2000) : KOk l ∧ ∀ m, m ∈ l → m.key.size ≤ 2000 ∧ m.hi.size ≤ 2000 ∧ m.val.size ≤ 2000 := by
  have hl := bulks_len l
  have hm : ∀ m, m ∈ l → m.key.size ≤ 2000 ∧ m.hi.size ≤ 2000 ∧ m.val.size ≤ 2000 := fun m hm => by
    have := bulks_mem hm
    unfold Msg.bulk at this
    omega
  exact ⟨⟨by omega, fun m h => by have := hm m h; omega⟩, hm⟩
theorem right_sizes {m : Msg} (h : m.right = true) : m.key.size ≤ 16 ∧ m.hi.size ≤ 16 ∧ m.val.size ≤ 16 := by
  unfold Msg.right at h
  simp only [Bool.and_eq_true, decide_eq_true_eq] at h
  exact ⟨h.1.1.1.2, h.1.2, h.1.1.2⟩
theorem keeps_law (l : List Msg) (k : ByteArray) (hb : MBig l) (hk : k.size ≤ 281474976710656) : AFn Try.prog 7 [.sl (l.map Msg.a), .str k] (.bool true) := by
  refine fn_keeps rfl ?_
  simp (maxSteps := 4000000) only [go_sem, ↓reduceIte, reduceCtorEq, Nat.reduceEqDiff, Nat.reduceBEq, Nat.reduceAdd, Nat.reduceSub, Nat.reduceMul, Nat.reduceLT, Nat.reduceLeDiff, Nat.reduceBNe, Int.reduceBEq, Int.reduceBNe, Int.reduceLT, Int.reduceLE, Spn.a, Msg.a, Eff.a]
  (first | refine calling (refFew l 2000 (by omega) (by omega) hb.2 hb.1) ?_ | refine callingH (refFew l 2000 (by omega) (by omega) hb.2 hb.1) ?_)
  cases hf : decide ((bulks l : Int) ≤ 2000) with
  | false =>
    simp (maxSteps := 4000000) only [go_sem, ↓reduceIte, reduceCtorEq, Nat.reduceEqDiff, Nat.reduceBEq, Nat.reduceAdd, Nat.reduceSub, Nat.reduceMul, Nat.reduceLT, Nat.reduceLeDiff, Nat.reduceBNe, Int.reduceBEq, Int.reduceBNe, Int.reduceLT, Int.reduceLE, Spn.a, Msg.a, Eff.a, hf]
    (first | refine calling awake_ok ?_ | refine callingH awake_ok ?_)
    simp (maxSteps := 4000000) only [go_sem, ↓reduceIte, reduceCtorEq, Nat.reduceEqDiff, Nat.reduceBEq, Nat.reduceAdd, Nat.reduceSub, Nat.reduceMul, Nat.reduceLT, Nat.reduceLeDiff, Nat.reduceBNe, Int.reduceBEq, Int.reduceBNe, Int.reduceLT, Int.reduceLE, Spn.a, Msg.a, Eff.a, hf]
  | true =>
    have hf' : bulks l ≤ 2000 := by have := of_decide_eq_true hf; omega
    obtain ⟨hok, hsm⟩ := kok_few hf'
    simp (maxSteps := 4000000) only [go_sem, ↓reduceIte, reduceCtorEq, Nat.reduceEqDiff, Nat.reduceBEq, Nat.reduceAdd, Nat.reduceSub, Nat.reduceMul, Nat.reduceLT, Nat.reduceLeDiff, Nat.reduceBNe, Int.reduceBEq, Int.reduceBNe, Int.reduceLT, Int.reduceLE, Spn.a, Msg.a, Eff.a, hf]
    (first | refine calling (refAll l hok.1 (fun m hm => by have := hok.2 m hm; omega)) ?_ | refine callingH (refAll l hok.1 (fun m hm => by have := hok.2 m hm; omega)) ?_)
    cases ha : AllProp l with
    | false =>
      simp (maxSteps := 4000000) only [go_sem, ↓reduceIte, reduceCtorEq, Nat.reduceEqDiff, Nat.reduceBEq, Nat.reduceAdd, Nat.reduceSub, Nat.reduceMul, Nat.reduceLT, Nat.reduceLeDiff, Nat.reduceBNe, Int.reduceBEq, Int.reduceBNe, Int.reduceLT, Int.reduceLE, Spn.a, Msg.a, Eff.a, hf, ha]
      (first | refine calling awake_ok ?_ | refine callingH awake_ok ?_)
      simp (maxSteps := 4000000) only [go_sem, ↓reduceIte, reduceCtorEq, Nat.reduceEqDiff, Nat.reduceBEq, Nat.reduceAdd, Nat.reduceSub, Nat.reduceMul, Nat.reduceLT, Nat.reduceLeDiff, Nat.reduceBNe, Int.reduceBEq, Int.reduceBNe, Int.reduceLT, Int.reduceLE, Spn.a, Msg.a, Eff.a, hf, ha]
    | true =>
      by_cases hk3 : (k.size : Int) > 300
      · have hk3' : (300 : Int) < (k.size : Int) := hk3
        simp (maxSteps := 4000000) only [go_sem, ↓reduceIte, reduceCtorEq, Nat.reduceEqDiff, Nat.reduceBEq, Nat.reduceAdd, Nat.reduceSub, Nat.reduceMul, Nat.reduceLT, Nat.reduceLeDiff, Nat.reduceBNe, Int.reduceBEq, Int.reduceBNe, Int.reduceLT, Int.reduceLE, Spn.a, Msg.a, Eff.a, hf, ha, hk3']
        (first | refine calling awake_ok ?_ | refine callingH awake_ok ?_)
        simp (maxSteps := 4000000) only [go_sem, ↓reduceIte, reduceCtorEq, Nat.reduceEqDiff, Nat.reduceBEq, Nat.reduceAdd, Nat.reduceSub, Nat.reduceMul, Nat.reduceLT, Nat.reduceLeDiff, Nat.reduceBNe, Int.reduceBEq, Int.reduceBNe, Int.reduceLT, Int.reduceLE, Spn.a, Msg.a, Eff.a, hf, ha, hk3']
      · have hk3' : ¬ (300 : Int) < (k.size : Int) := hk3
        obtain ⟨k1, k2, k3, k4⟩ := keeps l ha
        obtain ⟨o1, o2, o3⟩ := squeeze_once l hb
        have htw := squeeze_twice l hb ha
        have hs : KOk (squeezeF l) := ⟨by have := hok.1; omega, fun m hm => by have := right_sizes (((allProp_iff _).1 k3).1 m hm); omega⟩
        have hro : ∀ {x : List Msg}, KOk x → ROk x := fun {x} h => ⟨h.1, fun m hm => ⟨by have := (h.2 m hm).1; omega, by have := (h.2 m hm).2.2; omega⟩⟩
        have ht : ((squeezeF l).map Msg.a).take (squeezeF l).length = (squeezeF l).map Msg.a := List.take_of_length_le (by rw [List.length_map]; exact Nat.le_refl _)
        have hgt : ¬ (sizes l : Int) < (sizes (squeezeF l) : Int) := by omega
        have hsz := sizes_take hok l.length
        rw [List.take_length] at hsz
        have hw1 : IntKind.i64.wrap ((sizes l : Int) - (sizes (squeezeF l) : Int)) = (sizes l : Int) - (sizes (squeezeF l) : Int) := IntWalk.i64_in _ (by omega)
        simp (maxSteps := 4000000) only [go_sem, ↓reduceIte, reduceCtorEq, Nat.reduceEqDiff, Nat.reduceBEq, Nat.reduceAdd, Nat.reduceSub, Nat.reduceMul, Nat.reduceLT, Nat.reduceLeDiff, Nat.reduceBNe, Int.reduceBEq, Int.reduceBNe, Int.reduceLT, Int.reduceLE, Spn.a, Msg.a, Eff.a, hf, ha, hk3']
        (first | refine calling (squeeze_ok l (hro hok)) ?_ | refine callingH (squeeze_ok l (hro hok)) ?_)
        simp (maxSteps := 4000000) only [go_sem, ↓reduceIte, reduceCtorEq, Nat.reduceEqDiff, Nat.reduceBEq, Nat.reduceAdd, Nat.reduceSub, Nat.reduceMul, Nat.reduceLT, Nat.reduceLeDiff, Nat.reduceBNe, Int.reduceBEq, Int.reduceBNe, Int.reduceLT, Int.reduceLE, Spn.a, Msg.a, Eff.a, ht, List.length_map]
        (first | refine calling (ref49Squeeze l hok) ?_ | refine callingH (ref49Squeeze l hok) ?_)
        simp (maxSteps := 4000000) only [go_sem, ↓reduceIte, reduceCtorEq, Nat.reduceEqDiff, Nat.reduceBEq, Nat.reduceAdd, Nat.reduceSub, Nat.reduceMul, Nat.reduceLT, Nat.reduceLeDiff, Nat.reduceBNe, Int.reduceBEq, Int.reduceBNe, Int.reduceLT, Int.reduceLE, Spn.a, Msg.a, Eff.a, ht, List.length_map]
        (first | refine calling (refSame_self (squeezeF l) hs) ?_ | refine callingH (refSame_self (squeezeF l) hs) ?_)
        simp (maxSteps := 4000000) only [go_sem, ↓reduceIte, reduceCtorEq, Nat.reduceEqDiff, Nat.reduceBEq, Nat.reduceAdd, Nat.reduceSub, Nat.reduceMul, Nat.reduceLT, Nat.reduceLeDiff, Nat.reduceBNe, Int.reduceBEq, Int.reduceBNe, Int.reduceLT, Int.reduceLE, Spn.a, Msg.a, Eff.a, ht, List.length_map]
        (first | refine calling (refAll (squeezeF l) hs.1 (fun m hm => by have := hs.2 m hm; omega)) ?_ | refine callingH (refAll (squeezeF l) hs.1 (fun m hm => by have := hs.2 m hm; omega)) ?_)
        simp (maxSteps := 4000000) only [go_sem, ↓reduceIte, reduceCtorEq, Nat.reduceEqDiff, Nat.reduceBEq, Nat.reduceAdd, Nat.reduceSub, Nat.reduceMul, Nat.reduceLT, Nat.reduceLeDiff, Nat.reduceBNe, Int.reduceBEq, Int.reduceBNe, Int.reduceLT, Int.reduceLE, Spn.a, Msg.a, Eff.a, ht, List.length_map, k3]
        (first | refine calling (ref18Size (squeezeF l) hs) ?_ | refine callingH (ref18Size (squeezeF l) hs) ?_)
        simp (maxSteps := 4000000) only [go_sem, ↓reduceIte, reduceCtorEq, Nat.reduceEqDiff, Nat.reduceBEq, Nat.reduceAdd, Nat.reduceSub, Nat.reduceMul, Nat.reduceLT, Nat.reduceLeDiff, Nat.reduceBNe, Int.reduceBEq, Int.reduceBNe, Int.reduceLT, Int.reduceLE, Spn.a, Msg.a, Eff.a, ht, List.length_map, k3]
        (first | refine calling (ref18Size l hok) ?_ | refine callingH (ref18Size l hok) ?_)
        simp (maxSteps := 4000000) only [go_sem, ↓reduceIte, reduceCtorEq, Nat.reduceEqDiff, Nat.reduceBEq, Nat.reduceAdd, Nat.reduceSub, Nat.reduceMul, Nat.reduceLT, Nat.reduceLeDiff, Nat.reduceBNe, Int.reduceBEq, Int.reduceBNe, Int.reduceLT, Int.reduceLE, Spn.a, Msg.a, Eff.a, ht, List.length_map, k3, hgt]
        (first | refine calling (saved_ok l hok hs k2) ?_ | refine callingH (saved_ok l hok hs k2) ?_)
        simp (maxSteps := 4000000) only [go_sem, ↓reduceIte, reduceCtorEq, Nat.reduceEqDiff, Nat.reduceBEq, Nat.reduceAdd, Nat.reduceSub, Nat.reduceMul, Nat.reduceLT, Nat.reduceLeDiff, Nat.reduceBNe, Int.reduceBEq, Int.reduceBNe, Int.reduceLT, Int.reduceLE, Spn.a, Msg.a, Eff.a, ht, List.length_map, k3, hgt]
        (first | refine calling (ref18Size l hok) ?_ | refine callingH (ref18Size l hok) ?_)
        simp (maxSteps := 4000000) only [go_sem, ↓reduceIte, reduceCtorEq, Nat.reduceEqDiff, Nat.reduceBEq, Nat.reduceAdd, Nat.reduceSub, Nat.reduceMul, Nat.reduceLT, Nat.reduceLeDiff, Nat.reduceBNe, Int.reduceBEq, Int.reduceBNe, Int.reduceLT, Int.reduceLE, Spn.a, Msg.a, Eff.a, ht, List.length_map, k3, hgt]
        (first | refine calling (ref18Size (squeezeF l) hs) ?_ | refine callingH (ref18Size (squeezeF l) hs) ?_)
        simp (maxSteps := 4000000) only [go_sem, ↓reduceIte, reduceCtorEq, Nat.reduceEqDiff, Nat.reduceBEq, Nat.reduceAdd, Nat.reduceSub, Nat.reduceMul, Nat.reduceLT, Nat.reduceLeDiff, Nat.reduceBNe, Int.reduceBEq, Int.reduceBNe, Int.reduceLT, Int.reduceLE, Spn.a, Msg.a, Eff.a, ht, List.length_map, k3, hgt, hw1, bne_self_eq_false]
        (first | refine calling (squeeze_ok (squeezeF l) (hro hs)) ?_ | refine callingH (squeeze_ok (squeezeF l) (hro hs)) ?_)
        rw [htw]
        simp (maxSteps := 4000000) only [go_sem, ↓reduceIte, reduceCtorEq, Nat.reduceEqDiff, Nat.reduceBEq, Nat.reduceAdd, Nat.reduceSub, Nat.reduceMul, Nat.reduceLT, Nat.reduceLeDiff, Nat.reduceBNe, Int.reduceBEq, Int.reduceBNe, Int.reduceLT, Int.reduceLE, Spn.a, Msg.a, Eff.a, ht, List.length_map, k3, hgt, hw1, bne_self_eq_false]
        (first | refine calling (refSame_self (squeezeF l) hs) ?_ | refine callingH (refSame_self (squeezeF l) hs) ?_)
        simp (maxSteps := 4000000) only [go_sem, ↓reduceIte, reduceCtorEq, Nat.reduceEqDiff, Nat.reduceBEq, Nat.reduceAdd, Nat.reduceSub, Nat.reduceMul, Nat.reduceLT, Nat.reduceLeDiff, Nat.reduceBNe, Int.reduceBEq, Int.reduceBNe, Int.reduceLT, Int.reduceLE, Spn.a, Msg.a, Eff.a, ht, List.length_map, k3, hgt, hw1, bne_self_eq_false]
        refine run_loop (keI l (squeezeF l) k) (k := l.length) ⟨0, (squeezeF l).length, by omega, rfl, ?_, ?_, ?_, ?_, ?_, ?_, ?_, ?_⟩ ?_
        · simp (maxSteps := 4000000) only [go_sem, ↓reduceIte, reduceCtorEq, Nat.reduceEqDiff, Nat.reduceBEq, Nat.reduceAdd, Nat.reduceSub, Nat.reduceMul, Nat.reduceLT, Nat.reduceLeDiff, Nat.reduceBNe, Int.reduceBEq, Int.reduceBNe, Int.reduceLT, Int.reduceLE, Spn.a, Msg.a, Eff.a]
        · simp (maxSteps := 4000000) only [go_sem, ↓reduceIte, reduceCtorEq, Nat.reduceEqDiff, Nat.reduceBEq, Nat.reduceAdd, Nat.reduceSub, Nat.reduceMul, Nat.reduceLT, Nat.reduceLeDiff, Nat.reduceBNe, Int.reduceBEq, Int.reduceBNe, Int.reduceLT, Int.reduceLE, Spn.a, Msg.a, Eff.a]
        · simp (maxSteps := 4000000) only [go_sem, ↓reduceIte, reduceCtorEq, Nat.reduceEqDiff, Nat.reduceBEq, Nat.reduceAdd, Nat.reduceSub, Nat.reduceMul, Nat.reduceLT, Nat.reduceLeDiff, Nat.reduceBNe, Int.reduceBEq, Int.reduceBNe, Int.reduceLT, Int.reduceLE, Spn.a, Msg.a, Eff.a, List.length_map]
        · simp (maxSteps := 4000000) only [go_sem, ↓reduceIte, reduceCtorEq, Nat.reduceEqDiff, Nat.reduceBEq, Nat.reduceAdd, Nat.reduceSub, Nat.reduceMul, Nat.reduceLT, Nat.reduceLeDiff, Nat.reduceBNe, Int.reduceBEq, Int.reduceBNe, Int.reduceLT, Int.reduceLE, Spn.a, Msg.a, Eff.a]
        · simp (maxSteps := 4000000) only [go_sem, ↓reduceIte, reduceCtorEq, Nat.reduceEqDiff, Nat.reduceBEq, Nat.reduceAdd, Nat.reduceSub, Nat.reduceMul, Nat.reduceLT, Nat.reduceLeDiff, Nat.reduceBNe, Int.reduceBEq, Int.reduceBNe, Int.reduceLT, Int.reduceLE, Spn.a, Msg.a, Eff.a]
          rfl
        · simp (maxSteps := 4000000) only [go_sem, ↓reduceIte, reduceCtorEq, Nat.reduceEqDiff, Nat.reduceBEq, Nat.reduceAdd, Nat.reduceSub, Nat.reduceMul, Nat.reduceLT, Nat.reduceLeDiff, Nat.reduceBNe, Int.reduceBEq, Int.reduceBNe, Int.reduceLT, Int.reduceLE, Spn.a, Msg.a, Eff.a]
        · simp (maxSteps := 4000000) only [go_sem, ↓reduceIte, reduceCtorEq, Nat.reduceEqDiff, Nat.reduceBEq, Nat.reduceAdd, Nat.reduceSub, Nat.reduceMul, Nat.reduceLT, Nat.reduceLeDiff, Nat.reduceBNe, Int.reduceBEq, Int.reduceBNe, Int.reduceLT, Int.reduceLE, Spn.a, Msg.a, Eff.a, List.length_map]
        · simp (maxSteps := 4000000) only [go_sem, ↓reduceIte, reduceCtorEq, Nat.reduceEqDiff, Nat.reduceBEq, Nat.reduceAdd, Nat.reduceSub, Nat.reduceMul, Nat.reduceLT, Nat.reduceLeDiff, Nat.reduceBNe, Int.reduceBEq, Int.reduceBNe, Int.reduceLT, Int.reduceLE, Spn.a, Msg.a, Eff.a]
          rfl
        rintro n σ ⟨j, p, hj, rfl, t0, t5, o26, t6, o62, t63, t64, t65⟩
        simp only [r_keeps_l12]
        by_cases hlt : j < l.length
        · have hlt' : (j : Int) < (l.length : Int) := by omega
          obtain ⟨x, hx⟩ := getM hlt
          have hxk := hok.2 x (List.mem_of_getElem? hx)
          have hw := wS (j := j) (by have := hok.1; omega)
          have hsl : endsL k (l.take (j + 1)) = endsL k (l.take j) ++ [x.key, x.hi] := by
            rw [List.take_add_one, hx]; simp [endsL]
          have hto : ((endsL k (l.take j)).map AV.str).take (2 * j + 1) = (endsL k (l.take j)).map AV.str := List.take_of_length_le (by rw [List.length_map, endsL_len, List.length_take]; omega)
          have hl1 := hok.1
          simp (maxSteps := 4000000) only [go_sem, ↓reduceIte, reduceCtorEq, Nat.reduceEqDiff, Nat.reduceBEq, Nat.reduceAdd, Nat.reduceSub, Nat.reduceMul, Nat.reduceLT, Nat.reduceLeDiff, Nat.reduceBNe, Int.reduceBEq, Int.reduceBNe, Int.reduceLT, Int.reduceLE, Spn.a, Msg.a, Eff.a, t0, t5, o26, t6, o62, t63, t64, t65, hlt', gM hx, List.length_map, Int.toNat_natCast, hw, hto]
          (repeat refine And.intro (by omega) ?_)
          refine ⟨⟨⟨by omega, by omega⟩, fun d hd => ?_⟩, l.length - (j + 1), by omega, j + 1, p, by omega, rfl, ?_, ?_, ?_, ?_, ?_, ?_, ?_, ?_⟩
          · rcases hd with rfl | rfl | hd
            · exact ⟨rfl, rfl⟩
            · exact ⟨rfl, rfl⟩
            · cases hd
          · simp (maxSteps := 4000000) only [go_sem, ↓reduceIte, reduceCtorEq, Nat.reduceEqDiff, Nat.reduceBEq, Nat.reduceAdd, Nat.reduceSub, Nat.reduceMul, Nat.reduceLT, Nat.reduceLeDiff, Nat.reduceBNe, Int.reduceBEq, Int.reduceBNe, Int.reduceLT, Int.reduceLE, Spn.a, Msg.a, Eff.a, t0]
          · simp (maxSteps := 4000000) only [go_sem, ↓reduceIte, reduceCtorEq, Nat.reduceEqDiff, Nat.reduceBEq, Nat.reduceAdd, Nat.reduceSub, Nat.reduceMul, Nat.reduceLT, Nat.reduceLeDiff, Nat.reduceBNe, Int.reduceBEq, Int.reduceBNe, Int.reduceLT, Int.reduceLE, Spn.a, Msg.a, Eff.a, t5]
          · simp (maxSteps := 4000000) only [go_sem, ↓reduceIte, reduceCtorEq, Nat.reduceEqDiff, Nat.reduceBEq, Nat.reduceAdd, Nat.reduceSub, Nat.reduceMul, Nat.reduceLT, Nat.reduceLeDiff, Nat.reduceBNe, Int.reduceBEq, Int.reduceBNe, Int.reduceLT, Int.reduceLE, Spn.a, Msg.a, Eff.a, o26]
          · simp (maxSteps := 4000000) only [go_sem, ↓reduceIte, reduceCtorEq, Nat.reduceEqDiff, Nat.reduceBEq, Nat.reduceAdd, Nat.reduceSub, Nat.reduceMul, Nat.reduceLT, Nat.reduceLeDiff, Nat.reduceBNe, Int.reduceBEq, Int.reduceBNe, Int.reduceLT, Int.reduceLE, Spn.a, Msg.a, Eff.a, show 2 * (j + 1) + 1 = 2 * j + 1 + 2 by omega]
          · simp (maxSteps := 4000000) only [go_sem, ↓reduceIte, reduceCtorEq, Nat.reduceEqDiff, Nat.reduceBEq, Nat.reduceAdd, Nat.reduceSub, Nat.reduceMul, Nat.reduceLT, Nat.reduceLeDiff, Nat.reduceBNe, Int.reduceBEq, Int.reduceBNe, Int.reduceLT, Int.reduceLE, Spn.a, Msg.a, Eff.a, hto, hsl, List.map_append]
          · simp (maxSteps := 4000000) only [go_sem, ↓reduceIte, reduceCtorEq, Nat.reduceEqDiff, Nat.reduceBEq, Nat.reduceAdd, Nat.reduceSub, Nat.reduceMul, Nat.reduceLT, Nat.reduceLeDiff, Nat.reduceBNe, Int.reduceBEq, Int.reduceBNe, Int.reduceLT, Int.reduceLE, Spn.a, Msg.a, Eff.a, t63]
          · simp (maxSteps := 4000000) only [go_sem, ↓reduceIte, reduceCtorEq, Nat.reduceEqDiff, Nat.reduceBEq, Nat.reduceAdd, Nat.reduceSub, Nat.reduceMul, Nat.reduceLT, Nat.reduceLeDiff, Nat.reduceBNe, Int.reduceBEq, Int.reduceBNe, Int.reduceLT, Int.reduceLE, Spn.a, Msg.a, Eff.a, t64]
          · simp (maxSteps := 4000000) only [go_sem, ↓reduceIte, reduceCtorEq, Nat.reduceEqDiff, Nat.reduceBEq, Nat.reduceAdd, Nat.reduceSub, Nat.reduceMul, Nat.reduceLT, Nat.reduceLeDiff, Nat.reduceBNe, Int.reduceBEq, Int.reduceBNe, Int.reduceLT, Int.reduceLE, Spn.a, Msg.a, Eff.a]
        · have hlt' : ¬ (j : Int) < (l.length : Int) := by omega
          have hjl : j = l.length := by omega
          have hl1 := hok.1
          have he1 : (endsL k l).length = 2 * j + 1 := by rw [endsL_len]; omega
          have hto : ((endsL k l).map AV.str).take (2 * j + 1) = (endsL k l).map AV.str := List.take_of_length_le (by rw [List.length_map]; omega)
          have hes : ∀ y, y ∈ endsL k l → y.size ≤ 999999 := by
            intro y hy
            unfold endsL at hy
            rcases List.mem_cons.1 hy with rfl | hy
            · omega
            · obtain ⟨m, hm, hy⟩ := List.mem_flatMap.1 hy
              have := hsm m hm
              simp only [List.mem_cons, List.not_mem_nil, or_false] at hy
              rcases hy with rfl | rfl <;> omega
          have hee : ∀ y, y ∈ someL (endsL k l) → y.size ≤ 1000000 := by
            intro y hy
            unfold someL at hy
            rcases List.mem_cons.1 hy with rfl | hy
            · exact Nat.zero_le _
            · obtain ⟨m, hm, hy⟩ := List.mem_flatMap.1 hy
              have := hes m hm
              simp only [List.mem_cons, List.not_mem_nil, or_false] at hy
              rcases hy with rfl | rfl
              · omega
              · rw [ByteArray.size_append]; show m.size + 1 ≤ _; omega
          have hel : (someL (endsL k l)).length ≤ 10000 := by rw [someL_len, endsL_len]; have := bulks_len l; omega
          simp (maxSteps := 4000000) only [go_sem, ↓reduceIte, reduceCtorEq, Nat.reduceEqDiff, Nat.reduceBEq, Nat.reduceAdd, Nat.reduceSub, Nat.reduceMul, Nat.reduceLT, Nat.reduceLeDiff, Nat.reduceBNe, Int.reduceBEq, Int.reduceBNe, Int.reduceLT, Int.reduceLE, Spn.a, Msg.a, Eff.a, t0, t5, o26, t6, o62, t63, t64, t65, hlt', List.length_map, List.take_of_length_le (show l.length ≤ j by omega), hto]
          (first | refine calling (someE (endsL k l) (by rw [endsL_len]; have := bulks_len l; omega) (fun y hy => by have := hes y hy; omega)) ?_ | refine callingH (someE (endsL k l) (by rw [endsL_len]; have := bulks_len l; omega) (fun y hy => by have := hes y hy; omega)) ?_)
          simp (maxSteps := 4000000) only [go_sem, ↓reduceIte, reduceCtorEq, Nat.reduceEqDiff, Nat.reduceBEq, Nat.reduceAdd, Nat.reduceSub, Nat.reduceMul, Nat.reduceLT, Nat.reduceLeDiff, Nat.reduceBNe, Int.reduceBEq, Int.reduceBNe, Int.reduceLT, Int.reduceLE, Spn.a, Msg.a, Eff.a, t0, t5, o26, List.length_map]
          generalize hE : someL (endsL k l) = E at hee hel ⊢
          refine run_loop (koI l (squeezeF l) E) (k := E.length) ⟨0, p, by omega, rfl, ?_, ?_, ?_, ?_, ?_, ?_, ?_⟩ ?_
          · simp (maxSteps := 4000000) only [go_sem, ↓reduceIte, reduceCtorEq, Nat.reduceEqDiff, Nat.reduceBEq, Nat.reduceAdd, Nat.reduceSub, Nat.reduceMul, Nat.reduceLT, Nat.reduceLeDiff, Nat.reduceBNe, Int.reduceBEq, Int.reduceBNe, Int.reduceLT, Int.reduceLE, Spn.a, Msg.a, Eff.a, t0]
          · simp (maxSteps := 4000000) only [go_sem, ↓reduceIte, reduceCtorEq, Nat.reduceEqDiff, Nat.reduceBEq, Nat.reduceAdd, Nat.reduceSub, Nat.reduceMul, Nat.reduceLT, Nat.reduceLeDiff, Nat.reduceBNe, Int.reduceBEq, Int.reduceBNe, Int.reduceLT, Int.reduceLE, Spn.a, Msg.a, Eff.a, t5]
          · simp (maxSteps := 4000000) only [go_sem, ↓reduceIte, reduceCtorEq, Nat.reduceEqDiff, Nat.reduceBEq, Nat.reduceAdd, Nat.reduceSub, Nat.reduceMul, Nat.reduceLT, Nat.reduceLeDiff, Nat.reduceBNe, Int.reduceBEq, Int.reduceBNe, Int.reduceLT, Int.reduceLE, Spn.a, Msg.a, Eff.a, o26]
          · simp (maxSteps := 4000000) only [go_sem, ↓reduceIte, reduceCtorEq, Nat.reduceEqDiff, Nat.reduceBEq, Nat.reduceAdd, Nat.reduceSub, Nat.reduceMul, Nat.reduceLT, Nat.reduceLeDiff, Nat.reduceBNe, Int.reduceBEq, Int.reduceBNe, Int.reduceLT, Int.reduceLE, Spn.a, Msg.a, Eff.a, List.length_map]
          · simp (maxSteps := 4000000) only [go_sem, ↓reduceIte, reduceCtorEq, Nat.reduceEqDiff, Nat.reduceBEq, Nat.reduceAdd, Nat.reduceSub, Nat.reduceMul, Nat.reduceLT, Nat.reduceLeDiff, Nat.reduceBNe, Int.reduceBEq, Int.reduceBNe, Int.reduceLT, Int.reduceLE, Spn.a, Msg.a, Eff.a]
          · simp (maxSteps := 4000000) only [go_sem, ↓reduceIte, reduceCtorEq, Nat.reduceEqDiff, Nat.reduceBEq, Nat.reduceAdd, Nat.reduceSub, Nat.reduceMul, Nat.reduceLT, Nat.reduceLeDiff, Nat.reduceBNe, Int.reduceBEq, Int.reduceBNe, Int.reduceLT, Int.reduceLE, Spn.a, Msg.a, Eff.a, List.length_map]
          · simp (maxSteps := 4000000) only [go_sem, ↓reduceIte, reduceCtorEq, Nat.reduceEqDiff, Nat.reduceBEq, Nat.reduceAdd, Nat.reduceSub, Nat.reduceMul, Nat.reduceLT, Nat.reduceLeDiff, Nat.reduceBNe, Int.reduceBEq, Int.reduceBNe, Int.reduceLT, Int.reduceLE, Spn.a, Msg.a, Eff.a]
            rfl
          rintro n σ ⟨j, p, hj, rfl, t0, t5, o26, t78, o78, t79, t80⟩
          simp only [r_keeps_l19]
          by_cases hlt : j < E.length
          · have hlt' : (j : Int) < (E.length : Int) := by omega
            obtain ⟨x, hx⟩ : ∃ x, E[j]? = some x := ⟨_, List.getElem?_eq_getElem hlt⟩
            have hg : (E.map AV.str).getD j .und = .str x := by rw [List.getD_eq_getElem?_getD, List.getElem?_map, hx]; rfl
            have hxs := hee x (List.mem_of_getElem? hx)
            have hw := wS (j := j) (by omega)
            by_cases h17 : (x.size : Int) ≤ 17
            · simp (maxSteps := 4000000) only [go_sem, ↓reduceIte, reduceCtorEq, Nat.reduceEqDiff, Nat.reduceBEq, Nat.reduceAdd, Nat.reduceSub, Nat.reduceMul, Nat.reduceLT, Nat.reduceLeDiff, Nat.reduceBNe, Int.reduceBEq, Int.reduceBNe, Int.reduceLT, Int.reduceLE, Spn.a, Msg.a, Eff.a, t0, t5, o26, t78, o78, t79, t80, hlt', hg, h17, List.length_map, Int.toNat_natCast, ht]
              (repeat refine And.intro (by omega) ?_)
              (first | refine calling (ref18On (squeezeF l) x hs hxs) ?_ | refine callingH (ref18On (squeezeF l) x hs hxs) ?_)
              rw [k1 x]
              simp (maxSteps := 4000000) only [go_sem, ↓reduceIte, reduceCtorEq, Nat.reduceEqDiff, Nat.reduceBEq, Nat.reduceAdd, Nat.reduceSub, Nat.reduceMul, Nat.reduceLT, Nat.reduceLeDiff, Nat.reduceBNe, Int.reduceBEq, Int.reduceBNe, Int.reduceLT, Int.reduceLE, Spn.a, Msg.a, Eff.a, t0, t5, o26, t78, o78, t79, t80, hlt', hg, h17, List.length_map, Int.toNat_natCast, ht]
              (first | refine calling (ref18On l x hok hxs) ?_ | refine callingH (ref18On l x hok hxs) ?_)
              simp (maxSteps := 4000000) only [go_sem, ↓reduceIte, reduceCtorEq, Nat.reduceEqDiff, Nat.reduceBEq, Nat.reduceAdd, Nat.reduceSub, Nat.reduceMul, Nat.reduceLT, Nat.reduceLeDiff, Nat.reduceBNe, Int.reduceBEq, Int.reduceBNe, Int.reduceLT, Int.reduceLE, Spn.a, Msg.a, Eff.a, t0, t5, o26, t78, o78, t79, t80, hw]
              refine ⟨E.length - (j + 1), by omega, j + 1, p, by omega, rfl, ?_, ?_, ?_, ?_, ?_, ?_, ?_⟩ <;>
                (simp (maxSteps := 4000000) only [go_sem, ↓reduceIte, reduceCtorEq, Nat.reduceEqDiff, Nat.reduceBEq, Nat.reduceAdd, Nat.reduceSub, Nat.reduceMul, Nat.reduceLT, Nat.reduceLeDiff, Nat.reduceBNe, Int.reduceBEq, Int.reduceBNe, Int.reduceLT, Int.reduceLE, Spn.a, Msg.a, Eff.a, t0, t5, o26, t78, o78, t79, t80])
            · simp (maxSteps := 4000000) only [go_sem, ↓reduceIte, reduceCtorEq, Nat.reduceEqDiff, Nat.reduceBEq, Nat.reduceAdd, Nat.reduceSub, Nat.reduceMul, Nat.reduceLT, Nat.reduceLeDiff, Nat.reduceBNe, Int.reduceBEq, Int.reduceBNe, Int.reduceLT, Int.reduceLE, Spn.a, Msg.a, Eff.a, t0, t5, o26, t78, o78, t79, t80, hlt', hg, h17, List.length_map, Int.toNat_natCast, hw]
              (repeat refine And.intro (by omega) ?_)
              refine ⟨E.length - (j + 1), by omega, j + 1, p, by omega, rfl, ?_, ?_, ?_, ?_, ?_, ?_, ?_⟩ <;>
                (simp (maxSteps := 4000000) only [go_sem, ↓reduceIte, reduceCtorEq, Nat.reduceEqDiff, Nat.reduceBEq, Nat.reduceAdd, Nat.reduceSub, Nat.reduceMul, Nat.reduceLT, Nat.reduceLeDiff, Nat.reduceBNe, Int.reduceBEq, Int.reduceBNe, Int.reduceLT, Int.reduceLE, Spn.a, Msg.a, Eff.a, t0, t5, o26, t78, o78, t79, t80])
          · have hlt' : ¬ (j : Int) < (E.length : Int) := by omega
            simp (maxSteps := 4000000) only [go_sem, ↓reduceIte, reduceCtorEq, Nat.reduceEqDiff, Nat.reduceBEq, Nat.reduceAdd, Nat.reduceSub, Nat.reduceMul, Nat.reduceLT, Nat.reduceLeDiff, Nat.reduceBNe, Int.reduceBEq, Int.reduceBNe, Int.reduceLT, Int.reduceLE, Spn.a, Msg.a, Eff.a, t0, t5, o26, t78, o78, t79, t80, hlt']
            (first | refine calling awake_ok ?_ | refine callingH awake_ok ?_)
            simp (maxSteps := 4000000) only [go_sem, ↓reduceIte, reduceCtorEq, Nat.reduceEqDiff, Nat.reduceBEq, Nat.reduceAdd, Nat.reduceSub, Nat.reduceMul, Nat.reduceLT, Nat.reduceLeDiff, Nat.reduceBNe, Int.reduceBEq, Int.reduceBNe, Int.reduceLT, Int.reduceLE, Spn.a, Msg.a, Eff.a]

theorem run_args {f : FuncId} {w : World} {ds : List AV} {vs : List Value} (hl : ds.length = vs.length) (h : ∀ (j : Nat) (d : AV) (u : Value), ds[j]? = some d → vs[j]? = some u → VR (fun b _ => b < w.heap.size) w d u) (hA : AFn Try.prog f ds (.bool true)) :
    Calls Try.prog f ⟨vs⟩ w fun e w' => e = .returned (.bool true) ∧ Below w.heap.size w w' := by
  have := hA.calls w (fun b _ => b < w.heap.size) vs (fun b o hb => hb) hl h
  refine this.mono fun e w' ⟨u, he, hb, hr⟩ => ?_
  have hr' : VR (fun b o => (fun b _ => b < w.heap.size) b o ∨ w.heap.size ≤ b) w' (.bool true) u := hr
  cases hr'
  exact ⟨he, hb⟩
theorem keeps_walk (v : Value) (l : List Msg) (k : ByteArray) (w : World) (h : Sl msgE w v l) (hk : k.size ≤ 281474976710656) : Calls Try.prog 7 #[v, .string k] w fun e w' => e = .returned (.bool true) ∧ Below w.heap.size w w' :=
  run_args (vs := [v, .string k]) rfl (fun j d u hj hu => by
    cases j with
    | zero => cases hj; cases hu; exact VR.of_msgs h
    | succ j =>
      cases j with
      | zero => cases hj; cases hu; exact .str _
      | succ j => simp at hj) (keeps_law l k (big_of h) hk)
end Go.Proofs.Ytdjkefndigijjaa
