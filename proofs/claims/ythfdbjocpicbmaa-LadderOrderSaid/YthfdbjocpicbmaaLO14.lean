/-
  Part 14 of a proof: TeF, TeG, LoB.
-/
import Derived.Test.YthfdbjocpicbmaaLO13
namespace Go.Proofs.Ythfdbjocpicbmaa
attribute [local go_sem] ev0 ev1 ev2 ev3 ev4 evA stHOk.eq_1 stHOk.eq_2 stHSt.eq_1 stHSt.eq_2 okV valV fzV okF valF okBld valBld mxOk.eq_1 mxOk.eq_2 mxVal.eq_1 mxVal.eq_2 cellFit.eq_1 cellFit.eq_2 cellFit.eq_3 cellEq.eq_1 cellEq.eq_2 cellEq.eq_3 upd_at AV.flatB AV.flatBs binIok binIV binSok binSV cellsOk.eq_1 cellsOk.eq_2 cellsVal.eq_1 cellsVal.eq_2 objCells.eq_1 objCells.eq_2 objZ.eq_1 objZ.eq_2 objProt.eq_1 objProt.eq_2 oneObj ptrOk.eq_1 ptrOk.eq_2 ptrOk.eq_3 ptrCells.eq_1 ptrCells.eq_2 ptrCells.eq_3 lenOk.eq_1 lenOk.eq_2 lenOk.eq_3 lenOk.eq_4 lenVal.eq_1 lenVal.eq_2 lenVal.eq_3 lenVal.eq_4 faOk.eq_1 faOk.eq_2 faOk.eq_3 faVal.eq_1 faVal.eq_2 faVal.eq_3 iaOk.eq_1 iaOk.eq_2 iaOk.eq_3 iaVal.eq_1 iaVal.eq_2 iaVal.eq_3 slcLen.eq_1 slcLen.eq_2 slcLen.eq_3 slcLen.eq_4 bdOk.eq_1 bdOk.eq_2 bdVal.eq_1 bdVal.eq_2 slcOk.eq_1 slcOk.eq_2 slcOk.eq_3 slcOk.eq_4 slcVal.eq_1 slcVal.eq_2 slcVal.eq_3 slcVal.eq_4 slcFz.eq_1 slcFz.eq_2 loK.eq_1 loK.eq_2 loK.eq_3 rsVal.eq_1 rsVal.eq_2 rsVal.eq_3 byOk.eq_1 byOk.eq_2 byOk.eq_3 byOk.eq_4 byOk.eq_5 byOk.eq_6 byOk.eq_7 byOk.eq_8 byVal.eq_1 byVal.eq_2 byVal.eq_3 byFz.eq_1 byFz.eq_2 byFz.eq_3 byOks byVals byFzs allOne resSt.eq_1 resSt.eq_2 resName.eq_1 resName.eq_2 stOk.eq_1 stOk.eq_2 stArr.eq_1 stArr.eq_2 stSt.eq_1 stSt.eq_2 AV.patch nameOk_none gB.eq_1 gB.eq_2 gB.eq_3 gIs.eq_1 gIs.eq_2 gIs.eq_3 retV resV resVs evalV cellsV St.byval List.getD_cons_zero List.getD_cons_succ List.getD_nil List.map_cons List.map_nil List.length_cons List.length_nil List.take_succ_cons List.take_zero List.drop_succ_cons List.drop_zero List.headD_cons List.set_cons_zero List.append_nil List.nil_append List.cons_append List.contains_cons List.contains_nil List.elem_cons List.elem_nil List.all_cons List.all_nil List.getElem?_cons_zero List.getElem?_cons_succ List.filterMap_cons List.filterMap_nil Option.isSome_some Option.isSome_none Option.map_some Option.map_none Option.some.injEq AV.int.injEq AV.bool.injEq AV.str.injEq AV.tup.injEq AV.agg.injEq AV.sl.injEq List.cons.injEq Bool.false_eq_true Bool.true_eq_false Bool.not_true Bool.not_false Bool.and_true Bool.true_and Bool.or_false Bool.or_true Bool.false_or Bool.true_or Bool.or_self Bool.and_self Bool.not_eq_true' Bool.not_eq_false' Bool.not_not beq_self_eq_true true_and and_true false_and and_false and_self not_true_eq_false not_false_eq_true forall_const true_implies false_implies implies_true imp_self Nat.lt_add_one Nat.le_refl Nat.zero_le Nat.add_zero Nat.zero_add decide_true decide_false decide_eq_true_eq decide_eq_false_iff_not exists_eq_left exists_eq_left' ge_iff_le gt_iff_lt ite_branch ite_branch' nilOk.eq_1 nilOk.eq_2 nilMay.eq_1 nilMay.eq_2 AV.isSl.eq_1 objTy'.eq_1 objTy'.eq_2 apSt.eq_1 apArr.eq_1 apArr.eq_2 apTwo.eq_1 apTwo.eq_2 apSt2.eq_1 apArr2.eq_1 apArr2.eq_2 slOf.eq_1 fitsV List.mem_cons List.not_mem_nil Bool.false_and Bool.and_false primOk.eq_1 primOk.eq_2 primOk.eq_3 primOk.eq_4 primOk.eq_5 primVal.eq_1 primVal.eq_2 primVal.eq_3 primVal.eq_4 primVal.eq_5 mOk.eq_1 mOk.eq_2 mVal.eq_1 mVal.eq_2 mFz.eq_1 mFz.eq_2 mOks mVals mFzs mCalOk.eq_1 mCalOk.eq_2 mFn.eq_1 mFn.eq_2 mArgs.eq_1 mArgs.eq_2 ckOk.eq_1 ckOk.eq_2 cloOk.eq_1 ptrAt.eq_1 sh.eq_1 sh.eq_2 sh.eq_3 sh.eq_4 sh.eq_5 sh.eq_6 retM shH_small evM entOk.eq_1 entOk.eq_2 ents.eq_1 ents.eq_2 kI.eq_1 mpOk.eq_1 mpR.eq_1 lkV.eq_1 lkV.eq_2 remp.eq_2 evP pvOk.eq_1 pvOk.eq_2 pvVal.eq_1 pvVal.eq_2 plOk.eq_1 plOk.eq_2 plOk.eq_3 plV.eq_1 plV.eq_2 plF.eq_1 plF.eq_2 plVal.eq_1 plVal.eq_2 plFz.eq_1 plFz.eq_2 lpOk.eq_1 lpOk.eq_2 lpVal.eq_1 lpVal.eq_2 lpFz.eq_1 lpFz.eq_2 stpOk.eq_1 stpOk.eq_2 stpSt.eq_1 stpSt.eq_2 stpArr.eq_1 keepS.eq_1 keepS.eq_2
section
/-
  Trees of the document: whether a node may be, and whether it is placed well: walked.
-/
open Go.RowKit
set_option linter.unusedVariables false
set_option linter.unusedSimpArgs false
set_option maxRecDepth 100000
attribute [local go_sem ↓] runOp headOp
attribute [local go_sem ↓] ir_right21
attribute [local go_sem] res_right21 e_right21_0 t_right21_0 e_right21_1 t_right21_1 e_right21_2 e_right21_3 t_right21_3 e_right21_4 e_right21_5 t_right21_5 e_right21_6 t_right21_6 e_right21_7 t_right21_7
/-! ### percolate/percolateref28.Placed -/
def r_placed_0 : Reg := ⟨[], [⟨(.box 14 40 (.t 0)), (some 1), none, [], []⟩, ⟨(.mv (.c (.bool false))), (some 2), none, [], []⟩], [1], [], false⟩
def t_placed_1 : List ROp := [⟨(.faddr 0 (.t 1)), (some 7), none, [], []⟩, ⟨(.faddr 5 (.t 7)), (some 8), none, [], []⟩, ⟨(.load 1 false (.t 8)), (some 9), none, [], []⟩, ⟨(.faddr 10 (.t 1)), (some 10), none, [], []⟩, ⟨(.faddr 2 (.t 10)), (some 11), none, [], []⟩, ⟨(.load 1 false (.t 11)), (some 12), none, [], []⟩, ⟨(.beq true (.t 9) (.t 12)), (some 13), none, [], []⟩, ⟨(.mv (.t 13)), (some 14), none, [], []⟩, ⟨(.faddr 0 (.t 1)), (some 15), (some (14, false)), [], []⟩, ⟨(.faddr 4 (.t 15)), (some 16), (some (14, false)), [], []⟩, ⟨(.load 1 false (.t 16)), (some 17), (some (14, false)), [], []⟩, ⟨(.faddr 10 (.t 1)), (some 18), (some (14, false)), [], []⟩, ⟨(.faddr 1 (.t 18)), (some 19), (some (14, false)), [], []⟩, ⟨(.load 1 false (.t 19)), (some 20), (some (14, false)), [], []⟩, ⟨(.bin .neq (.t 17) (.t 20)), (some 21), (some (14, false)), [], []⟩, ⟨(.pick (.t 14) (.c (.bool true)) (.t 21)), (some 22), none, [], []⟩]
def r_placed_1 : Reg := ⟨[], t_placed_1, [], [], false⟩
def r_placed_2 : Reg := ⟨[], [⟨(.mv (.c (.bool false))), (some 2), none, [], []⟩], [], [], false⟩
def r_placed_3 : Reg := ⟨[], [⟨(.mv (.c (.int .i64 0))), (some 3), none, [], []⟩], [], [], false⟩
def t_placed_4 : List ROp := [⟨(.mv (.t 3)), (some 23), none, [], []⟩, ⟨(.faddr 0 (.t 1)), (some 24), none, [], []⟩, ⟨(.faddr 9 (.t 24)), (some 25), none, [], []⟩, ⟨(.load 1 false (.t 25)), (some 26), none, [], []⟩, ⟨(.len false (.t 26)), (some 27), none, [], []⟩, ⟨(.bin .lss (.t 23) (.t 27)), (some 28), none, [], []⟩]
def r_placed_4 : Reg := ⟨[], t_placed_4, [], [], false⟩
def t_placed_5 : List ROp := [⟨(.callv (.c (.clo 119 [] [])) [(.t 32), (.t 39)]), (some 40), none, [], []⟩, ⟨(.un .not (.t 40)), (some 41), none, [], []⟩]
def h_placed_5 : List ROp := [⟨(.faddr 10 (.t 1)), (some 31), none, [40], []⟩, ⟨(.load 3 true (.t 31)), (some 32), none, [40], []⟩, ⟨(.faddr 0 (.t 1)), (some 33), none, [40], []⟩, ⟨(.faddr 9 (.t 33)), (some 34), none, [40], []⟩, ⟨(.load 1 false (.t 34)), (some 35), none, [40], []⟩, ⟨(.mv (.t 3)), (some 36), none, [40], []⟩, ⟨(.iaddr 2 (.t 35) (.t 36)), (some 37), none, [40], []⟩, ⟨(.faddr 0 (.t 37)), (some 38), none, [40], []⟩, ⟨(.load 1 false (.t 38)), (some 39), none, [40], []⟩]
def r_placed_5 : Reg := ⟨h_placed_5, t_placed_5, [40], [], true⟩
def r_placed_6 : Reg := ⟨[], [⟨(.mv (.c (.bool false))), (some 2), none, [], []⟩], [], [], false⟩
def t_placed_7 : List ROp := [⟨(.mv (.t 3)), (some 29), none, [], []⟩, ⟨(.bin .add (.t 29) (.c (.int .i64 1))), (some 30), none, [], []⟩, ⟨(.mv (.t 30)), (some 3), none, [], []⟩]
def r_placed_7 : Reg := ⟨[], t_placed_7, [], [], false⟩
def r_placed_l8 : IR := (.seq (.seq (.reg r_placed_4)
  (.cond (.t 28) .skip
  (.exit 0)))
  (.seq (.block 1 (.seq (.reg r_placed_5)
  (.cond (.t 41) (.seq (.reg r_placed_6)
  .ret)
  .skip)))
  (.reg r_placed_7)))
def r_placed_9 : Reg := ⟨[], [⟨(.mv (.c (.int .i64 0))), (some 4), none, [], []⟩], [], [], false⟩
def t_placed_10 : List ROp := [⟨(.mv (.t 4)), (some 42), none, [], []⟩, ⟨(.faddr 0 (.t 1)), (some 43), none, [], []⟩, ⟨(.faddr 2 (.t 43)), (some 44), none, [], []⟩, ⟨(.load 1 false (.t 44)), (some 45), none, [], []⟩, ⟨(.len false (.t 45)), (some 46), none, [], []⟩, ⟨(.bin .lss (.t 42) (.t 46)), (some 47), none, [], []⟩]
def r_placed_10 : Reg := ⟨[], t_placed_10, [], [], false⟩
def t_placed_11 : List ROp := [⟨(.bin .eql (.t 66) (.t 69)), (some 70), (some (60, false)), [], []⟩, ⟨(.pick (.t 60) (.c (.bool true)) (.t 70)), (some 71), none, [], []⟩]
def h_placed_11 : List ROp := [⟨(.faddr 10 (.t 1)), (some 50), none, [58], []⟩, ⟨(.load 3 true (.t 50)), (some 51), none, [58], []⟩, ⟨(.faddr 0 (.t 1)), (some 52), none, [58], []⟩, ⟨(.faddr 2 (.t 52)), (some 53), none, [58], []⟩, ⟨(.load 1 false (.t 53)), (some 54), none, [58], []⟩, ⟨(.mv (.t 4)), (some 55), none, [58], []⟩, ⟨(.iaddr 1 (.t 54) (.t 55)), (some 56), none, [58], []⟩, ⟨(.load 1 false (.t 56)), (some 57), none, [58], []⟩, ⟨(.callv (.c (.clo 119 [] [])) [(.t 51), (.t 57)]), (some 58), none, [], []⟩, ⟨(.un .not (.t 58)), (some 59), none, [], []⟩, ⟨(.mv (.t 59)), (some 60), none, [], []⟩, ⟨(.faddr 0 (.t 1)), (some 61), (some (60, false)), [], []⟩, ⟨(.faddr 2 (.t 61)), (some 62), (some (60, false)), [], []⟩, ⟨(.load 1 false (.t 62)), (some 63), (some (60, false)), [], []⟩, ⟨(.mv (.t 4)), (some 64), (some (60, false)), [], []⟩, ⟨(.iaddr 1 (.t 63) (.t 64)), (some 65), (some (60, false)), [], []⟩, ⟨(.load 1 false (.t 65)), (some 66), (some (60, false)), [], []⟩, ⟨(.faddr 10 (.t 1)), (some 67), (some (60, false)), [], []⟩, ⟨(.faddr 0 (.t 67)), (some 68), (some (60, false)), [], []⟩, ⟨(.load 1 false (.t 68)), (some 69), (some (60, false)), [], []⟩]
def r_placed_11 : Reg := ⟨h_placed_11, t_placed_11, [58], [], true⟩
def r_placed_12 : Reg := ⟨[], [⟨(.mv (.c (.bool false))), (some 2), none, [], []⟩], [], [], false⟩
def t_placed_13 : List ROp := [⟨(.mv (.t 4)), (some 48), none, [], []⟩, ⟨(.bin .add (.t 48) (.c (.int .i64 1))), (some 49), none, [], []⟩, ⟨(.mv (.t 49)), (some 4), none, [], []⟩]
def r_placed_13 : Reg := ⟨[], t_placed_13, [], [], false⟩
def r_placed_l14 : IR := (.seq (.seq (.reg r_placed_10)
  (.cond (.t 47) .skip
  (.exit 2)))
  (.seq (.block 3 (.seq (.reg r_placed_11)
  (.cond (.t 71) (.seq (.reg r_placed_12)
  .ret)
  .skip)))
  (.reg r_placed_13)))
def r_placed_15 : Reg := ⟨[], [⟨(.mv (.c (.int .i64 0))), (some 5), none, [], []⟩], [], [], false⟩
def t_placed_16 : List ROp := [⟨(.mv (.t 5)), (some 72), none, [], []⟩, ⟨(.faddr 0 (.t 1)), (some 73), none, [], []⟩, ⟨(.faddr 8 (.t 73)), (some 74), none, [], []⟩, ⟨(.load 1 false (.t 74)), (some 75), none, [], []⟩, ⟨(.len false (.t 75)), (some 76), none, [], []⟩, ⟨(.bin .lss (.t 72) (.t 76)), (some 77), none, [], []⟩]
def r_placed_16 : Reg := ⟨[], t_placed_16, [], [], false⟩
def t_placed_17 : List ROp := [⟨(.faddr 0 (.t 1)), (some 80), none, [86, 6], []⟩, ⟨(.faddr 8 (.t 80)), (some 81), none, [86, 6], []⟩, ⟨(.load 1 false (.t 81)), (some 82), none, [86, 6], []⟩, ⟨(.mv (.t 5)), (some 83), none, [86, 6], []⟩, ⟨(.iaddr 6 (.t 82) (.t 83)), (some 84), none, [86, 6], []⟩, ⟨(.load 6 true (.t 84)), (some 85), none, [86, 6], []⟩, ⟨(.callv (.c (.clo 120 [] [])) [(.t 85)]), (some 86), none, [6], []⟩, ⟨(.alloc 3 38 (.agg [(.str ⟨#[]⟩), (.str ⟨#[]⟩), (.bool false)])), (some 6), none, [], []⟩, ⟨(.store 3 (.t 6) (.t 86)), none, none, [], []⟩]
def r_placed_17 : Reg := ⟨[], t_placed_17, [86, 6], [], false⟩
def t_placed_18 : List ROp := [⟨(.callv (.c (.clo 92 [] [])) [(.t 91)]), (some 92), none, [], []⟩, ⟨(.feq true [(0, 1), (1, 1), (2, 2)] (.t 90) (.t 92)), (some 93), none, [], []⟩]
def h_placed_18 : List ROp := [⟨(.load 3 true (.t 6)), (some 87), none, [90, 92], []⟩, ⟨(.faddr 10 (.t 1)), (some 88), none, [90, 92], []⟩, ⟨(.load 3 true (.t 88)), (some 89), none, [90, 92], []⟩, ⟨(.callv (.c (.clo 54 [] [])) [(.t 87), (.t 89)]), (some 90), none, [92], []⟩, ⟨(.load 3 true (.t 6)), (some 91), none, [90, 92], []⟩]
def r_placed_18 : Reg := ⟨h_placed_18, t_placed_18, [90, 92], [], true⟩
def r_placed_19 : Reg := ⟨[], [⟨(.mv (.c (.bool false))), (some 2), none, [], []⟩], [], [], false⟩
def t_placed_20 : List ROp := [⟨(.mv (.t 5)), (some 78), none, [], []⟩, ⟨(.bin .add (.t 78) (.c (.int .i64 1))), (some 79), none, [], []⟩, ⟨(.mv (.t 79)), (some 5), none, [], []⟩]
def r_placed_20 : Reg := ⟨[], t_placed_20, [], [], false⟩
def r_placed_l21 : IR := (.seq (.seq (.reg r_placed_16)
  (.cond (.t 77) .skip
  (.exit 4)))
  (.seq (.block 5 (.seq (.reg r_placed_17)
  (.seq (.reg r_placed_18)
  (.cond (.t 93) (.seq (.reg r_placed_19)
  .ret)
  .skip))))
  (.reg r_placed_20)))
def r_placed_22 : Reg := ⟨[], [⟨(.mv (.c (.bool true))), (some 2), none, [], []⟩], [], [], false⟩
def ir_placed : IR := (.seq (.reg r_placed_0)
  (.seq (.seq (.reg r_placed_1)
  (.cond (.t 22) (.seq (.reg r_placed_2)
  .ret)
  .skip))
  (.seq (.seq (.reg r_placed_3)
  (.block 0 (.loop r_placed_l8)))
  (.seq (.seq (.reg r_placed_9)
  (.block 2 (.loop r_placed_l14)))
  (.seq (.seq (.reg r_placed_15)
  (.block 4 (.loop r_placed_l21)))
  (.seq (.reg r_placed_22)
  .ret))))))
def res_placed : List RDesc := [(.tmp 2)]
theorem e_placed_0 (C : FuncId → List AV → AV → Prop) (σ : St) (K : St → Prop) : runReg C r_placed_0 σ K = runOps C [⟨(.box 14 40 (.t 0)), (some 1), none, [], []⟩, ⟨(.mv (.c (.bool false))), (some 2), none, [], []⟩] (σ.kills [1]) K := rfl
theorem e_placed_1 (C : FuncId → List AV → AV → Prop) (σ : St) (K : St → Prop) : runReg C r_placed_1 σ K = runOps C t_placed_1 (σ.kills []) K := rfl
theorem e_placed_2 (C : FuncId → List AV → AV → Prop) (σ : St) (K : St → Prop) : runReg C r_placed_2 σ K = runOps C [⟨(.mv (.c (.bool false))), (some 2), none, [], []⟩] (σ.kills []) K := rfl
theorem e_placed_3 (C : FuncId → List AV → AV → Prop) (σ : St) (K : St → Prop) : runReg C r_placed_3 σ K = runOps C [⟨(.mv (.c (.int .i64 0))), (some 3), none, [], []⟩] (σ.kills []) K := rfl
theorem e_placed_4 (C : FuncId → List AV → AV → Prop) (σ : St) (K : St → Prop) : runReg C r_placed_4 σ K = runOps C t_placed_4 (σ.kills []) K := rfl
theorem e_placed_5 (C : FuncId → List AV → AV → Prop) (σ : St) (K : St → Prop) : runReg C r_placed_5 σ K = runHead C [] t_placed_5 h_placed_5 (σ.kills [40]) K := rfl
theorem e_placed_6 (C : FuncId → List AV → AV → Prop) (σ : St) (K : St → Prop) : runReg C r_placed_6 σ K = runOps C [⟨(.mv (.c (.bool false))), (some 2), none, [], []⟩] (σ.kills []) K := rfl
theorem e_placed_7 (C : FuncId → List AV → AV → Prop) (σ : St) (K : St → Prop) : runReg C r_placed_7 σ K = runOps C t_placed_7 (σ.kills []) K := rfl
theorem e_placed_9 (C : FuncId → List AV → AV → Prop) (σ : St) (K : St → Prop) : runReg C r_placed_9 σ K = runOps C [⟨(.mv (.c (.int .i64 0))), (some 4), none, [], []⟩] (σ.kills []) K := rfl
theorem e_placed_10 (C : FuncId → List AV → AV → Prop) (σ : St) (K : St → Prop) : runReg C r_placed_10 σ K = runOps C t_placed_10 (σ.kills []) K := rfl
theorem e_placed_11 (C : FuncId → List AV → AV → Prop) (σ : St) (K : St → Prop) : runReg C r_placed_11 σ K = runHead C [] t_placed_11 h_placed_11 (σ.kills [58]) K := rfl
theorem e_placed_12 (C : FuncId → List AV → AV → Prop) (σ : St) (K : St → Prop) : runReg C r_placed_12 σ K = runOps C [⟨(.mv (.c (.bool false))), (some 2), none, [], []⟩] (σ.kills []) K := rfl
theorem e_placed_13 (C : FuncId → List AV → AV → Prop) (σ : St) (K : St → Prop) : runReg C r_placed_13 σ K = runOps C t_placed_13 (σ.kills []) K := rfl
theorem e_placed_15 (C : FuncId → List AV → AV → Prop) (σ : St) (K : St → Prop) : runReg C r_placed_15 σ K = runOps C [⟨(.mv (.c (.int .i64 0))), (some 5), none, [], []⟩] (σ.kills []) K := rfl
theorem e_placed_16 (C : FuncId → List AV → AV → Prop) (σ : St) (K : St → Prop) : runReg C r_placed_16 σ K = runOps C t_placed_16 (σ.kills []) K := rfl
theorem e_placed_17 (C : FuncId → List AV → AV → Prop) (σ : St) (K : St → Prop) : runReg C r_placed_17 σ K = runOps C t_placed_17 (σ.kills [86, 6]) K := rfl
theorem e_placed_18 (C : FuncId → List AV → AV → Prop) (σ : St) (K : St → Prop) : runReg C r_placed_18 σ K = runHead C [] t_placed_18 h_placed_18 (σ.kills [90, 92]) K := rfl
theorem e_placed_19 (C : FuncId → List AV → AV → Prop) (σ : St) (K : St → Prop) : runReg C r_placed_19 σ K = runOps C [⟨(.mv (.c (.bool false))), (some 2), none, [], []⟩] (σ.kills []) K := rfl
theorem e_placed_20 (C : FuncId → List AV → AV → Prop) (σ : St) (K : St → Prop) : runReg C r_placed_20 σ K = runOps C t_placed_20 (σ.kills []) K := rfl
theorem e_placed_22 (C : FuncId → List AV → AV → Prop) (σ : St) (K : St → Prop) : runReg C r_placed_22 σ K = runOps C [⟨(.mv (.c (.bool true))), (some 2), none, [], []⟩] (σ.kills []) K := rfl
theorem fn_placed {args : List AV} {r : AV} (ha : args.length.ble Try.f89.ntmps = true) (h : run (AFn Try.prog) ir_placed (endQ res_placed r) (initSt args)) : AFn Try.prog 89 args r :=
  AFn.of_code (pv := false) (hint := fun _ => []) (c := Try.f89.body.getD .skip) (by kernel_rfl) (by kernel_rfl) Try.func89 (by kernel_rfl) (by kernel_rfl) (by kernel_rfl) (of_decide_eq_true (by kernel_rfl)) (Nat.le_of_ble_eq_true ha) (Nat.le_of_ble_eq_true (by kernel_rfl)) (run_ok h)
attribute [local go_sem ↓] ir_placed
attribute [local go_sem] res_placed e_placed_0 e_placed_1 t_placed_1 e_placed_2 e_placed_3 e_placed_4 t_placed_4 e_placed_5 t_placed_5 h_placed_5 e_placed_6 e_placed_7 t_placed_7 e_placed_9 e_placed_10 t_placed_10 e_placed_11 t_placed_11 h_placed_11 e_placed_12 e_placed_13 t_placed_13 e_placed_15 e_placed_16 t_placed_16 e_placed_17 t_placed_17 e_placed_18 t_placed_18 h_placed_18 e_placed_19 e_placed_20 t_placed_20 e_placed_22
def nilB0 (x : ByteArray) : Bool := x.toList == (⟨#[]⟩ : ByteArray).toList
def topB (n : Nd) : Bool := if n.top then nilB0 n.high && decide (n.right = -1) else !nilB0 n.high && decide ((n.high.size : Int) ≤ 16) && decide (0 ≤ n.right)
def ndB (c : Cfg) (n : Nd) : Bool := decide (0 ≤ n.slot) && decide (0 ≤ n.level) && decide (0 ≤ n.seen) && topB n && (if n.level = 0 then leafB c n else innerB c n)
set_option maxHeartbeats 2000000 in
theorem right21_ok (c : Cfg) (n : Nd) (hn : n.Lt) : AFn Try.prog 88 [c.a, n.a] (.bool (ndB c n)) := by
  refine fn_right21 rfl ?_
  have cl := leaf21_ok c n hn
  have ci := inner21_ok c n hn
  unfold ndB
  generalize leafB c n = bl at *
  generalize innerB c n = bi at *
  have hT : ∀ b, topB n = b → topB n = b := fun _ h => h
  by_cases q1 : 0 ≤ n.slot
  case neg =>
    have q1' : n.slot < 0 := by omega
    rw [decide_eq_false q1]
    (repeat (first | simp (maxSteps := 4000000) only [go_sem, ↓reduceIte, reduceCtorEq, Nat.reduceEqDiff, Nat.reduceBEq, Nat.reduceAdd, Nat.reduceSub, Nat.reduceMul, Nat.reduceLT, Nat.reduceLeDiff, Nat.reduceBNe, Int.reduceBEq, Int.reduceBNe, Int.reduceLT, Int.reduceLE, Spn.a, Msg.a, Par.a, Nd.a, Seat.a, Cfg.a, q1'] | refine calling (cl) ?_ | refine callingH (cl) ?_ | refine calling (ci) ?_ | refine callingH (ci) ?_ | refine And.intro (by omega) ?_ | refine And.intro (fun d hd => by (repeat (rcases hd with rfl | hd; · exact ⟨rfl, rfl⟩)); cases hd) ?_))
  have q1' : ¬ n.slot < 0 := by omega
  rw [decide_eq_true q1]
  by_cases q2 : 0 ≤ n.level
  case neg =>
    have q2' : n.level < 0 := by omega
    rw [decide_eq_false q2]
    (repeat (first | simp (maxSteps := 4000000) only [go_sem, ↓reduceIte, reduceCtorEq, Nat.reduceEqDiff, Nat.reduceBEq, Nat.reduceAdd, Nat.reduceSub, Nat.reduceMul, Nat.reduceLT, Nat.reduceLeDiff, Nat.reduceBNe, Int.reduceBEq, Int.reduceBNe, Int.reduceLT, Int.reduceLE, Spn.a, Msg.a, Par.a, Nd.a, Seat.a, Cfg.a, q1', q2'] | refine calling (cl) ?_ | refine callingH (cl) ?_ | refine calling (ci) ?_ | refine callingH (ci) ?_ | refine And.intro (by omega) ?_ | refine And.intro (fun d hd => by (repeat (rcases hd with rfl | hd; · exact ⟨rfl, rfl⟩)); cases hd) ?_))
  have q2' : ¬ n.level < 0 := by omega
  rw [decide_eq_true q2]
  by_cases q3 : 0 ≤ n.seen
  case neg =>
    have q3' : n.seen < 0 := by omega
    rw [decide_eq_false q3]
    (repeat (first | simp (maxSteps := 4000000) only [go_sem, ↓reduceIte, reduceCtorEq, Nat.reduceEqDiff, Nat.reduceBEq, Nat.reduceAdd, Nat.reduceSub, Nat.reduceMul, Nat.reduceLT, Nat.reduceLeDiff, Nat.reduceBNe, Int.reduceBEq, Int.reduceBNe, Int.reduceLT, Int.reduceLE, Spn.a, Msg.a, Par.a, Nd.a, Seat.a, Cfg.a, q1', q2', q3'] | refine calling (cl) ?_ | refine callingH (cl) ?_ | refine calling (ci) ?_ | refine callingH (ci) ?_ | refine And.intro (by omega) ?_ | refine And.intro (fun d hd => by (repeat (rcases hd with rfl | hd; · exact ⟨rfl, rfl⟩)); cases hd) ?_))
  have q3' : ¬ n.seen < 0 := by omega
  rw [decide_eq_true q3]
  have hz : (n.level == 0) = decide (n.level = 0) := by
    by_cases h : n.level = 0
    · simp [h]
    · rw [decide_eq_false h]; simp [h]
  obtain ⟨slot, level, pivots, kids, high, top, right, seen, msgs, rows⟩ := n
  simp only at q1' q2' q3' cl ci hz ⊢
  unfold topB nilB0
  simp only
  by_cases hl : level = 0
  · rw [decide_eq_true hl] at hz
    rw [if_pos hl]
    cases top
    · rw [if_neg (by simp)]
      cases b1 : (high.toList == (⟨#[]⟩ : ByteArray).toList)
      case true => (repeat (first | simp (maxSteps := 4000000) only [go_sem, ↓reduceIte, reduceCtorEq, Nat.reduceEqDiff, Nat.reduceBEq, Nat.reduceAdd, Nat.reduceSub, Nat.reduceMul, Nat.reduceLT, Nat.reduceLeDiff, Nat.reduceBNe, Int.reduceBEq, Int.reduceBNe, Int.reduceLT, Int.reduceLE, Spn.a, Msg.a, Par.a, Nd.a, Seat.a, Cfg.a, q1', q2', q3', b1, hz, bne] | refine calling (cl) ?_ | refine callingH (cl) ?_ | refine calling (ci) ?_ | refine callingH (ci) ?_ | refine And.intro (by omega) ?_ | refine And.intro (fun d hd => by (repeat (rcases hd with rfl | hd; · exact ⟨rfl, rfl⟩)); cases hd) ?_))
      by_cases h16 : (16 : Int) < (high.size : Int)
      · rw [decide_eq_false (p := (high.size : Int) ≤ 16) (by omega)]
        (repeat (first | simp (maxSteps := 4000000) only [go_sem, ↓reduceIte, reduceCtorEq, Nat.reduceEqDiff, Nat.reduceBEq, Nat.reduceAdd, Nat.reduceSub, Nat.reduceMul, Nat.reduceLT, Nat.reduceLeDiff, Nat.reduceBNe, Int.reduceBEq, Int.reduceBNe, Int.reduceLT, Int.reduceLE, Spn.a, Msg.a, Par.a, Nd.a, Seat.a, Cfg.a, q1', q2', q3', b1, h16, hz, bne] | refine calling (cl) ?_ | refine callingH (cl) ?_ | refine calling (ci) ?_ | refine callingH (ci) ?_ | refine And.intro (by omega) ?_ | refine And.intro (fun d hd => by (repeat (rcases hd with rfl | hd; · exact ⟨rfl, rfl⟩)); cases hd) ?_))
      rw [decide_eq_true (p := (high.size : Int) ≤ 16) (by omega)]
      by_cases hr : right < 0
      · rw [decide_eq_false (p := 0 ≤ right) (by omega)]
        (repeat (first | simp (maxSteps := 4000000) only [go_sem, ↓reduceIte, reduceCtorEq, Nat.reduceEqDiff, Nat.reduceBEq, Nat.reduceAdd, Nat.reduceSub, Nat.reduceMul, Nat.reduceLT, Nat.reduceLeDiff, Nat.reduceBNe, Int.reduceBEq, Int.reduceBNe, Int.reduceLT, Int.reduceLE, Spn.a, Msg.a, Par.a, Nd.a, Seat.a, Cfg.a, q1', q2', q3', b1, h16, hr, hz, bne] | refine calling (cl) ?_ | refine callingH (cl) ?_ | refine calling (ci) ?_ | refine callingH (ci) ?_ | refine And.intro (by omega) ?_ | refine And.intro (fun d hd => by (repeat (rcases hd with rfl | hd; · exact ⟨rfl, rfl⟩)); cases hd) ?_))
      · rw [decide_eq_true (p := 0 ≤ right) (by omega)]
        (repeat (first | simp (maxSteps := 4000000) only [go_sem, ↓reduceIte, reduceCtorEq, Nat.reduceEqDiff, Nat.reduceBEq, Nat.reduceAdd, Nat.reduceSub, Nat.reduceMul, Nat.reduceLT, Nat.reduceLeDiff, Nat.reduceBNe, Int.reduceBEq, Int.reduceBNe, Int.reduceLT, Int.reduceLE, Spn.a, Msg.a, Par.a, Nd.a, Seat.a, Cfg.a, q1', q2', q3', b1, h16, hr, hz, bne] | refine calling (cl) ?_ | refine callingH (cl) ?_ | refine calling (ci) ?_ | refine callingH (ci) ?_ | refine And.intro (by omega) ?_ | refine And.intro (fun d hd => by (repeat (rcases hd with rfl | hd; · exact ⟨rfl, rfl⟩)); cases hd) ?_))
    · rw [if_pos rfl]
      cases b1 : (high.toList == (⟨#[]⟩ : ByteArray).toList)
      case false => (repeat (first | simp (maxSteps := 4000000) only [go_sem, ↓reduceIte, reduceCtorEq, Nat.reduceEqDiff, Nat.reduceBEq, Nat.reduceAdd, Nat.reduceSub, Nat.reduceMul, Nat.reduceLT, Nat.reduceLeDiff, Nat.reduceBNe, Int.reduceBEq, Int.reduceBNe, Int.reduceLT, Int.reduceLE, Spn.a, Msg.a, Par.a, Nd.a, Seat.a, Cfg.a, q1', q2', q3', b1, hz, bne] | refine calling (cl) ?_ | refine callingH (cl) ?_ | refine calling (ci) ?_ | refine callingH (ci) ?_ | refine And.intro (by omega) ?_ | refine And.intro (fun d hd => by (repeat (rcases hd with rfl | hd; · exact ⟨rfl, rfl⟩)); cases hd) ?_))
      by_cases hr : right = -1
      · have hr' : (right == -1) = true := by simp [hr]
        rw [decide_eq_true hr]
        (repeat (first | simp (maxSteps := 4000000) only [go_sem, ↓reduceIte, reduceCtorEq, Nat.reduceEqDiff, Nat.reduceBEq, Nat.reduceAdd, Nat.reduceSub, Nat.reduceMul, Nat.reduceLT, Nat.reduceLeDiff, Nat.reduceBNe, Int.reduceBEq, Int.reduceBNe, Int.reduceLT, Int.reduceLE, Spn.a, Msg.a, Par.a, Nd.a, Seat.a, Cfg.a, q1', q2', q3', b1, hr', hz, bne] | refine calling (cl) ?_ | refine callingH (cl) ?_ | refine calling (ci) ?_ | refine callingH (ci) ?_ | refine And.intro (by omega) ?_ | refine And.intro (fun d hd => by (repeat (rcases hd with rfl | hd; · exact ⟨rfl, rfl⟩)); cases hd) ?_))
      · have hr' : (right == -1) = false := by simp [hr]
        rw [decide_eq_false hr]
        (repeat (first | simp (maxSteps := 4000000) only [go_sem, ↓reduceIte, reduceCtorEq, Nat.reduceEqDiff, Nat.reduceBEq, Nat.reduceAdd, Nat.reduceSub, Nat.reduceMul, Nat.reduceLT, Nat.reduceLeDiff, Nat.reduceBNe, Int.reduceBEq, Int.reduceBNe, Int.reduceLT, Int.reduceLE, Spn.a, Msg.a, Par.a, Nd.a, Seat.a, Cfg.a, q1', q2', q3', b1, hr', hz, bne] | refine calling (cl) ?_ | refine callingH (cl) ?_ | refine calling (ci) ?_ | refine callingH (ci) ?_ | refine And.intro (by omega) ?_ | refine And.intro (fun d hd => by (repeat (rcases hd with rfl | hd; · exact ⟨rfl, rfl⟩)); cases hd) ?_))
  · rw [decide_eq_false hl] at hz
    rw [if_neg hl]
    cases top
    · rw [if_neg (by simp)]
      cases b1 : (high.toList == (⟨#[]⟩ : ByteArray).toList)
      case true => (repeat (first | simp (maxSteps := 4000000) only [go_sem, ↓reduceIte, reduceCtorEq, Nat.reduceEqDiff, Nat.reduceBEq, Nat.reduceAdd, Nat.reduceSub, Nat.reduceMul, Nat.reduceLT, Nat.reduceLeDiff, Nat.reduceBNe, Int.reduceBEq, Int.reduceBNe, Int.reduceLT, Int.reduceLE, Spn.a, Msg.a, Par.a, Nd.a, Seat.a, Cfg.a, q1', q2', q3', b1, hz, bne] | refine calling (cl) ?_ | refine callingH (cl) ?_ | refine calling (ci) ?_ | refine callingH (ci) ?_ | refine And.intro (by omega) ?_ | refine And.intro (fun d hd => by (repeat (rcases hd with rfl | hd; · exact ⟨rfl, rfl⟩)); cases hd) ?_))
      by_cases h16 : (16 : Int) < (high.size : Int)
      · rw [decide_eq_false (p := (high.size : Int) ≤ 16) (by omega)]
        (repeat (first | simp (maxSteps := 4000000) only [go_sem, ↓reduceIte, reduceCtorEq, Nat.reduceEqDiff, Nat.reduceBEq, Nat.reduceAdd, Nat.reduceSub, Nat.reduceMul, Nat.reduceLT, Nat.reduceLeDiff, Nat.reduceBNe, Int.reduceBEq, Int.reduceBNe, Int.reduceLT, Int.reduceLE, Spn.a, Msg.a, Par.a, Nd.a, Seat.a, Cfg.a, q1', q2', q3', b1, h16, hz, bne] | refine calling (cl) ?_ | refine callingH (cl) ?_ | refine calling (ci) ?_ | refine callingH (ci) ?_ | refine And.intro (by omega) ?_ | refine And.intro (fun d hd => by (repeat (rcases hd with rfl | hd; · exact ⟨rfl, rfl⟩)); cases hd) ?_))
      rw [decide_eq_true (p := (high.size : Int) ≤ 16) (by omega)]
      by_cases hr : right < 0
      · rw [decide_eq_false (p := 0 ≤ right) (by omega)]
        (repeat (first | simp (maxSteps := 4000000) only [go_sem, ↓reduceIte, reduceCtorEq, Nat.reduceEqDiff, Nat.reduceBEq, Nat.reduceAdd, Nat.reduceSub, Nat.reduceMul, Nat.reduceLT, Nat.reduceLeDiff, Nat.reduceBNe, Int.reduceBEq, Int.reduceBNe, Int.reduceLT, Int.reduceLE, Spn.a, Msg.a, Par.a, Nd.a, Seat.a, Cfg.a, q1', q2', q3', b1, h16, hr, hz, bne] | refine calling (cl) ?_ | refine callingH (cl) ?_ | refine calling (ci) ?_ | refine callingH (ci) ?_ | refine And.intro (by omega) ?_ | refine And.intro (fun d hd => by (repeat (rcases hd with rfl | hd; · exact ⟨rfl, rfl⟩)); cases hd) ?_))
      · rw [decide_eq_true (p := 0 ≤ right) (by omega)]
        (repeat (first | simp (maxSteps := 4000000) only [go_sem, ↓reduceIte, reduceCtorEq, Nat.reduceEqDiff, Nat.reduceBEq, Nat.reduceAdd, Nat.reduceSub, Nat.reduceMul, Nat.reduceLT, Nat.reduceLeDiff, Nat.reduceBNe, Int.reduceBEq, Int.reduceBNe, Int.reduceLT, Int.reduceLE, Spn.a, Msg.a, Par.a, Nd.a, Seat.a, Cfg.a, q1', q2', q3', b1, h16, hr, hz, bne] | refine calling (cl) ?_ | refine callingH (cl) ?_ | refine calling (ci) ?_ | refine callingH (ci) ?_ | refine And.intro (by omega) ?_ | refine And.intro (fun d hd => by (repeat (rcases hd with rfl | hd; · exact ⟨rfl, rfl⟩)); cases hd) ?_))
    · rw [if_pos rfl]
      cases b1 : (high.toList == (⟨#[]⟩ : ByteArray).toList)
      case false => (repeat (first | simp (maxSteps := 4000000) only [go_sem, ↓reduceIte, reduceCtorEq, Nat.reduceEqDiff, Nat.reduceBEq, Nat.reduceAdd, Nat.reduceSub, Nat.reduceMul, Nat.reduceLT, Nat.reduceLeDiff, Nat.reduceBNe, Int.reduceBEq, Int.reduceBNe, Int.reduceLT, Int.reduceLE, Spn.a, Msg.a, Par.a, Nd.a, Seat.a, Cfg.a, q1', q2', q3', b1, hz, bne] | refine calling (cl) ?_ | refine callingH (cl) ?_ | refine calling (ci) ?_ | refine callingH (ci) ?_ | refine And.intro (by omega) ?_ | refine And.intro (fun d hd => by (repeat (rcases hd with rfl | hd; · exact ⟨rfl, rfl⟩)); cases hd) ?_))
      by_cases hr : right = -1
      · have hr' : (right == -1) = true := by simp [hr]
        rw [decide_eq_true hr]
        (repeat (first | simp (maxSteps := 4000000) only [go_sem, ↓reduceIte, reduceCtorEq, Nat.reduceEqDiff, Nat.reduceBEq, Nat.reduceAdd, Nat.reduceSub, Nat.reduceMul, Nat.reduceLT, Nat.reduceLeDiff, Nat.reduceBNe, Int.reduceBEq, Int.reduceBNe, Int.reduceLT, Int.reduceLE, Spn.a, Msg.a, Par.a, Nd.a, Seat.a, Cfg.a, q1', q2', q3', b1, hr', hz, bne] | refine calling (cl) ?_ | refine callingH (cl) ?_ | refine calling (ci) ?_ | refine callingH (ci) ?_ | refine And.intro (by omega) ?_ | refine And.intro (fun d hd => by (repeat (rcases hd with rfl | hd; · exact ⟨rfl, rfl⟩)); cases hd) ?_))
      · have hr' : (right == -1) = false := by simp [hr]
        rw [decide_eq_false hr]
        (repeat (first | simp (maxSteps := 4000000) only [go_sem, ↓reduceIte, reduceCtorEq, Nat.reduceEqDiff, Nat.reduceBEq, Nat.reduceAdd, Nat.reduceSub, Nat.reduceMul, Nat.reduceLT, Nat.reduceLeDiff, Nat.reduceBNe, Int.reduceBEq, Int.reduceBNe, Int.reduceLT, Int.reduceLE, Spn.a, Msg.a, Par.a, Nd.a, Seat.a, Cfg.a, q1', q2', q3', b1, hr', hz, bne] | refine calling (cl) ?_ | refine callingH (cl) ?_ | refine calling (ci) ?_ | refine callingH (ci) ?_ | refine And.intro (by omega) ?_ | refine And.intro (fun d hd => by (repeat (rcases hd with rfl | hd; · exact ⟨rfl, rfl⟩)); cases hd) ?_))
def eqS (a b : Spn) : Bool := (a.lo.toList == b.lo.toList) && ((a.hi.toList == b.hi.toList) && (a.op == b.op))
def rwB (x : Seat) (p : Par) : Bool := x.s.has p.key
def pwB (x : Seat) (p : ByteArray) : Bool := x.s.has p && !(p.toList == x.s.lo.toList)
def mwB (x : Seat) (m : Msg) : Bool := eqS (m.span.meet x.s) m.span.norm
def placedB (x : Seat) : Bool := (x.n.top == x.s.op) && (x.n.high.toList == x.s.hi.toList) && (x.n.rows.all (rwB x) && x.n.pivots.all (pwB x) && x.n.msgs.all (mwB x))
def plInv (x : Seat) (t : Nat) (len : Nat) (A : Nat → Bool) (R : Bool) (k : Nat) (σ : St) : Prop :=
  ∃ i : Nat, i ≤ len ∧ k = len - i ∧ σ.T 1 = .ptr 1 0 0 ∧ σ.H 1 = some ⟨14, 40, [x.a], 0⟩ ∧ σ.T t = .int .i64 i ∧ A i = R
set_option maxHeartbeats 2000000 in
theorem prow_loop (x : Seat) (b : Nat) (hx0 : SeatOk x b) (R : Bool) (Q : XK → St → Prop) (hEnd : ∀ σ, R = true → σ.T 1 = .ptr 1 0 0 → σ.H 1 = some ⟨14, 40, [x.a], 0⟩ → Q (.exit 0) σ)
    (hRet : ∀ σ, R = false → σ.T 2 = .bool false → Q .ret σ) (k : Nat) (σ : St) (hI : plInv x 3 x.n.rows.length (fun i => (x.n.rows.drop i).all (rwB x)) R k σ) :
    run (AFn Try.prog) r_placed_l8 (thenQ (fun σ' => ∃ m, m < k ∧ plInv x 3 x.n.rows.length (fun i => (x.n.rows.drop i).all (rwB x)) R m σ') Q) σ := by
  have hn := hx0.lt
  have n1 := hn.nrow
  have n2 := hn.npiv
  have n3 := hn.nmsg
  have hs := le_ok hx0.s (by omega)
  obtain ⟨i, hi, rfl, t1, h1, tt, hr⟩ := hI
  simp only [r_placed_l8]
  have h1' := h1
  simp only [Seat.a] at h1'
  by_cases hlt : i < x.n.rows.length
  case neg =>
    have hlt' : ¬ (i : Int) < (x.n.rows.length : Int) := by omega
    simp only at hr
    rw [List.drop_eq_nil_of_le (by omega), List.all_nil] at hr
    subst hr
    simp (maxSteps := 4000000) only [go_sem, ↓reduceIte, reduceCtorEq, Nat.reduceEqDiff, Nat.reduceBEq, Nat.reduceAdd, Nat.reduceSub, Nat.reduceMul, Nat.reduceLT, Nat.reduceLeDiff, Nat.reduceBNe, Int.reduceBEq, Int.reduceBNe, Int.reduceLT, Int.reduceLE, Spn.a, Msg.a, Par.a, Nd.a, Seat.a, Cfg.a, t1, h1', tt, hlt', List.length_map]
    refine hEnd _ rfl ?_ ?_
    · simp (maxSteps := 4000000) only [go_sem, ↓reduceIte, reduceCtorEq, Nat.reduceEqDiff, Nat.reduceBEq, Nat.reduceAdd, Nat.reduceSub, Nat.reduceMul, Nat.reduceLT, Nat.reduceLeDiff, Nat.reduceBNe, Int.reduceBEq, Int.reduceBNe, Int.reduceLT, Int.reduceLE, Spn.a, Msg.a, Par.a, Nd.a, Seat.a, Cfg.a, t1]
    · simp (maxSteps := 4000000) only [go_sem, ↓reduceIte, reduceCtorEq, Nat.reduceEqDiff, Nat.reduceBEq, Nat.reduceAdd, Nat.reduceSub, Nat.reduceMul, Nat.reduceLT, Nat.reduceLeDiff, Nat.reduceBNe, Int.reduceBEq, Int.reduceBNe, Int.reduceLT, Int.reduceLE, Spn.a, Msg.a, Par.a, Nd.a, Seat.a, Cfg.a, h1]
  have hlt' : (i : Int) < (x.n.rows.length : Int) := by omega
  obtain ⟨y, hx⟩ := get_lt hlt
  have hgx := at_map (f := Par.a) hx
  have hw := wrapS (j := i) (by omega)
  simp only at hr
  rw [drop_at hx, List.all_cons] at hr
  simp only [Par.a] at hgx
  have ch := refHas x.s y.key hs (by have := (hn.rows y (List.mem_of_getElem? hx)).1; omega)
  unfold rwB at hr
  generalize hbb : x.s.has y.key = bb at *
  cases bb
  · rw [Bool.false_and] at hr
    subst hr
    (repeat (first | simp (maxSteps := 4000000) only [go_sem, ↓reduceIte, reduceCtorEq, Nat.reduceEqDiff, Nat.reduceBEq, Nat.reduceAdd, Nat.reduceSub, Nat.reduceMul, Nat.reduceLT, Nat.reduceLeDiff, Nat.reduceBNe, Int.reduceBEq, Int.reduceBNe, Int.reduceLT, Int.reduceLE, Spn.a, Msg.a, Par.a, Nd.a, Seat.a, Cfg.a, t1, h1', tt, hlt', hgx, List.length_map, Int.toNat_natCast] | refine calling (ch) ?_ | refine callingH (ch) ?_ | refine And.intro (by omega) ?_ | refine And.intro (fun d hd => by (repeat (rcases hd with rfl | hd; · exact ⟨rfl, rfl⟩)); cases hd) ?_))
    all_goals (repeat refine And.intro (by omega) ?_)
    refine hRet _ rfl ?_
    simp (maxSteps := 4000000) only [go_sem, ↓reduceIte, reduceCtorEq, Nat.reduceEqDiff, Nat.reduceBEq, Nat.reduceAdd, Nat.reduceSub, Nat.reduceMul, Nat.reduceLT, Nat.reduceLeDiff, Nat.reduceBNe, Int.reduceBEq, Int.reduceBNe, Int.reduceLT, Int.reduceLE, Spn.a, Msg.a, Par.a, Nd.a, Seat.a, Cfg.a]
  · rw [Bool.true_and] at hr
    (repeat (first | simp (maxSteps := 4000000) only [go_sem, ↓reduceIte, reduceCtorEq, Nat.reduceEqDiff, Nat.reduceBEq, Nat.reduceAdd, Nat.reduceSub, Nat.reduceMul, Nat.reduceLT, Nat.reduceLeDiff, Nat.reduceBNe, Int.reduceBEq, Int.reduceBNe, Int.reduceLT, Int.reduceLE, Spn.a, Msg.a, Par.a, Nd.a, Seat.a, Cfg.a, t1, h1', tt, hlt', hgx, hw, List.length_map, Int.toNat_natCast] | refine calling (ch) ?_ | refine callingH (ch) ?_ | refine And.intro (by omega) ?_ | refine And.intro (fun d hd => by (repeat (rcases hd with rfl | hd; · exact ⟨rfl, rfl⟩)); cases hd) ?_))
    refine ⟨x.n.rows.length - (i + 1), by omega, i + 1, by omega, rfl, ?_, ?_, ?_, hr⟩
    · simp (maxSteps := 4000000) only [go_sem, ↓reduceIte, reduceCtorEq, Nat.reduceEqDiff, Nat.reduceBEq, Nat.reduceAdd, Nat.reduceSub, Nat.reduceMul, Nat.reduceLT, Nat.reduceLeDiff, Nat.reduceBNe, Int.reduceBEq, Int.reduceBNe, Int.reduceLT, Int.reduceLE, Spn.a, Msg.a, Par.a, Nd.a, Seat.a, Cfg.a, t1]
    · simp (maxSteps := 4000000) only [go_sem, ↓reduceIte, reduceCtorEq, Nat.reduceEqDiff, Nat.reduceBEq, Nat.reduceAdd, Nat.reduceSub, Nat.reduceMul, Nat.reduceLT, Nat.reduceLeDiff, Nat.reduceBNe, Int.reduceBEq, Int.reduceBNe, Int.reduceLT, Int.reduceLE, Spn.a, Msg.a, Par.a, Nd.a, Seat.a, Cfg.a, h1]
    · simp (maxSteps := 4000000) only [go_sem, ↓reduceIte, reduceCtorEq, Nat.reduceEqDiff, Nat.reduceBEq, Nat.reduceAdd, Nat.reduceSub, Nat.reduceMul, Nat.reduceLT, Nat.reduceLeDiff, Nat.reduceBNe, Int.reduceBEq, Int.reduceBNe, Int.reduceLT, Int.reduceLE, Spn.a, Msg.a, Par.a, Nd.a, Seat.a, Cfg.a, hw]
set_option maxHeartbeats 2000000 in
theorem ppiv_loop (x : Seat) (b : Nat) (hx0 : SeatOk x b) (R : Bool) (Q : XK → St → Prop) (hEnd : ∀ σ, R = true → σ.T 1 = .ptr 1 0 0 → σ.H 1 = some ⟨14, 40, [x.a], 0⟩ → Q (.exit 2) σ)
    (hRet : ∀ σ, R = false → σ.T 2 = .bool false → Q .ret σ) (k : Nat) (σ : St) (hI : plInv x 4 x.n.pivots.length (fun i => (x.n.pivots.drop i).all (pwB x)) R k σ) :
    run (AFn Try.prog) r_placed_l14 (thenQ (fun σ' => ∃ m, m < k ∧ plInv x 4 x.n.pivots.length (fun i => (x.n.pivots.drop i).all (pwB x)) R m σ') Q) σ := by
  have hn := hx0.lt
  have n1 := hn.nrow
  have n2 := hn.npiv
  have n3 := hn.nmsg
  have hs := le_ok hx0.s (by omega)
  obtain ⟨i, hi, rfl, t1, h1, tt, hr⟩ := hI
  simp only [r_placed_l14]
  have h1' := h1
  simp only [Seat.a] at h1'
  by_cases hlt : i < x.n.pivots.length
  case neg =>
    have hlt' : ¬ (i : Int) < (x.n.pivots.length : Int) := by omega
    simp only at hr
    rw [List.drop_eq_nil_of_le (by omega), List.all_nil] at hr
    subst hr
    simp (maxSteps := 4000000) only [go_sem, ↓reduceIte, reduceCtorEq, Nat.reduceEqDiff, Nat.reduceBEq, Nat.reduceAdd, Nat.reduceSub, Nat.reduceMul, Nat.reduceLT, Nat.reduceLeDiff, Nat.reduceBNe, Int.reduceBEq, Int.reduceBNe, Int.reduceLT, Int.reduceLE, Spn.a, Msg.a, Par.a, Nd.a, Seat.a, Cfg.a, t1, h1', tt, hlt', List.length_map]
    refine hEnd _ rfl ?_ ?_
    · simp (maxSteps := 4000000) only [go_sem, ↓reduceIte, reduceCtorEq, Nat.reduceEqDiff, Nat.reduceBEq, Nat.reduceAdd, Nat.reduceSub, Nat.reduceMul, Nat.reduceLT, Nat.reduceLeDiff, Nat.reduceBNe, Int.reduceBEq, Int.reduceBNe, Int.reduceLT, Int.reduceLE, Spn.a, Msg.a, Par.a, Nd.a, Seat.a, Cfg.a, t1]
    · simp (maxSteps := 4000000) only [go_sem, ↓reduceIte, reduceCtorEq, Nat.reduceEqDiff, Nat.reduceBEq, Nat.reduceAdd, Nat.reduceSub, Nat.reduceMul, Nat.reduceLT, Nat.reduceLeDiff, Nat.reduceBNe, Int.reduceBEq, Int.reduceBNe, Int.reduceLT, Int.reduceLE, Spn.a, Msg.a, Par.a, Nd.a, Seat.a, Cfg.a, h1]
  have hlt' : (i : Int) < (x.n.pivots.length : Int) := by omega
  obtain ⟨y, hx⟩ := get_lt hlt
  have hgx := at_map (f := AV.str) hx
  have hw := wrapS (j := i) (by omega)
  simp only at hr
  rw [drop_at hx, List.all_cons] at hr
  have ch := refHas x.s y hs (by have := hn.piv y (List.mem_of_getElem? hx); omega)
  have hb : pwB x y = (x.s.has y && !(y.toList == x.s.lo.toList)) := rfl
  rw [hb] at hr
  clear hb
  generalize hbb : x.s.has y = bb at *
  cases bb
  · simp only [Bool.false_and] at hr
    subst hr
    (repeat (first | simp (maxSteps := 4000000) only [go_sem, ↓reduceIte, reduceCtorEq, Nat.reduceEqDiff, Nat.reduceBEq, Nat.reduceAdd, Nat.reduceSub, Nat.reduceMul, Nat.reduceLT, Nat.reduceLeDiff, Nat.reduceBNe, Int.reduceBEq, Int.reduceBNe, Int.reduceLT, Int.reduceLE, Spn.a, Msg.a, Par.a, Nd.a, Seat.a, Cfg.a, t1, h1', tt, hlt', hgx, List.length_map, Int.toNat_natCast] | refine calling (ch) ?_ | refine callingH (ch) ?_ | refine And.intro (by omega) ?_ | refine And.intro (fun d hd => by (repeat (rcases hd with rfl | hd; · exact ⟨rfl, rfl⟩)); cases hd) ?_))
    all_goals (repeat refine And.intro (by omega) ?_)
    refine hRet _ rfl ?_
    simp (maxSteps := 4000000) only [go_sem, ↓reduceIte, reduceCtorEq, Nat.reduceEqDiff, Nat.reduceBEq, Nat.reduceAdd, Nat.reduceSub, Nat.reduceMul, Nat.reduceLT, Nat.reduceLeDiff, Nat.reduceBNe, Int.reduceBEq, Int.reduceBNe, Int.reduceLT, Int.reduceLE, Spn.a, Msg.a, Par.a, Nd.a, Seat.a, Cfg.a]
  cases b2 : (y.toList == x.s.lo.toList)
  · rw [b2] at hr
    simp only [Bool.not_false, Bool.and_true, Bool.true_and] at hr
    (repeat (first | simp (maxSteps := 4000000) only [go_sem, ↓reduceIte, reduceCtorEq, Nat.reduceEqDiff, Nat.reduceBEq, Nat.reduceAdd, Nat.reduceSub, Nat.reduceMul, Nat.reduceLT, Nat.reduceLeDiff, Nat.reduceBNe, Int.reduceBEq, Int.reduceBNe, Int.reduceLT, Int.reduceLE, Spn.a, Msg.a, Par.a, Nd.a, Seat.a, Cfg.a, t1, h1', tt, hlt', hgx, hw, b2, List.length_map, Int.toNat_natCast] | refine calling (ch) ?_ | refine callingH (ch) ?_ | refine And.intro (by omega) ?_ | refine And.intro (fun d hd => by (repeat (rcases hd with rfl | hd; · exact ⟨rfl, rfl⟩)); cases hd) ?_))
    refine ⟨x.n.pivots.length - (i + 1), by omega, i + 1, by omega, rfl, ?_, ?_, ?_, hr⟩
    · simp (maxSteps := 4000000) only [go_sem, ↓reduceIte, reduceCtorEq, Nat.reduceEqDiff, Nat.reduceBEq, Nat.reduceAdd, Nat.reduceSub, Nat.reduceMul, Nat.reduceLT, Nat.reduceLeDiff, Nat.reduceBNe, Int.reduceBEq, Int.reduceBNe, Int.reduceLT, Int.reduceLE, Spn.a, Msg.a, Par.a, Nd.a, Seat.a, Cfg.a, t1]
    · simp (maxSteps := 4000000) only [go_sem, ↓reduceIte, reduceCtorEq, Nat.reduceEqDiff, Nat.reduceBEq, Nat.reduceAdd, Nat.reduceSub, Nat.reduceMul, Nat.reduceLT, Nat.reduceLeDiff, Nat.reduceBNe, Int.reduceBEq, Int.reduceBNe, Int.reduceLT, Int.reduceLE, Spn.a, Msg.a, Par.a, Nd.a, Seat.a, Cfg.a, h1]
    · simp (maxSteps := 4000000) only [go_sem, ↓reduceIte, reduceCtorEq, Nat.reduceEqDiff, Nat.reduceBEq, Nat.reduceAdd, Nat.reduceSub, Nat.reduceMul, Nat.reduceLT, Nat.reduceLeDiff, Nat.reduceBNe, Int.reduceBEq, Int.reduceBNe, Int.reduceLT, Int.reduceLE, Spn.a, Msg.a, Par.a, Nd.a, Seat.a, Cfg.a, hw]
  · rw [b2] at hr
    simp only [Bool.not_true, Bool.and_false, Bool.false_and] at hr
    subst hr
    (repeat (first | simp (maxSteps := 4000000) only [go_sem, ↓reduceIte, reduceCtorEq, Nat.reduceEqDiff, Nat.reduceBEq, Nat.reduceAdd, Nat.reduceSub, Nat.reduceMul, Nat.reduceLT, Nat.reduceLeDiff, Nat.reduceBNe, Int.reduceBEq, Int.reduceBNe, Int.reduceLT, Int.reduceLE, Spn.a, Msg.a, Par.a, Nd.a, Seat.a, Cfg.a, t1, h1', tt, hlt', hgx, b2, List.length_map, Int.toNat_natCast] | refine calling (ch) ?_ | refine callingH (ch) ?_ | refine And.intro (by omega) ?_ | refine And.intro (fun d hd => by (repeat (rcases hd with rfl | hd; · exact ⟨rfl, rfl⟩)); cases hd) ?_))
    all_goals (repeat refine And.intro (by omega) ?_)
    refine hRet _ rfl ?_
    simp (maxSteps := 4000000) only [go_sem, ↓reduceIte, reduceCtorEq, Nat.reduceEqDiff, Nat.reduceBEq, Nat.reduceAdd, Nat.reduceSub, Nat.reduceMul, Nat.reduceLT, Nat.reduceLeDiff, Nat.reduceBNe, Int.reduceBEq, Int.reduceBNe, Int.reduceLT, Int.reduceLE, Spn.a, Msg.a, Par.a, Nd.a, Seat.a, Cfg.a]
set_option maxHeartbeats 2000000 in
theorem pmsg_loop (x : Seat) (b : Nat) (hx0 : SeatOk x b) (R : Bool) (Q : XK → St → Prop) (hEnd : ∀ σ, R = true → σ.T 1 = .ptr 1 0 0 → σ.H 1 = some ⟨14, 40, [x.a], 0⟩ → Q (.exit 4) σ)
    (hRet : ∀ σ, R = false → σ.T 2 = .bool false → Q .ret σ) (k : Nat) (σ : St) (hI : plInv x 5 x.n.msgs.length (fun i => (x.n.msgs.drop i).all (mwB x)) R k σ) :
    run (AFn Try.prog) r_placed_l21 (thenQ (fun σ' => ∃ m, m < k ∧ plInv x 5 x.n.msgs.length (fun i => (x.n.msgs.drop i).all (mwB x)) R m σ') Q) σ := by
  have hn := hx0.lt
  have n1 := hn.nrow
  have n2 := hn.npiv
  have n3 := hn.nmsg
  have hs := le_ok hx0.s (by omega)
  obtain ⟨i, hi, rfl, t1, h1, tt, hr⟩ := hI
  simp only [r_placed_l21]
  have h1' := h1
  simp only [Seat.a] at h1'
  by_cases hlt : i < x.n.msgs.length
  case neg =>
    have hlt' : ¬ (i : Int) < (x.n.msgs.length : Int) := by omega
    simp only at hr
    rw [List.drop_eq_nil_of_le (by omega), List.all_nil] at hr
    subst hr
    simp (maxSteps := 4000000) only [go_sem, ↓reduceIte, reduceCtorEq, Nat.reduceEqDiff, Nat.reduceBEq, Nat.reduceAdd, Nat.reduceSub, Nat.reduceMul, Nat.reduceLT, Nat.reduceLeDiff, Nat.reduceBNe, Int.reduceBEq, Int.reduceBNe, Int.reduceLT, Int.reduceLE, Spn.a, Msg.a, Par.a, Nd.a, Seat.a, Cfg.a, t1, h1', tt, hlt', List.length_map]
    refine hEnd _ rfl ?_ ?_
    · simp (maxSteps := 4000000) only [go_sem, ↓reduceIte, reduceCtorEq, Nat.reduceEqDiff, Nat.reduceBEq, Nat.reduceAdd, Nat.reduceSub, Nat.reduceMul, Nat.reduceLT, Nat.reduceLeDiff, Nat.reduceBNe, Int.reduceBEq, Int.reduceBNe, Int.reduceLT, Int.reduceLE, Spn.a, Msg.a, Par.a, Nd.a, Seat.a, Cfg.a, t1]
    · simp (maxSteps := 4000000) only [go_sem, ↓reduceIte, reduceCtorEq, Nat.reduceEqDiff, Nat.reduceBEq, Nat.reduceAdd, Nat.reduceSub, Nat.reduceMul, Nat.reduceLT, Nat.reduceLeDiff, Nat.reduceBNe, Int.reduceBEq, Int.reduceBNe, Int.reduceLT, Int.reduceLE, Spn.a, Msg.a, Par.a, Nd.a, Seat.a, Cfg.a, h1]
  have hlt' : (i : Int) < (x.n.msgs.length : Int) := by omega
  obtain ⟨y, hx⟩ := get_lt hlt
  have hgx := at_map (f := Msg.a) hx
  have hw := wrapS (j := i) (by omega)
  simp only at hr
  rw [drop_at hx, List.all_cons] at hr
  have hm := hn.msgs y (List.mem_of_getElem? hx)
  have hsl := msgSpan_le hm
  have hs2 : x.s.le 2001 := ⟨Nat.le_succ_of_le hx0.s.1, Nat.le_succ_of_le hx0.s.2⟩
  have c1 := refSpan y (by have := hm.1; omega)
  have c2 := refMeet y.span x.s (le_ok hsl (by omega)) (le_ok hs2 (by omega))
  have c3 := refNorm y.span (le_ok hsl (by omega))
  have hb : mwB x y = eqS (y.span.meet x.s) y.span.norm := rfl
  rw [hb] at hr
  clear hb
  unfold eqS at hr
  generalize y.span.meet x.s = u at *
  generalize y.span.norm = v at *
  generalize y.span = sp at *
  simp only [Msg.a] at hgx
  obtain ⟨lo, hi2, op⟩ := sp
  obtain ⟨ulo, uhi, uop⟩ := u
  obtain ⟨vlo, vhi, vop⟩ := v
  simp only at hr
  generalize hbb : ((ulo.toList == vlo.toList) && ((uhi.toList == vhi.toList) && (uop == vop))) = bb at *
  cases bb
  · rw [Bool.false_and] at hr
    subst hr
    (repeat (first | simp (maxSteps := 4000000) only [go_sem, ↓reduceIte, reduceCtorEq, Nat.reduceEqDiff, Nat.reduceBEq, Nat.reduceAdd, Nat.reduceSub, Nat.reduceMul, Nat.reduceLT, Nat.reduceLeDiff, Nat.reduceBNe, Int.reduceBEq, Int.reduceBNe, Int.reduceLT, Int.reduceLE, Spn.a, Msg.a, Par.a, Nd.a, Seat.a, Cfg.a, t1, h1', tt, hlt', hgx, hbb, List.length_map, Int.toNat_natCast] | refine calling (c1) ?_ | refine callingH (c1) ?_ | refine calling (c2) ?_ | refine callingH (c2) ?_ | refine calling (c3) ?_ | refine callingH (c3) ?_ | refine And.intro (by omega) ?_ | refine And.intro (fun d hd => by (repeat (rcases hd with rfl | hd; · exact ⟨rfl, rfl⟩)); cases hd) ?_))
    all_goals (repeat refine And.intro (by omega) ?_)
    refine hRet _ rfl ?_
    simp (maxSteps := 4000000) only [go_sem, ↓reduceIte, reduceCtorEq, Nat.reduceEqDiff, Nat.reduceBEq, Nat.reduceAdd, Nat.reduceSub, Nat.reduceMul, Nat.reduceLT, Nat.reduceLeDiff, Nat.reduceBNe, Int.reduceBEq, Int.reduceBNe, Int.reduceLT, Int.reduceLE, Spn.a, Msg.a, Par.a, Nd.a, Seat.a, Cfg.a]
  · rw [Bool.true_and] at hr
    (repeat (first | simp (maxSteps := 4000000) only [go_sem, ↓reduceIte, reduceCtorEq, Nat.reduceEqDiff, Nat.reduceBEq, Nat.reduceAdd, Nat.reduceSub, Nat.reduceMul, Nat.reduceLT, Nat.reduceLeDiff, Nat.reduceBNe, Int.reduceBEq, Int.reduceBNe, Int.reduceLT, Int.reduceLE, Spn.a, Msg.a, Par.a, Nd.a, Seat.a, Cfg.a, t1, h1', tt, hlt', hgx, hw, hbb, List.length_map, Int.toNat_natCast] | refine calling (c1) ?_ | refine callingH (c1) ?_ | refine calling (c2) ?_ | refine callingH (c2) ?_ | refine calling (c3) ?_ | refine callingH (c3) ?_ | refine And.intro (by omega) ?_ | refine And.intro (fun d hd => by (repeat (rcases hd with rfl | hd; · exact ⟨rfl, rfl⟩)); cases hd) ?_))
    refine ⟨x.n.msgs.length - (i + 1), by omega, i + 1, by omega, rfl, ?_, ?_, ?_, hr⟩
    · simp (maxSteps := 4000000) only [go_sem, ↓reduceIte, reduceCtorEq, Nat.reduceEqDiff, Nat.reduceBEq, Nat.reduceAdd, Nat.reduceSub, Nat.reduceMul, Nat.reduceLT, Nat.reduceLeDiff, Nat.reduceBNe, Int.reduceBEq, Int.reduceBNe, Int.reduceLT, Int.reduceLE, Spn.a, Msg.a, Par.a, Nd.a, Seat.a, Cfg.a, t1]
    · simp (maxSteps := 4000000) only [go_sem, ↓reduceIte, reduceCtorEq, Nat.reduceEqDiff, Nat.reduceBEq, Nat.reduceAdd, Nat.reduceSub, Nat.reduceMul, Nat.reduceLT, Nat.reduceLeDiff, Nat.reduceBNe, Int.reduceBEq, Int.reduceBNe, Int.reduceLT, Int.reduceLE, Spn.a, Msg.a, Par.a, Nd.a, Seat.a, Cfg.a, h1]
    · simp (maxSteps := 4000000) only [go_sem, ↓reduceIte, reduceCtorEq, Nat.reduceEqDiff, Nat.reduceBEq, Nat.reduceAdd, Nat.reduceSub, Nat.reduceMul, Nat.reduceLT, Nat.reduceLeDiff, Nat.reduceBNe, Int.reduceBEq, Int.reduceBNe, Int.reduceLT, Int.reduceLE, Spn.a, Msg.a, Par.a, Nd.a, Seat.a, Cfg.a, hw]
set_option maxHeartbeats 2000000 in
theorem placed_ok (x : Seat) (b : Nat) (hx0 : SeatOk x b) : AFn Try.prog 89 [x.a] (.bool (placedB x)) := by
  refine fn_placed rfl ?_
  unfold placedB
  obtain ⟨RK, hK⟩ : ∃ R, x.n.rows.all (rwB x) = R := ⟨_, rfl⟩
  obtain ⟨RP, hP⟩ : ∃ R, x.n.pivots.all (pwB x) = R := ⟨_, rfl⟩
  obtain ⟨RM, hM⟩ : ∃ R, x.n.msgs.all (mwB x) = R := ⟨_, rfl⟩
  rw [hK, hP, hM]
  cases q1 : (x.n.top == x.s.op)
  · simp (maxSteps := 4000000) only [go_sem, ↓reduceIte, reduceCtorEq, Nat.reduceEqDiff, Nat.reduceBEq, Nat.reduceAdd, Nat.reduceSub, Nat.reduceMul, Nat.reduceLT, Nat.reduceLeDiff, Nat.reduceBNe, Int.reduceBEq, Int.reduceBNe, Int.reduceLT, Int.reduceLE, Spn.a, Msg.a, Par.a, Nd.a, Seat.a, Cfg.a, q1]
  cases q2 : (x.n.high.toList == x.s.hi.toList)
  · simp (maxSteps := 4000000) only [go_sem, ↓reduceIte, reduceCtorEq, Nat.reduceEqDiff, Nat.reduceBEq, Nat.reduceAdd, Nat.reduceSub, Nat.reduceMul, Nat.reduceLT, Nat.reduceLeDiff, Nat.reduceBNe, Int.reduceBEq, Int.reduceBNe, Int.reduceLT, Int.reduceLE, Spn.a, Msg.a, Par.a, Nd.a, Seat.a, Cfg.a, q1, q2]
  simp (maxSteps := 4000000) only [go_sem, ↓reduceIte, reduceCtorEq, Nat.reduceEqDiff, Nat.reduceBEq, Nat.reduceAdd, Nat.reduceSub, Nat.reduceMul, Nat.reduceLT, Nat.reduceLeDiff, Nat.reduceBNe, Int.reduceBEq, Int.reduceBNe, Int.reduceLT, Int.reduceLE, Spn.a, Msg.a, Par.a, Nd.a, Seat.a, Cfg.a, q1, q2]
  refine run_loop (plInv x 3 x.n.rows.length (fun i => (x.n.rows.drop i).all (rwB x)) RK) (k := x.n.rows.length) ⟨0, by omega, rfl, ?_, ?_, ?_, hK⟩ (prow_loop x b hx0 RK _ ?_ ?_)
  · simp (maxSteps := 4000000) only [go_sem, ↓reduceIte, reduceCtorEq, Nat.reduceEqDiff, Nat.reduceBEq, Nat.reduceAdd, Nat.reduceSub, Nat.reduceMul, Nat.reduceLT, Nat.reduceLeDiff, Nat.reduceBNe, Int.reduceBEq, Int.reduceBNe, Int.reduceLT, Int.reduceLE, Spn.a, Msg.a, Par.a, Nd.a, Seat.a, Cfg.a]
  · simp (maxSteps := 4000000) only [go_sem, ↓reduceIte, reduceCtorEq, Nat.reduceEqDiff, Nat.reduceBEq, Nat.reduceAdd, Nat.reduceSub, Nat.reduceMul, Nat.reduceLT, Nat.reduceLeDiff, Nat.reduceBNe, Int.reduceBEq, Int.reduceBNe, Int.reduceLT, Int.reduceLE, Spn.a, Msg.a, Par.a, Nd.a, Seat.a, Cfg.a]
  · (simp (maxSteps := 4000000) only [go_sem, ↓reduceIte, reduceCtorEq, Nat.reduceEqDiff, Nat.reduceBEq, Nat.reduceAdd, Nat.reduceSub, Nat.reduceMul, Nat.reduceLT, Nat.reduceLeDiff, Nat.reduceBNe, Int.reduceBEq, Int.reduceBNe, Int.reduceLT, Int.reduceLE, Spn.a, Msg.a, Par.a, Nd.a, Seat.a, Cfg.a]) <;> rfl
  · intro σ hk t1 h1
    subst hk
    simp (maxSteps := 4000000) only [go_sem, ↓reduceIte, reduceCtorEq, Nat.reduceEqDiff, Nat.reduceBEq, Nat.reduceAdd, Nat.reduceSub, Nat.reduceMul, Nat.reduceLT, Nat.reduceLeDiff, Nat.reduceBNe, Int.reduceBEq, Int.reduceBNe, Int.reduceLT, Int.reduceLE, Spn.a, Msg.a, Par.a, Nd.a, Seat.a, Cfg.a, t1, h1]
    refine run_loop (plInv x 4 x.n.pivots.length (fun i => (x.n.pivots.drop i).all (pwB x)) RP) (k := x.n.pivots.length) ⟨0, by omega, rfl, ?_, ?_, ?_, hP⟩ (ppiv_loop x b hx0 RP _ ?_ ?_)
    · simp (maxSteps := 4000000) only [go_sem, ↓reduceIte, reduceCtorEq, Nat.reduceEqDiff, Nat.reduceBEq, Nat.reduceAdd, Nat.reduceSub, Nat.reduceMul, Nat.reduceLT, Nat.reduceLeDiff, Nat.reduceBNe, Int.reduceBEq, Int.reduceBNe, Int.reduceLT, Int.reduceLE, Spn.a, Msg.a, Par.a, Nd.a, Seat.a, Cfg.a, t1]
    · simp (maxSteps := 4000000) only [go_sem, ↓reduceIte, reduceCtorEq, Nat.reduceEqDiff, Nat.reduceBEq, Nat.reduceAdd, Nat.reduceSub, Nat.reduceMul, Nat.reduceLT, Nat.reduceLeDiff, Nat.reduceBNe, Int.reduceBEq, Int.reduceBNe, Int.reduceLT, Int.reduceLE, Spn.a, Msg.a, Par.a, Nd.a, Seat.a, Cfg.a, h1]
    · (simp (maxSteps := 4000000) only [go_sem, ↓reduceIte, reduceCtorEq, Nat.reduceEqDiff, Nat.reduceBEq, Nat.reduceAdd, Nat.reduceSub, Nat.reduceMul, Nat.reduceLT, Nat.reduceLeDiff, Nat.reduceBNe, Int.reduceBEq, Int.reduceBNe, Int.reduceLT, Int.reduceLE, Spn.a, Msg.a, Par.a, Nd.a, Seat.a, Cfg.a]) <;> rfl
    · intro σ hk t1 h1
      subst hk
      simp (maxSteps := 4000000) only [go_sem, ↓reduceIte, reduceCtorEq, Nat.reduceEqDiff, Nat.reduceBEq, Nat.reduceAdd, Nat.reduceSub, Nat.reduceMul, Nat.reduceLT, Nat.reduceLeDiff, Nat.reduceBNe, Int.reduceBEq, Int.reduceBNe, Int.reduceLT, Int.reduceLE, Spn.a, Msg.a, Par.a, Nd.a, Seat.a, Cfg.a, t1, h1]
      refine run_loop (plInv x 5 x.n.msgs.length (fun i => (x.n.msgs.drop i).all (mwB x)) RM) (k := x.n.msgs.length) ⟨0, by omega, rfl, ?_, ?_, ?_, hM⟩ (pmsg_loop x b hx0 RM _ ?_ ?_)
      · simp (maxSteps := 4000000) only [go_sem, ↓reduceIte, reduceCtorEq, Nat.reduceEqDiff, Nat.reduceBEq, Nat.reduceAdd, Nat.reduceSub, Nat.reduceMul, Nat.reduceLT, Nat.reduceLeDiff, Nat.reduceBNe, Int.reduceBEq, Int.reduceBNe, Int.reduceLT, Int.reduceLE, Spn.a, Msg.a, Par.a, Nd.a, Seat.a, Cfg.a, t1]
      · simp (maxSteps := 4000000) only [go_sem, ↓reduceIte, reduceCtorEq, Nat.reduceEqDiff, Nat.reduceBEq, Nat.reduceAdd, Nat.reduceSub, Nat.reduceMul, Nat.reduceLT, Nat.reduceLeDiff, Nat.reduceBNe, Int.reduceBEq, Int.reduceBNe, Int.reduceLT, Int.reduceLE, Spn.a, Msg.a, Par.a, Nd.a, Seat.a, Cfg.a, h1]
      · (simp (maxSteps := 4000000) only [go_sem, ↓reduceIte, reduceCtorEq, Nat.reduceEqDiff, Nat.reduceBEq, Nat.reduceAdd, Nat.reduceSub, Nat.reduceMul, Nat.reduceLT, Nat.reduceLeDiff, Nat.reduceBNe, Int.reduceBEq, Int.reduceBNe, Int.reduceLT, Int.reduceLE, Spn.a, Msg.a, Par.a, Nd.a, Seat.a, Cfg.a]) <;> rfl
      · intro σ hk _ _
        subst hk
        simp (maxSteps := 4000000) only [go_sem, ↓reduceIte, reduceCtorEq, Nat.reduceEqDiff, Nat.reduceBEq, Nat.reduceAdd, Nat.reduceSub, Nat.reduceMul, Nat.reduceLT, Nat.reduceLeDiff, Nat.reduceBNe, Int.reduceBEq, Int.reduceBNe, Int.reduceLT, Int.reduceLE, Spn.a, Msg.a, Par.a, Nd.a, Seat.a, Cfg.a]
      · intro σ hk t4
        subst hk
        simp (maxSteps := 4000000) only [go_sem, ↓reduceIte, reduceCtorEq, Nat.reduceEqDiff, Nat.reduceBEq, Nat.reduceAdd, Nat.reduceSub, Nat.reduceMul, Nat.reduceLT, Nat.reduceLeDiff, Nat.reduceBNe, Int.reduceBEq, Int.reduceBNe, Int.reduceLT, Int.reduceLE, Spn.a, Msg.a, Par.a, Nd.a, Seat.a, Cfg.a, t4]
    · intro σ hk t4
      subst hk
      simp (maxSteps := 4000000) only [go_sem, ↓reduceIte, reduceCtorEq, Nat.reduceEqDiff, Nat.reduceBEq, Nat.reduceAdd, Nat.reduceSub, Nat.reduceMul, Nat.reduceLT, Nat.reduceLeDiff, Nat.reduceBNe, Int.reduceBEq, Int.reduceBNe, Int.reduceLT, Int.reduceLE, Spn.a, Msg.a, Par.a, Nd.a, Seat.a, Cfg.a, t4]
  · intro σ hk t4
    subst hk
    simp (maxSteps := 4000000) only [go_sem, ↓reduceIte, reduceCtorEq, Nat.reduceEqDiff, Nat.reduceBEq, Nat.reduceAdd, Nat.reduceSub, Nat.reduceMul, Nat.reduceLT, Nat.reduceLeDiff, Nat.reduceBNe, Int.reduceBEq, Int.reduceBNe, Int.reduceLT, Int.reduceLE, Spn.a, Msg.a, Par.a, Nd.a, Seat.a, Cfg.a, t4]
end
section
/-
  Trees of the document: Sound and Tree: walked.
-/
open Go.RowKit
set_option linter.unusedVariables false
set_option linter.unusedSimpArgs false
set_option maxRecDepth 100000
attribute [local go_sem ↓] runOp headOp
/-! ### percolate/percolateref28.Sound -/
def r_sound_0 : Reg := ⟨[], [⟨(.box 5 23 (.t 0)), (some 2), none, [], []⟩, ⟨(.mv (.c (.bool false))), (some 4), none, [], []⟩], [2], [], false⟩
def t_sound_1 : List ROp := [⟨(.mv (.t 1)), (some 11), none, [12], []⟩, ⟨(.callv (.c (.clo 12 [] [])) [(.t 11), (.c (.int .i64 0))]), (some 12), none, [], []⟩, ⟨(.mv (.t 12)), (some 10), none, [], []⟩, ⟨(.ext 0 (.t 10)), (some 13), none, [], []⟩, ⟨(.ext 1 (.t 10)), (some 14), none, [], []⟩, ⟨(.mv (.t 13)), (some 5), none, [], []⟩, ⟨(.mv (.t 14)), (some 6), none, [], []⟩]
def r_sound_1 : Reg := ⟨[], t_sound_1, [12], [], false⟩
def t_sound_2 : List ROp := [⟨(.mv (.t 6)), (some 15), none, [20, 25], []⟩, ⟨(.un .not (.t 15)), (some 16), none, [20, 25], []⟩, ⟨(.mv (.t 16)), (some 17), none, [20, 25], []⟩, ⟨(.mv (.t 1)), (some 18), (some (17, false)), [20, 25], []⟩, ⟨(.mv (.t 5)), (some 19), (some (17, false)), [20, 25], []⟩, ⟨(.callv (.c (.clo 86 [] [])) [(.t 18), (.t 19)]), (some 20), (some (17, false)), [25], []⟩, ⟨(.un .not (.t 20)), (some 21), (some (17, false)), [25], []⟩, ⟨(.pick (.t 17) (.c (.bool true)) (.t 21)), (some 22), none, [25], []⟩, ⟨(.mv (.t 22)), (some 23), none, [25], []⟩, ⟨(.mv (.t 5)), (some 24), (some (23, false)), [25], []⟩, ⟨(.callv (.c (.clo 87 [] [])) [(.t 24)]), (some 25), (some (23, false)), [], []⟩, ⟨(.un .not (.t 25)), (some 26), (some (23, false)), [], []⟩, ⟨(.pick (.t 23) (.c (.bool true)) (.t 26)), (some 27), none, [], []⟩, ⟨(.mv (.t 27)), (some 28), none, [], []⟩, ⟨(.mv (.t 1)), (some 29), (some (28, false)), [], []⟩, ⟨(.len false (.t 29)), (some 30), (some (28, false)), [], []⟩, ⟨(.faddr 3 (.t 2)), (some 31), (some (28, false)), [], []⟩, ⟨(.load 1 false (.t 31)), (some 32), (some (28, false)), [], []⟩, ⟨(.bin .gtr (.t 30) (.t 32)), (some 33), (some (28, false)), [], []⟩, ⟨(.pick (.t 28) (.c (.bool true)) (.t 33)), (some 34), none, [], []⟩]
def r_sound_2 : Reg := ⟨[], t_sound_2, [20, 25], [], false⟩
def r_sound_3 : Reg := ⟨[], [⟨(.mv (.c (.bool false))), (some 4), none, [], []⟩], [], [], false⟩
def r_sound_4 : Reg := ⟨[], [⟨(.mv (.c (.int .i64 0))), (some 7), none, [], []⟩], [], [], false⟩
def t_sound_5 : List ROp := [⟨(.mv (.t 7)), (some 35), none, [], []⟩, ⟨(.mv (.t 5)), (some 36), none, [], []⟩, ⟨(.len false (.t 36)), (some 37), none, [], []⟩, ⟨(.bin .lss (.t 35) (.t 37)), (some 38), none, [], []⟩]
def r_sound_5 : Reg := ⟨[], t_sound_5, [], [], false⟩
def t_sound_6 : List ROp := [⟨(.mv (.t 5)), (some 41), none, [8], []⟩, ⟨(.mv (.t 7)), (some 42), none, [8], []⟩, ⟨(.iaddr 14 (.t 41) (.t 42)), (some 43), none, [8], []⟩, ⟨(.load 14 true (.t 43)), (some 44), none, [8], []⟩, ⟨(.alloc 14 40 (.agg [(.int .i64 0), (.int .i64 0), (.sl []), (.sl []), (.str ⟨#[]⟩), (.bool false), (.int .i64 0), (.int .i64 0), (.sl []), (.sl []), (.str ⟨#[]⟩), (.str ⟨#[]⟩), (.bool false), (.sl [])])), (some 8), none, [], []⟩, ⟨(.store 14 (.t 8) (.t 44)), none, none, [], []⟩]
def r_sound_6 : Reg := ⟨[], t_sound_6, [8], [], false⟩
def t_sound_7 : List ROp := [⟨(.load 5 true (.t 2)), (some 45), none, [48, 52], []⟩, ⟨(.faddr 0 (.t 8)), (some 46), none, [48, 52], []⟩, ⟨(.load 10 true (.t 46)), (some 47), none, [48, 52], []⟩, ⟨(.callv (.c (.clo 88 [] [])) [(.t 45), (.t 47)]), (some 48), none, [52], []⟩, ⟨(.un .not (.t 48)), (some 49), none, [52], []⟩, ⟨(.mv (.t 49)), (some 50), none, [52], []⟩, ⟨(.load 14 true (.t 8)), (some 51), (some (50, false)), [52], []⟩, ⟨(.callv (.c (.clo 89 [] [])) [(.t 51)]), (some 52), (some (50, false)), [], []⟩, ⟨(.un .not (.t 52)), (some 53), (some (50, false)), [], []⟩, ⟨(.pick (.t 50) (.c (.bool true)) (.t 53)), (some 54), none, [], []⟩, ⟨(.mv (.t 54)), (some 55), none, [], []⟩, ⟨(.faddr 0 (.t 8)), (some 56), (some (55, false)), [], []⟩, ⟨(.faddr 0 (.t 56)), (some 57), (some (55, false)), [], []⟩, ⟨(.load 1 false (.t 57)), (some 58), (some (55, false)), [], []⟩, ⟨(.faddr 3 (.t 2)), (some 59), (some (55, false)), [], []⟩, ⟨(.load 1 false (.t 59)), (some 60), (some (55, false)), [], []⟩, ⟨(.bin .geq (.t 58) (.t 60)), (some 61), (some (55, false)), [], []⟩, ⟨(.pick (.t 55) (.c (.bool true)) (.t 61)), (some 62), none, [], []⟩]
def r_sound_7 : Reg := ⟨[], t_sound_7, [48, 52], [], false⟩
def r_sound_8 : Reg := ⟨[], [⟨(.mv (.c (.bool false))), (some 4), none, [], []⟩], [], [], false⟩
def r_sound_9 : Reg := ⟨[], [⟨(.mv (.c (.int .i64 0))), (some 9), none, [], []⟩], [], [], false⟩
def t_sound_10 : List ROp := [⟨(.mv (.t 9)), (some 63), none, [], []⟩, ⟨(.faddr 13 (.t 8)), (some 64), none, [], []⟩, ⟨(.load 1 false (.t 64)), (some 65), none, [], []⟩, ⟨(.len false (.t 65)), (some 66), none, [], []⟩, ⟨(.bin .lss (.t 63) (.t 66)), (some 67), none, [], []⟩]
def r_sound_10 : Reg := ⟨[], t_sound_10, [], [], false⟩
def h_sound_11 : List ROp := [⟨(.faddr 13 (.t 8)), (some 70), none, [], []⟩, ⟨(.load 1 false (.t 70)), (some 71), none, [], []⟩, ⟨(.mv (.t 9)), (some 72), none, [], []⟩, ⟨(.iaddr 6 (.t 71) (.t 72)), (some 73), none, [], []⟩, ⟨(.faddr 0 (.t 73)), (some 74), none, [], []⟩, ⟨(.load 1 false (.t 74)), (some 75), none, [], []⟩, ⟨(.faddr 0 (.t 8)), (some 76), none, [], []⟩, ⟨(.faddr 7 (.t 76)), (some 77), none, [], []⟩, ⟨(.load 1 false (.t 77)), (some 78), none, [], []⟩]
def r_sound_11 : Reg := ⟨h_sound_11, [⟨(.bin .leq (.t 75) (.t 78)), (some 79), none, [], []⟩], [], [], true⟩
def r_sound_12 : Reg := ⟨[], [⟨(.mv (.c (.bool false))), (some 4), none, [], []⟩], [], [], false⟩
def t_sound_13 : List ROp := [⟨(.mv (.t 9)), (some 68), none, [], []⟩, ⟨(.bin .add (.t 68) (.c (.int .i64 1))), (some 69), none, [], []⟩, ⟨(.mv (.t 69)), (some 9), none, [], []⟩]
def r_sound_13 : Reg := ⟨[], t_sound_13, [], [], false⟩
def r_sound_l14 : IR := (.seq (.seq (.reg r_sound_10)
  (.cond (.t 67) .skip
  (.exit 2)))
  (.seq (.block 3 (.seq (.reg r_sound_11)
  (.cond (.t 79) (.seq (.reg r_sound_12)
  .ret)
  .skip)))
  (.reg r_sound_13)))
def t_sound_15 : List ROp := [⟨(.mv (.t 7)), (some 39), none, [], []⟩, ⟨(.bin .add (.t 39) (.c (.int .i64 1))), (some 40), none, [], []⟩, ⟨(.mv (.t 40)), (some 7), none, [], []⟩]
def r_sound_15 : Reg := ⟨[], t_sound_15, [], [], false⟩
def r_sound_l16 : IR := (.seq (.seq (.reg r_sound_5)
  (.cond (.t 38) .skip
  (.exit 0)))
  (.seq (.block 1 (.seq (.reg r_sound_6)
  (.seq (.seq (.reg r_sound_7)
  (.cond (.t 62) (.seq (.reg r_sound_8)
  .ret)
  .skip))
  (.seq (.reg r_sound_9)
  (.block 2 (.loop r_sound_l14))))))
  (.reg r_sound_15)))
def r_sound_17 : Reg := ⟨[], [⟨(.mv (.c (.bool true))), (some 4), none, [], []⟩], [], [], false⟩
def ir_sound : IR := (.seq (.reg r_sound_0)
  (.seq (.reg r_sound_1)
  (.seq (.seq (.reg r_sound_2)
  (.cond (.t 34) (.seq (.reg r_sound_3)
  .ret)
  .skip))
  (.seq (.seq (.reg r_sound_4)
  (.block 0 (.loop r_sound_l16)))
  (.seq (.reg r_sound_17)
  .ret)))))
def res_sound : List RDesc := [(.tmp 4)]
theorem e_sound_0 (C : FuncId → List AV → AV → Prop) (σ : St) (K : St → Prop) : runReg C r_sound_0 σ K = runOps C [⟨(.box 5 23 (.t 0)), (some 2), none, [], []⟩, ⟨(.mv (.c (.bool false))), (some 4), none, [], []⟩] (σ.kills [2]) K := rfl
theorem e_sound_1 (C : FuncId → List AV → AV → Prop) (σ : St) (K : St → Prop) : runReg C r_sound_1 σ K = runOps C t_sound_1 (σ.kills [12]) K := rfl
theorem e_sound_2 (C : FuncId → List AV → AV → Prop) (σ : St) (K : St → Prop) : runReg C r_sound_2 σ K = runOps C t_sound_2 (σ.kills [20, 25]) K := rfl
theorem e_sound_3 (C : FuncId → List AV → AV → Prop) (σ : St) (K : St → Prop) : runReg C r_sound_3 σ K = runOps C [⟨(.mv (.c (.bool false))), (some 4), none, [], []⟩] (σ.kills []) K := rfl
theorem e_sound_4 (C : FuncId → List AV → AV → Prop) (σ : St) (K : St → Prop) : runReg C r_sound_4 σ K = runOps C [⟨(.mv (.c (.int .i64 0))), (some 7), none, [], []⟩] (σ.kills []) K := rfl
theorem e_sound_5 (C : FuncId → List AV → AV → Prop) (σ : St) (K : St → Prop) : runReg C r_sound_5 σ K = runOps C t_sound_5 (σ.kills []) K := rfl
theorem e_sound_6 (C : FuncId → List AV → AV → Prop) (σ : St) (K : St → Prop) : runReg C r_sound_6 σ K = runOps C t_sound_6 (σ.kills [8]) K := rfl
theorem e_sound_7 (C : FuncId → List AV → AV → Prop) (σ : St) (K : St → Prop) : runReg C r_sound_7 σ K = runOps C t_sound_7 (σ.kills [48, 52]) K := rfl
theorem e_sound_8 (C : FuncId → List AV → AV → Prop) (σ : St) (K : St → Prop) : runReg C r_sound_8 σ K = runOps C [⟨(.mv (.c (.bool false))), (some 4), none, [], []⟩] (σ.kills []) K := rfl
theorem e_sound_9 (C : FuncId → List AV → AV → Prop) (σ : St) (K : St → Prop) : runReg C r_sound_9 σ K = runOps C [⟨(.mv (.c (.int .i64 0))), (some 9), none, [], []⟩] (σ.kills []) K := rfl
theorem e_sound_10 (C : FuncId → List AV → AV → Prop) (σ : St) (K : St → Prop) : runReg C r_sound_10 σ K = runOps C t_sound_10 (σ.kills []) K := rfl
theorem e_sound_11 (C : FuncId → List AV → AV → Prop) (σ : St) (K : St → Prop) : runReg C r_sound_11 σ K = runHead C [] [⟨(.bin .leq (.t 75) (.t 78)), (some 79), none, [], []⟩] h_sound_11 (σ.kills []) K := rfl
theorem e_sound_12 (C : FuncId → List AV → AV → Prop) (σ : St) (K : St → Prop) : runReg C r_sound_12 σ K = runOps C [⟨(.mv (.c (.bool false))), (some 4), none, [], []⟩] (σ.kills []) K := rfl
theorem e_sound_13 (C : FuncId → List AV → AV → Prop) (σ : St) (K : St → Prop) : runReg C r_sound_13 σ K = runOps C t_sound_13 (σ.kills []) K := rfl
theorem e_sound_15 (C : FuncId → List AV → AV → Prop) (σ : St) (K : St → Prop) : runReg C r_sound_15 σ K = runOps C t_sound_15 (σ.kills []) K := rfl
theorem e_sound_17 (C : FuncId → List AV → AV → Prop) (σ : St) (K : St → Prop) : runReg C r_sound_17 σ K = runOps C [⟨(.mv (.c (.bool true))), (some 4), none, [], []⟩] (σ.kills []) K := rfl
theorem fn_sound {args : List AV} {r : AV} (ha : args.length.ble Try.f50.ntmps = true) (h : run (AFn Try.prog) ir_sound (endQ res_sound r) (initSt args)) : AFn Try.prog 50 args r :=
  AFn.of_code (pv := false) (hint := fun _ => []) (c := Try.f50.body.getD .skip) (by kernel_rfl) (by kernel_rfl) Try.func50 (by kernel_rfl) (by kernel_rfl) (by kernel_rfl) (of_decide_eq_true (by kernel_rfl)) (Nat.le_of_ble_eq_true ha) (Nat.le_of_ble_eq_true (by kernel_rfl)) (run_ok h)
/-! ### percolate/percolateref28.Tree -/
def r_tree28_0 : Reg := ⟨[], [⟨(.box 5 23 (.t 0)), (some 3), none, [], []⟩, ⟨(.mv (.c (.bool false))), (some 6), none, [], []⟩], [3], [], false⟩
def t_tree28_1 : List ROp := [⟨(.load 5 true (.t 3)), (some 8), none, [9, 19], []⟩, ⟨(.callv (.c (.clo 48 [] [])) [(.t 8)]), (some 9), none, [19], []⟩, ⟨(.un .not (.t 9)), (some 10), none, [19], []⟩, ⟨(.mv (.t 10)), (some 11), none, [19], []⟩, ⟨(.mv (.t 1)), (some 12), (some (11, false)), [19], []⟩, ⟨(.len false (.t 12)), (some 13), (some (11, false)), [19], []⟩, ⟨(.bin .eql (.t 13) (.c (.int .i64 0))), (some 14), (some (11, false)), [19], []⟩, ⟨(.pick (.t 11) (.c (.bool true)) (.t 14)), (some 15), none, [19], []⟩, ⟨(.mv (.t 15)), (some 16), none, [19], []⟩, ⟨(.mv (.t 1)), (some 17), (some (16, false)), [19], []⟩, ⟨(.mv (.t 2)), (some 18), (some (16, false)), [19], []⟩, ⟨(.callv (.c (.clo 49 [] [])) [(.t 17), (.t 18), (.c (.int .i64 2000))]), (some 19), (some (16, false)), [], []⟩, ⟨(.un .not (.t 19)), (some 20), (some (16, false)), [], []⟩, ⟨(.pick (.t 16) (.c (.bool true)) (.t 20)), (some 21), none, [], []⟩]
def r_tree28_1 : Reg := ⟨[], t_tree28_1, [9, 19], [], false⟩
def r_tree28_2 : Reg := ⟨[], [⟨(.mv (.c (.bool false))), (some 6), none, [], []⟩], [], [], false⟩
def r_tree28_3 : Reg := ⟨[], [⟨(.mv (.c (.int .i64 0))), (some 7), none, [], []⟩], [], [], false⟩
def t_tree28_4 : List ROp := [⟨(.mv (.t 7)), (some 22), none, [], []⟩, ⟨(.mv (.t 1)), (some 23), none, [], []⟩, ⟨(.len false (.t 23)), (some 24), none, [], []⟩, ⟨(.bin .lss (.t 22) (.t 24)), (some 25), none, [], []⟩]
def r_tree28_4 : Reg := ⟨[], t_tree28_4, [], [], false⟩
def t_tree28_5 : List ROp := [⟨(.mv (.t 1)), (some 28), none, [], []⟩, ⟨(.mv (.t 7)), (some 29), none, [], []⟩, ⟨(.iaddr 10 (.t 28) (.t 29)), (some 30), none, [], []⟩, ⟨(.faddr 0 (.t 30)), (some 31), none, [], []⟩, ⟨(.load 1 false (.t 31)), (some 32), none, [], []⟩, ⟨(.mv (.t 7)), (some 33), none, [], []⟩, ⟨(.bin .neq (.t 32) (.t 33)), (some 34), none, [], []⟩, ⟨(.mv (.t 34)), (some 35), none, [], []⟩, ⟨(.mv (.t 1)), (some 36), (some (35, false)), [], []⟩, ⟨(.mv (.t 7)), (some 37), (some (35, false)), [], []⟩, ⟨(.iaddr 10 (.t 36) (.t 37)), (some 38), (some (35, false)), [], []⟩, ⟨(.faddr 7 (.t 38)), (some 39), (some (35, false)), [], []⟩, ⟨(.load 1 false (.t 39)), (some 40), (some (35, false)), [], []⟩, ⟨(.bin .gtr (.t 40) (.c (.int .i64 1099511627776))), (some 41), (some (35, false)), [], []⟩, ⟨(.pick (.t 35) (.c (.bool true)) (.t 41)), (some 42), none, [], []⟩]
def r_tree28_5 : Reg := ⟨[], t_tree28_5, [], [], false⟩
def r_tree28_6 : Reg := ⟨[], [⟨(.mv (.c (.bool false))), (some 6), none, [], []⟩], [], [], false⟩
def t_tree28_7 : List ROp := [⟨(.mv (.t 7)), (some 26), none, [], []⟩, ⟨(.bin .add (.t 26) (.c (.int .i64 1))), (some 27), none, [], []⟩, ⟨(.mv (.t 27)), (some 7), none, [], []⟩]
def r_tree28_7 : Reg := ⟨[], t_tree28_7, [], [], false⟩
def r_tree28_l8 : IR := (.seq (.seq (.reg r_tree28_4)
  (.cond (.t 25) .skip
  (.exit 0)))
  (.seq (.block 1 (.seq (.reg r_tree28_5)
  (.cond (.t 42) (.seq (.reg r_tree28_6)
  .ret)
  .skip)))
  (.reg r_tree28_7)))
def t_tree28_9 : List ROp := [⟨(.load 5 true (.t 3)), (some 43), none, [45], []⟩, ⟨(.mv (.t 1)), (some 44), none, [45], []⟩, ⟨(.callv (.c (.clo 50 [] [])) [(.t 43), (.t 44)]), (some 45), none, [], []⟩, ⟨(.mv (.t 45)), (some 6), none, [], []⟩]
def r_tree28_9 : Reg := ⟨[], t_tree28_9, [45], [], false⟩
def ir_tree28 : IR := (.seq (.reg r_tree28_0)
  (.seq (.seq (.reg r_tree28_1)
  (.cond (.t 21) (.seq (.reg r_tree28_2)
  .ret)
  .skip))
  (.seq (.seq (.reg r_tree28_3)
  (.block 0 (.loop r_tree28_l8)))
  (.seq (.reg r_tree28_9)
  .ret))))
def res_tree28 : List RDesc := [(.tmp 6)]
theorem e_tree28_0 (C : FuncId → List AV → AV → Prop) (σ : St) (K : St → Prop) : runReg C r_tree28_0 σ K = runOps C [⟨(.box 5 23 (.t 0)), (some 3), none, [], []⟩, ⟨(.mv (.c (.bool false))), (some 6), none, [], []⟩] (σ.kills [3]) K := rfl
theorem e_tree28_1 (C : FuncId → List AV → AV → Prop) (σ : St) (K : St → Prop) : runReg C r_tree28_1 σ K = runOps C t_tree28_1 (σ.kills [9, 19]) K := rfl
theorem e_tree28_2 (C : FuncId → List AV → AV → Prop) (σ : St) (K : St → Prop) : runReg C r_tree28_2 σ K = runOps C [⟨(.mv (.c (.bool false))), (some 6), none, [], []⟩] (σ.kills []) K := rfl
theorem e_tree28_3 (C : FuncId → List AV → AV → Prop) (σ : St) (K : St → Prop) : runReg C r_tree28_3 σ K = runOps C [⟨(.mv (.c (.int .i64 0))), (some 7), none, [], []⟩] (σ.kills []) K := rfl
theorem e_tree28_4 (C : FuncId → List AV → AV → Prop) (σ : St) (K : St → Prop) : runReg C r_tree28_4 σ K = runOps C t_tree28_4 (σ.kills []) K := rfl
theorem e_tree28_5 (C : FuncId → List AV → AV → Prop) (σ : St) (K : St → Prop) : runReg C r_tree28_5 σ K = runOps C t_tree28_5 (σ.kills []) K := rfl
theorem e_tree28_6 (C : FuncId → List AV → AV → Prop) (σ : St) (K : St → Prop) : runReg C r_tree28_6 σ K = runOps C [⟨(.mv (.c (.bool false))), (some 6), none, [], []⟩] (σ.kills []) K := rfl
theorem e_tree28_7 (C : FuncId → List AV → AV → Prop) (σ : St) (K : St → Prop) : runReg C r_tree28_7 σ K = runOps C t_tree28_7 (σ.kills []) K := rfl
theorem e_tree28_9 (C : FuncId → List AV → AV → Prop) (σ : St) (K : St → Prop) : runReg C r_tree28_9 σ K = runOps C t_tree28_9 (σ.kills [45]) K := rfl
theorem fn_tree28 {args : List AV} {r : AV} (ha : args.length.ble Try.f9.ntmps = true) (h : run (AFn Try.prog) ir_tree28 (endQ res_tree28 r) (initSt args)) : AFn Try.prog 9 args r :=
  AFn.of_code (pv := false) (hint := fun _ => []) (c := Try.f9.body.getD .skip) (by kernel_rfl) (by kernel_rfl) Try.func9 (by kernel_rfl) (by kernel_rfl) (by kernel_rfl) (of_decide_eq_true (by kernel_rfl)) (Nat.le_of_ble_eq_true ha) (Nat.le_of_ble_eq_true (by kernel_rfl)) (run_ok h)
attribute [local go_sem ↓] ir_sound
attribute [local go_sem] res_sound e_sound_0 e_sound_1 t_sound_1 e_sound_2 t_sound_2 e_sound_3 e_sound_4 e_sound_5 t_sound_5 e_sound_6 t_sound_6 e_sound_7 t_sound_7 e_sound_8 e_sound_9 e_sound_10 t_sound_10 e_sound_11 h_sound_11 e_sound_12 e_sound_13 t_sound_13 e_sound_15 t_sound_15 e_sound_17
attribute [local go_sem ↓] ir_tree28
attribute [local go_sem] res_tree28 e_tree28_0 e_tree28_1 t_tree28_1 e_tree28_2 e_tree28_3 e_tree28_4 t_tree28_4 e_tree28_5 t_tree28_5 e_tree28_6 e_tree28_7 t_tree28_7 e_tree28_9 t_tree28_9
theorem seatsGo_ok {l : List Nd} (hl : l.length ≤ 200) (hn : ∀ n, n ∈ l → n.Lt) : ∀ (f : Nat) (out : List Seat) (i : Nat), SeatsOk out → out.length ≤ 10000 → SeatsOk (seatsGo l f out i).1 ∧ (seatsGo l f out i).1.length ≤ 10000
  | 0, out, i, h, hlen => ⟨h, hlen⟩
  | f + 1, out, i, h, hlen => by
    rw [seatsGo]
    split
    · exact ⟨h, hlen⟩
    · rename_i x hx
      have hk := kidsGo_ok hn (h i x hx) x.n.kids 0
      have hap := seatsOk_app hn h hx x.n.kids
      have hnk := (h i x hx).lt.nkid
      split
      · exact ⟨h, hlen⟩
      · have hle : (out ++ (kidsGo l x 0 x.n.kids).1).length ≤ 10000 := by rw [List.length_append]; omega
        split
        · exact seatsGo_ok hl hn f out (i + 1) h hlen
        · split
          · exact ⟨h, hlen⟩
          · split
            · exact seatsGo_ok hl hn f _ (i + 1) hap hle
            · exact ⟨hap, hle⟩
theorem seatsF_ok {l : List Nd} (hl : l.length ≤ 200) (hn : ∀ n, n ∈ l → n.Lt) (root : Int) : SeatsOk (seatsF l root).1 ∧ (seatsF l root).1.length ≤ 10000 := by
  unfold seatsF
  split
  · refine seatsGo_ok hl hn _ _ _ ?_ (by simp)
    intro i x hx
    cases i with
    | zero => cases hx; exact ⟨findF_lt hn root, ⟨Nat.zero_le _, Nat.zero_le _⟩, fun m hm => (by cases hm), Nat.zero_le _⟩
    | succ i => simp at hx
  · exact ⟨fun i x hx => by simp at hx, Nat.zero_le _⟩
def lateB (x : Seat) (m : Msg) : Bool := decide (x.n.seen < m.stamp)
def stB (c : Cfg) (x : Seat) : Bool := ndB c x.n && placedB x && decide (x.n.slot < c.slots) && x.ms.all (lateB x)
def soundB (c : Cfg) (l : List Nd) : Bool := (seatsF l 0).2 && onceB l (seatsF l 0).1 && linkedB (seatsF l 0).1 && decide ((l.length : Int) ≤ c.slots) && (seatsF l 0).1.all (stB c)
def sdInv (c : Cfg) (s : List Seat) (R : Bool) (k : Nat) (σ : St) : Prop :=
  ∃ i : Nat, i ≤ s.length ∧ k = s.length - i ∧ σ.T 2 = .ptr 2 0 0 ∧ σ.H 2 = some ⟨5, 23, [c.a], 0⟩ ∧ σ.T 5 = .sl (s.map Seat.a) ∧ σ.T 7 = .int .i64 i ∧ (s.drop i).all (stB c) = R
def sd2Inv (c : Cfg) (s : List Seat) (i : Nat) (x : Seat) (R : Bool) (k : Nat) (σ : St) : Prop :=
  ∃ j : Nat, j ≤ x.ms.length ∧ k = x.ms.length - j ∧ σ.T 2 = .ptr 2 0 0 ∧ σ.H 2 = some ⟨5, 23, [c.a], 0⟩ ∧ σ.T 5 = .sl (s.map Seat.a) ∧ σ.T 7 = .int .i64 i ∧
    σ.T 8 = .ptr 8 0 0 ∧ σ.H 8 = some ⟨14, 40, [x.a], 0⟩ ∧ σ.T 9 = .int .i64 j ∧ (x.ms.drop j).all (lateB x) = R
set_option maxHeartbeats 2000000 in
theorem late_loop (c : Cfg) (s : List Seat) (i : Nat) (x : Seat) (b : Nat) (hb : b ≤ 100000000) (hx0 : SeatOk x b) (R : Bool) (Q : XK → St → Prop)
    (hEnd : ∀ σ, R = true → σ.T 2 = .ptr 2 0 0 → σ.H 2 = some ⟨5, 23, [c.a], 0⟩ → σ.T 5 = .sl (s.map Seat.a) → σ.T 7 = .int .i64 i → Q (.exit 2) σ)
    (hRet : ∀ σ, R = false → σ.T 4 = .bool false → Q .ret σ) (k : Nat) (σ : St) (hI : sd2Inv c s i x R k σ) :
    run (AFn Try.prog) r_sound_l14 (thenQ (fun σ' => ∃ m, m < k ∧ sd2Inv c s i x R m σ') Q) σ := by
  obtain ⟨j, hj, rfl, t2, h2, t5, t7, t8, h8, t9, hr⟩ := hI
  simp only [r_sound_l14]
  have h8' := h8
  simp only [Seat.a] at h8'
  have hnm := hx0.nms
  by_cases hlt : j < x.ms.length
  case neg =>
    have hlt' : ¬ (j : Int) < (x.ms.length : Int) := by omega
    rw [List.drop_eq_nil_of_le (by omega), List.all_nil] at hr
    subst hr
    simp (maxSteps := 4000000) only [go_sem, ↓reduceIte, reduceCtorEq, Nat.reduceEqDiff, Nat.reduceBEq, Nat.reduceAdd, Nat.reduceSub, Nat.reduceMul, Nat.reduceLT, Nat.reduceLeDiff, Nat.reduceBNe, Int.reduceBEq, Int.reduceBNe, Int.reduceLT, Int.reduceLE, Spn.a, Msg.a, Par.a, Nd.a, Seat.a, Cfg.a, t2, h2, t5, t7, t8, h8', t9, hlt', List.length_map]
    refine hEnd _ rfl ?_ ?_ ?_ ?_
    · simp (maxSteps := 4000000) only [go_sem, ↓reduceIte, reduceCtorEq, Nat.reduceEqDiff, Nat.reduceBEq, Nat.reduceAdd, Nat.reduceSub, Nat.reduceMul, Nat.reduceLT, Nat.reduceLeDiff, Nat.reduceBNe, Int.reduceBEq, Int.reduceBNe, Int.reduceLT, Int.reduceLE, Spn.a, Msg.a, Par.a, Nd.a, Seat.a, Cfg.a, t2]
    · simp (maxSteps := 4000000) only [go_sem, ↓reduceIte, reduceCtorEq, Nat.reduceEqDiff, Nat.reduceBEq, Nat.reduceAdd, Nat.reduceSub, Nat.reduceMul, Nat.reduceLT, Nat.reduceLeDiff, Nat.reduceBNe, Int.reduceBEq, Int.reduceBNe, Int.reduceLT, Int.reduceLE, Spn.a, Msg.a, Par.a, Nd.a, Seat.a, Cfg.a, h2]
    · simp (maxSteps := 4000000) only [go_sem, ↓reduceIte, reduceCtorEq, Nat.reduceEqDiff, Nat.reduceBEq, Nat.reduceAdd, Nat.reduceSub, Nat.reduceMul, Nat.reduceLT, Nat.reduceLeDiff, Nat.reduceBNe, Int.reduceBEq, Int.reduceBNe, Int.reduceLT, Int.reduceLE, Spn.a, Msg.a, Par.a, Nd.a, Seat.a, Cfg.a, t5]
    · simp (maxSteps := 4000000) only [go_sem, ↓reduceIte, reduceCtorEq, Nat.reduceEqDiff, Nat.reduceBEq, Nat.reduceAdd, Nat.reduceSub, Nat.reduceMul, Nat.reduceLT, Nat.reduceLeDiff, Nat.reduceBNe, Int.reduceBEq, Int.reduceBNe, Int.reduceLT, Int.reduceLE, Spn.a, Msg.a, Par.a, Nd.a, Seat.a, Cfg.a, t7]
  have hlt' : (j : Int) < (x.ms.length : Int) := by omega
  obtain ⟨y, hy⟩ := get_lt hlt
  have hgy := at_map (f := Msg.a) hy
  simp only [Msg.a] at hgy
  have hw := wrapS (j := j) (by omega)
  rw [drop_at hy, List.all_cons] at hr
  have hbb : lateB x y = decide (x.n.seen < y.stamp) := rfl
  rw [hbb] at hr
  by_cases hs : y.stamp ≤ x.n.seen
  · rw [decide_eq_false (by omega), Bool.false_and] at hr
    subst hr
    simp (maxSteps := 4000000) only [go_sem, ↓reduceIte, reduceCtorEq, Nat.reduceEqDiff, Nat.reduceBEq, Nat.reduceAdd, Nat.reduceSub, Nat.reduceMul, Nat.reduceLT, Nat.reduceLeDiff, Nat.reduceBNe, Int.reduceBEq, Int.reduceBNe, Int.reduceLT, Int.reduceLE, Spn.a, Msg.a, Par.a, Nd.a, Seat.a, Cfg.a, t2, h2, t5, t7, t8, h8', t9, hlt', hgy, hs, List.length_map, Int.toNat_natCast]
    all_goals (repeat refine And.intro (by omega) ?_)
    refine hRet _ rfl ?_
    simp (maxSteps := 4000000) only [go_sem, ↓reduceIte, reduceCtorEq, Nat.reduceEqDiff, Nat.reduceBEq, Nat.reduceAdd, Nat.reduceSub, Nat.reduceMul, Nat.reduceLT, Nat.reduceLeDiff, Nat.reduceBNe, Int.reduceBEq, Int.reduceBNe, Int.reduceLT, Int.reduceLE, Spn.a, Msg.a, Par.a, Nd.a, Seat.a, Cfg.a]
  · rw [decide_eq_true (by omega), Bool.true_and] at hr
    simp (maxSteps := 4000000) only [go_sem, ↓reduceIte, reduceCtorEq, Nat.reduceEqDiff, Nat.reduceBEq, Nat.reduceAdd, Nat.reduceSub, Nat.reduceMul, Nat.reduceLT, Nat.reduceLeDiff, Nat.reduceBNe, Int.reduceBEq, Int.reduceBNe, Int.reduceLT, Int.reduceLE, Spn.a, Msg.a, Par.a, Nd.a, Seat.a, Cfg.a, t2, h2, t5, t7, t8, h8', t9, hlt', hgy, hs, hw, List.length_map, Int.toNat_natCast]
    (repeat refine And.intro (by omega) ?_)
    refine ⟨x.ms.length - (j + 1), by omega, j + 1, by omega, rfl, ?_, ?_, ?_, ?_, ?_, ?_, ?_, hr⟩
    · simp (maxSteps := 4000000) only [go_sem, ↓reduceIte, reduceCtorEq, Nat.reduceEqDiff, Nat.reduceBEq, Nat.reduceAdd, Nat.reduceSub, Nat.reduceMul, Nat.reduceLT, Nat.reduceLeDiff, Nat.reduceBNe, Int.reduceBEq, Int.reduceBNe, Int.reduceLT, Int.reduceLE, Spn.a, Msg.a, Par.a, Nd.a, Seat.a, Cfg.a, t2]
    · simp (maxSteps := 4000000) only [go_sem, ↓reduceIte, reduceCtorEq, Nat.reduceEqDiff, Nat.reduceBEq, Nat.reduceAdd, Nat.reduceSub, Nat.reduceMul, Nat.reduceLT, Nat.reduceLeDiff, Nat.reduceBNe, Int.reduceBEq, Int.reduceBNe, Int.reduceLT, Int.reduceLE, Spn.a, Msg.a, Par.a, Nd.a, Seat.a, Cfg.a, h2]
    · simp (maxSteps := 4000000) only [go_sem, ↓reduceIte, reduceCtorEq, Nat.reduceEqDiff, Nat.reduceBEq, Nat.reduceAdd, Nat.reduceSub, Nat.reduceMul, Nat.reduceLT, Nat.reduceLeDiff, Nat.reduceBNe, Int.reduceBEq, Int.reduceBNe, Int.reduceLT, Int.reduceLE, Spn.a, Msg.a, Par.a, Nd.a, Seat.a, Cfg.a, t5]
    · simp (maxSteps := 4000000) only [go_sem, ↓reduceIte, reduceCtorEq, Nat.reduceEqDiff, Nat.reduceBEq, Nat.reduceAdd, Nat.reduceSub, Nat.reduceMul, Nat.reduceLT, Nat.reduceLeDiff, Nat.reduceBNe, Int.reduceBEq, Int.reduceBNe, Int.reduceLT, Int.reduceLE, Spn.a, Msg.a, Par.a, Nd.a, Seat.a, Cfg.a, t7]
    · simp (maxSteps := 4000000) only [go_sem, ↓reduceIte, reduceCtorEq, Nat.reduceEqDiff, Nat.reduceBEq, Nat.reduceAdd, Nat.reduceSub, Nat.reduceMul, Nat.reduceLT, Nat.reduceLeDiff, Nat.reduceBNe, Int.reduceBEq, Int.reduceBNe, Int.reduceLT, Int.reduceLE, Spn.a, Msg.a, Par.a, Nd.a, Seat.a, Cfg.a, t8]
    · simp (maxSteps := 4000000) only [go_sem, ↓reduceIte, reduceCtorEq, Nat.reduceEqDiff, Nat.reduceBEq, Nat.reduceAdd, Nat.reduceSub, Nat.reduceMul, Nat.reduceLT, Nat.reduceLeDiff, Nat.reduceBNe, Int.reduceBEq, Int.reduceBNe, Int.reduceLT, Int.reduceLE, Spn.a, Msg.a, Par.a, Nd.a, Seat.a, Cfg.a, h8]
    · simp (maxSteps := 4000000) only [go_sem, ↓reduceIte, reduceCtorEq, Nat.reduceEqDiff, Nat.reduceBEq, Nat.reduceAdd, Nat.reduceSub, Nat.reduceMul, Nat.reduceLT, Nat.reduceLeDiff, Nat.reduceBNe, Int.reduceBEq, Int.reduceBNe, Int.reduceLT, Int.reduceLE, Spn.a, Msg.a, Par.a, Nd.a, Seat.a, Cfg.a, hw]
set_option maxHeartbeats 4000000 in
theorem sound_ok (c : Cfg) (l : List Nd) (hl : l.length ≤ 200) (hn : ∀ n, n ∈ l → n.Lt) : AFn Try.prog 50 [c.a, .sl (l.map Nd.a)] (.bool (soundB c l)) := by
  refine fn_sound rfl ?_
  have cS := seats_ok l 0 hl hn
  obtain ⟨hok, hlen⟩ := seatsF_ok hl hn 0
  unfold soundB
  generalize (seatsF l 0).1 = s at *
  generalize (seatsF l 0).2 = b1 at *
  have cO := onceT_ok l s (by omega) (by omega)
  have cL := linked_ok s (by omega)
  generalize onceB l s = b2 at *
  generalize linkedB s = b3 at *
  obtain ⟨R, hR⟩ : ∃ R, s.all (stB c) = R := ⟨_, rfl⟩
  rw [hR]
  cases b1
  · (repeat (first | simp (maxSteps := 4000000) only [go_sem, ↓reduceIte, reduceCtorEq, Nat.reduceEqDiff, Nat.reduceBEq, Nat.reduceAdd, Nat.reduceSub, Nat.reduceMul, Nat.reduceLT, Nat.reduceLeDiff, Nat.reduceBNe, Int.reduceBEq, Int.reduceBNe, Int.reduceLT, Int.reduceLE, Spn.a, Msg.a, Par.a, Nd.a, Seat.a, Cfg.a] | refine calling (cS) ?_ | refine callingH (cS) ?_ | refine calling (cO) ?_ | refine callingH (cO) ?_ | refine calling (cL) ?_ | refine callingH (cL) ?_ | refine And.intro (by omega) ?_ | refine And.intro (fun d hd => by (repeat (rcases hd with rfl | hd; · exact ⟨rfl, rfl⟩)); cases hd) ?_))
  cases b2
  · (repeat (first | simp (maxSteps := 4000000) only [go_sem, ↓reduceIte, reduceCtorEq, Nat.reduceEqDiff, Nat.reduceBEq, Nat.reduceAdd, Nat.reduceSub, Nat.reduceMul, Nat.reduceLT, Nat.reduceLeDiff, Nat.reduceBNe, Int.reduceBEq, Int.reduceBNe, Int.reduceLT, Int.reduceLE, Spn.a, Msg.a, Par.a, Nd.a, Seat.a, Cfg.a] | refine calling (cS) ?_ | refine callingH (cS) ?_ | refine calling (cO) ?_ | refine callingH (cO) ?_ | refine calling (cL) ?_ | refine callingH (cL) ?_ | refine And.intro (by omega) ?_ | refine And.intro (fun d hd => by (repeat (rcases hd with rfl | hd; · exact ⟨rfl, rfl⟩)); cases hd) ?_))
  cases b3
  · (repeat (first | simp (maxSteps := 4000000) only [go_sem, ↓reduceIte, reduceCtorEq, Nat.reduceEqDiff, Nat.reduceBEq, Nat.reduceAdd, Nat.reduceSub, Nat.reduceMul, Nat.reduceLT, Nat.reduceLeDiff, Nat.reduceBNe, Int.reduceBEq, Int.reduceBNe, Int.reduceLT, Int.reduceLE, Spn.a, Msg.a, Par.a, Nd.a, Seat.a, Cfg.a] | refine calling (cS) ?_ | refine callingH (cS) ?_ | refine calling (cO) ?_ | refine callingH (cO) ?_ | refine calling (cL) ?_ | refine callingH (cL) ?_ | refine And.intro (by omega) ?_ | refine And.intro (fun d hd => by (repeat (rcases hd with rfl | hd; · exact ⟨rfl, rfl⟩)); cases hd) ?_))
  by_cases q4 : (l.length : Int) ≤ c.slots
  case neg =>
    have q4' : c.slots < (l.length : Int) := by omega
    rw [decide_eq_false q4]
    (repeat (first | simp (maxSteps := 4000000) only [go_sem, ↓reduceIte, reduceCtorEq, Nat.reduceEqDiff, Nat.reduceBEq, Nat.reduceAdd, Nat.reduceSub, Nat.reduceMul, Nat.reduceLT, Nat.reduceLeDiff, Nat.reduceBNe, Int.reduceBEq, Int.reduceBNe, Int.reduceLT, Int.reduceLE, Spn.a, Msg.a, Par.a, Nd.a, Seat.a, Cfg.a, List.length_map, q4'] | refine calling (cS) ?_ | refine callingH (cS) ?_ | refine calling (cO) ?_ | refine callingH (cO) ?_ | refine calling (cL) ?_ | refine callingH (cL) ?_ | refine And.intro (by omega) ?_ | refine And.intro (fun d hd => by (repeat (rcases hd with rfl | hd; · exact ⟨rfl, rfl⟩)); cases hd) ?_))
  have q4' : ¬ c.slots < (l.length : Int) := by omega
  rw [decide_eq_true q4]
  (repeat (first | simp (maxSteps := 4000000) only [go_sem, ↓reduceIte, reduceCtorEq, Nat.reduceEqDiff, Nat.reduceBEq, Nat.reduceAdd, Nat.reduceSub, Nat.reduceMul, Nat.reduceLT, Nat.reduceLeDiff, Nat.reduceBNe, Int.reduceBEq, Int.reduceBNe, Int.reduceLT, Int.reduceLE, Spn.a, Msg.a, Par.a, Nd.a, Seat.a, Cfg.a, List.length_map, q4'] | refine calling (cS) ?_ | refine callingH (cS) ?_ | refine calling (cO) ?_ | refine callingH (cO) ?_ | refine calling (cL) ?_ | refine callingH (cL) ?_ | refine And.intro (by omega) ?_ | refine And.intro (fun d hd => by (repeat (rcases hd with rfl | hd; · exact ⟨rfl, rfl⟩)); cases hd) ?_))
  clear cS cO cL q4 q4'
  refine run_loop (sdInv c s R) (k := s.length) ⟨0, by omega, rfl, ?_, ?_, ?_, ?_, hR⟩ ?_
  · simp (maxSteps := 4000000) only [go_sem, ↓reduceIte, reduceCtorEq, Nat.reduceEqDiff, Nat.reduceBEq, Nat.reduceAdd, Nat.reduceSub, Nat.reduceMul, Nat.reduceLT, Nat.reduceLeDiff, Nat.reduceBNe, Int.reduceBEq, Int.reduceBNe, Int.reduceLT, Int.reduceLE, Spn.a, Msg.a, Par.a, Nd.a, Seat.a, Cfg.a]
  · simp (maxSteps := 4000000) only [go_sem, ↓reduceIte, reduceCtorEq, Nat.reduceEqDiff, Nat.reduceBEq, Nat.reduceAdd, Nat.reduceSub, Nat.reduceMul, Nat.reduceLT, Nat.reduceLeDiff, Nat.reduceBNe, Int.reduceBEq, Int.reduceBNe, Int.reduceLT, Int.reduceLE, Spn.a, Msg.a, Par.a, Nd.a, Seat.a, Cfg.a]
  · simp (maxSteps := 4000000) only [go_sem, ↓reduceIte, reduceCtorEq, Nat.reduceEqDiff, Nat.reduceBEq, Nat.reduceAdd, Nat.reduceSub, Nat.reduceMul, Nat.reduceLT, Nat.reduceLeDiff, Nat.reduceBNe, Int.reduceBEq, Int.reduceBNe, Int.reduceLT, Int.reduceLE, Spn.a, Msg.a, Par.a, Nd.a, Seat.a, Cfg.a]
  · (simp (maxSteps := 4000000) only [go_sem, ↓reduceIte, reduceCtorEq, Nat.reduceEqDiff, Nat.reduceBEq, Nat.reduceAdd, Nat.reduceSub, Nat.reduceMul, Nat.reduceLT, Nat.reduceLeDiff, Nat.reduceBNe, Int.reduceBEq, Int.reduceBNe, Int.reduceLT, Int.reduceLE, Spn.a, Msg.a, Par.a, Nd.a, Seat.a, Cfg.a]) <;> rfl
  clear hR
  rintro k σ ⟨i, hi, rfl, t2, h2, t5, t7, hr⟩
  simp only [r_sound_l16]
  by_cases hlt : i < s.length
  case neg =>
    have hlt' : ¬ (i : Int) < (s.length : Int) := by omega
    rw [List.drop_eq_nil_of_le (by omega), List.all_nil] at hr
    subst hr
    simp (maxSteps := 4000000) only [go_sem, ↓reduceIte, reduceCtorEq, Nat.reduceEqDiff, Nat.reduceBEq, Nat.reduceAdd, Nat.reduceSub, Nat.reduceMul, Nat.reduceLT, Nat.reduceLeDiff, Nat.reduceBNe, Int.reduceBEq, Int.reduceBNe, Int.reduceLT, Int.reduceLE, Spn.a, Msg.a, Par.a, Nd.a, Seat.a, Cfg.a, t2, h2, t5, t7, hlt', List.length_map]
  have hlt' : (i : Int) < (s.length : Int) := by omega
  obtain ⟨x, hx⟩ := get_lt hlt
  have hgx := at_map (f := Seat.a) hx
  simp only [Seat.a] at hgx
  have h2' := h2
  simp only [Cfg.a] at h2'
  have hw := wrapS (j := i) (by omega)
  have hx0 := hok i x hx
  have cN := right21_ok c x.n hx0.lt
  have cP := placed_ok x _ hx0
  rw [drop_at hx, List.all_cons] at hr
  have hb : stB c x = (ndB c x.n && placedB x && decide (x.n.slot < c.slots) && x.ms.all (lateB x)) := rfl
  rw [hb] at hr
  clear hb
  generalize ndB c x.n = e1 at *
  generalize placedB x = e2 at *
  cases e1
  · simp only [Bool.false_and] at hr
    subst hr
    (repeat (first | simp (maxSteps := 4000000) only [go_sem, ↓reduceIte, reduceCtorEq, Nat.reduceEqDiff, Nat.reduceBEq, Nat.reduceAdd, Nat.reduceSub, Nat.reduceMul, Nat.reduceLT, Nat.reduceLeDiff, Nat.reduceBNe, Int.reduceBEq, Int.reduceBNe, Int.reduceLT, Int.reduceLE, Spn.a, Msg.a, Par.a, Nd.a, Seat.a, Cfg.a, t2, h2', t5, t7, hlt', hgx, List.length_map, Int.toNat_natCast] | refine calling (cN) ?_ | refine callingH (cN) ?_ | refine calling (cP) ?_ | refine callingH (cP) ?_ | refine And.intro (by omega) ?_ | refine And.intro (fun d hd => by (repeat (rcases hd with rfl | hd; · exact ⟨rfl, rfl⟩)); cases hd) ?_))
  cases e2
  · simp only [Bool.and_false, Bool.false_and] at hr
    subst hr
    (repeat (first | simp (maxSteps := 4000000) only [go_sem, ↓reduceIte, reduceCtorEq, Nat.reduceEqDiff, Nat.reduceBEq, Nat.reduceAdd, Nat.reduceSub, Nat.reduceMul, Nat.reduceLT, Nat.reduceLeDiff, Nat.reduceBNe, Int.reduceBEq, Int.reduceBNe, Int.reduceLT, Int.reduceLE, Spn.a, Msg.a, Par.a, Nd.a, Seat.a, Cfg.a, t2, h2', t5, t7, hlt', hgx, List.length_map, Int.toNat_natCast] | refine calling (cN) ?_ | refine callingH (cN) ?_ | refine calling (cP) ?_ | refine callingH (cP) ?_ | refine And.intro (by omega) ?_ | refine And.intro (fun d hd => by (repeat (rcases hd with rfl | hd; · exact ⟨rfl, rfl⟩)); cases hd) ?_))
  by_cases q5 : x.n.slot < c.slots
  case neg =>
    have q5' : c.slots ≤ x.n.slot := by omega
    rw [decide_eq_false q5] at hr
    simp only [Bool.and_false, Bool.false_and] at hr
    subst hr
    (repeat (first | simp (maxSteps := 4000000) only [go_sem, ↓reduceIte, reduceCtorEq, Nat.reduceEqDiff, Nat.reduceBEq, Nat.reduceAdd, Nat.reduceSub, Nat.reduceMul, Nat.reduceLT, Nat.reduceLeDiff, Nat.reduceBNe, Int.reduceBEq, Int.reduceBNe, Int.reduceLT, Int.reduceLE, Spn.a, Msg.a, Par.a, Nd.a, Seat.a, Cfg.a, t2, h2', t5, t7, hlt', hgx, q5', List.length_map, Int.toNat_natCast] | refine calling (cN) ?_ | refine callingH (cN) ?_ | refine calling (cP) ?_ | refine callingH (cP) ?_ | refine And.intro (by omega) ?_ | refine And.intro (fun d hd => by (repeat (rcases hd with rfl | hd; · exact ⟨rfl, rfl⟩)); cases hd) ?_))
  have q5' : ¬ c.slots ≤ x.n.slot := by omega
  rw [decide_eq_true q5] at hr
  simp only [Bool.true_and] at hr
  (repeat (first | simp (maxSteps := 4000000) only [go_sem, ↓reduceIte, reduceCtorEq, Nat.reduceEqDiff, Nat.reduceBEq, Nat.reduceAdd, Nat.reduceSub, Nat.reduceMul, Nat.reduceLT, Nat.reduceLeDiff, Nat.reduceBNe, Int.reduceBEq, Int.reduceBNe, Int.reduceLT, Int.reduceLE, Spn.a, Msg.a, Par.a, Nd.a, Seat.a, Cfg.a, t2, h2', t5, t7, hlt', hgx, q5', List.length_map, Int.toNat_natCast] | refine calling (cN) ?_ | refine callingH (cN) ?_ | refine calling (cP) ?_ | refine callingH (cP) ?_ | refine And.intro (by omega) ?_ | refine And.intro (fun d hd => by (repeat (rcases hd with rfl | hd; · exact ⟨rfl, rfl⟩)); cases hd) ?_))
  obtain ⟨RL, hL⟩ : ∃ r, x.ms.all (lateB x) = r := ⟨_, rfl⟩
  rw [hL] at hr
  refine run_loop (sd2Inv c s i x RL) (k := x.ms.length) ⟨0, by omega, rfl, ?_, ?_, ?_, ?_, ?_, ?_, ?_, hL⟩ (late_loop c s i x (2000 * i) (by omega) hx0 RL _ ?_ ?_)
  · simp (maxSteps := 4000000) only [go_sem, ↓reduceIte, reduceCtorEq, Nat.reduceEqDiff, Nat.reduceBEq, Nat.reduceAdd, Nat.reduceSub, Nat.reduceMul, Nat.reduceLT, Nat.reduceLeDiff, Nat.reduceBNe, Int.reduceBEq, Int.reduceBNe, Int.reduceLT, Int.reduceLE, Spn.a, Msg.a, Par.a, Nd.a, Seat.a, Cfg.a, t2]
  · simp (maxSteps := 4000000) only [go_sem, ↓reduceIte, reduceCtorEq, Nat.reduceEqDiff, Nat.reduceBEq, Nat.reduceAdd, Nat.reduceSub, Nat.reduceMul, Nat.reduceLT, Nat.reduceLeDiff, Nat.reduceBNe, Int.reduceBEq, Int.reduceBNe, Int.reduceLT, Int.reduceLE, Spn.a, Msg.a, Par.a, Nd.a, Seat.a, Cfg.a, h2]
  · simp (maxSteps := 4000000) only [go_sem, ↓reduceIte, reduceCtorEq, Nat.reduceEqDiff, Nat.reduceBEq, Nat.reduceAdd, Nat.reduceSub, Nat.reduceMul, Nat.reduceLT, Nat.reduceLeDiff, Nat.reduceBNe, Int.reduceBEq, Int.reduceBNe, Int.reduceLT, Int.reduceLE, Spn.a, Msg.a, Par.a, Nd.a, Seat.a, Cfg.a, t5]
  · simp (maxSteps := 4000000) only [go_sem, ↓reduceIte, reduceCtorEq, Nat.reduceEqDiff, Nat.reduceBEq, Nat.reduceAdd, Nat.reduceSub, Nat.reduceMul, Nat.reduceLT, Nat.reduceLeDiff, Nat.reduceBNe, Int.reduceBEq, Int.reduceBNe, Int.reduceLT, Int.reduceLE, Spn.a, Msg.a, Par.a, Nd.a, Seat.a, Cfg.a, t7]
  · simp (maxSteps := 4000000) only [go_sem, ↓reduceIte, reduceCtorEq, Nat.reduceEqDiff, Nat.reduceBEq, Nat.reduceAdd, Nat.reduceSub, Nat.reduceMul, Nat.reduceLT, Nat.reduceLeDiff, Nat.reduceBNe, Int.reduceBEq, Int.reduceBNe, Int.reduceLT, Int.reduceLE, Spn.a, Msg.a, Par.a, Nd.a, Seat.a, Cfg.a]
  · simp (maxSteps := 4000000) only [go_sem, ↓reduceIte, reduceCtorEq, Nat.reduceEqDiff, Nat.reduceBEq, Nat.reduceAdd, Nat.reduceSub, Nat.reduceMul, Nat.reduceLT, Nat.reduceLeDiff, Nat.reduceBNe, Int.reduceBEq, Int.reduceBNe, Int.reduceLT, Int.reduceLE, Spn.a, Msg.a, Par.a, Nd.a, Seat.a, Cfg.a]
  · (simp (maxSteps := 4000000) only [go_sem, ↓reduceIte, reduceCtorEq, Nat.reduceEqDiff, Nat.reduceBEq, Nat.reduceAdd, Nat.reduceSub, Nat.reduceMul, Nat.reduceLT, Nat.reduceLeDiff, Nat.reduceBNe, Int.reduceBEq, Int.reduceBNe, Int.reduceLT, Int.reduceLE, Spn.a, Msg.a, Par.a, Nd.a, Seat.a, Cfg.a]) <;> rfl
  · intro σ hk t2 h2 t5 t7
    subst hk
    rw [Bool.true_and] at hr
    simp (maxSteps := 4000000) only [go_sem, ↓reduceIte, reduceCtorEq, Nat.reduceEqDiff, Nat.reduceBEq, Nat.reduceAdd, Nat.reduceSub, Nat.reduceMul, Nat.reduceLT, Nat.reduceLeDiff, Nat.reduceBNe, Int.reduceBEq, Int.reduceBNe, Int.reduceLT, Int.reduceLE, Spn.a, Msg.a, Par.a, Nd.a, Seat.a, Cfg.a, t2, h2, t5, t7, hw]
    refine ⟨s.length - (i + 1), by omega, i + 1, by omega, rfl, ?_, ?_, ?_, ?_, hr⟩
    · simp (maxSteps := 4000000) only [go_sem, ↓reduceIte, reduceCtorEq, Nat.reduceEqDiff, Nat.reduceBEq, Nat.reduceAdd, Nat.reduceSub, Nat.reduceMul, Nat.reduceLT, Nat.reduceLeDiff, Nat.reduceBNe, Int.reduceBEq, Int.reduceBNe, Int.reduceLT, Int.reduceLE, Spn.a, Msg.a, Par.a, Nd.a, Seat.a, Cfg.a, t2]
    · simp (maxSteps := 4000000) only [go_sem, ↓reduceIte, reduceCtorEq, Nat.reduceEqDiff, Nat.reduceBEq, Nat.reduceAdd, Nat.reduceSub, Nat.reduceMul, Nat.reduceLT, Nat.reduceLeDiff, Nat.reduceBNe, Int.reduceBEq, Int.reduceBNe, Int.reduceLT, Int.reduceLE, Spn.a, Msg.a, Par.a, Nd.a, Seat.a, Cfg.a, h2]
    · simp (maxSteps := 4000000) only [go_sem, ↓reduceIte, reduceCtorEq, Nat.reduceEqDiff, Nat.reduceBEq, Nat.reduceAdd, Nat.reduceSub, Nat.reduceMul, Nat.reduceLT, Nat.reduceLeDiff, Nat.reduceBNe, Int.reduceBEq, Int.reduceBNe, Int.reduceLT, Int.reduceLE, Spn.a, Msg.a, Par.a, Nd.a, Seat.a, Cfg.a, t5]
    · simp (maxSteps := 4000000) only [go_sem, ↓reduceIte, reduceCtorEq, Nat.reduceEqDiff, Nat.reduceBEq, Nat.reduceAdd, Nat.reduceSub, Nat.reduceMul, Nat.reduceLT, Nat.reduceLeDiff, Nat.reduceBNe, Int.reduceBEq, Int.reduceBNe, Int.reduceLT, Int.reduceLE, Spn.a, Msg.a, Par.a, Nd.a, Seat.a, Cfg.a, hw]
  · intro σ hk t4
    subst hk
    rw [Bool.false_and] at hr
    subst hr
    simp (maxSteps := 4000000) only [go_sem, ↓reduceIte, reduceCtorEq, Nat.reduceEqDiff, Nat.reduceBEq, Nat.reduceAdd, Nat.reduceSub, Nat.reduceMul, Nat.reduceLT, Nat.reduceLeDiff, Nat.reduceBNe, Int.reduceBEq, Int.reduceBNe, Int.reduceLT, Int.reduceLE, Spn.a, Msg.a, Par.a, Nd.a, Seat.a, Cfg.a, t4]
theorem lt_of {n : Nd} (ok : n.ok) (h : n.light 2000 = true) : n.Lt := by
  unfold Nd.light at h
  simp only [Bool.and_eq_true, decide_eq_true_eq] at h
  obtain ⟨⟨⟨⟨h1, h2⟩, h3⟩, h4⟩, h5⟩ := h
  have l1 := sumN_len (f := Par.bulk) (fun x => by unfold Par.bulk; omega) n.rows
  have l2 := sumN_len (f := strBulk) (fun x => by unfold strBulk; omega) n.pivots
  have l4 := sumN_len (f := Msg.bulkN) (fun x => by unfold Msg.bulkN; omega) n.msgs
  refine ⟨ok.level, fun x hx => ?_, by omega, by omega, by omega, fun m hm => ?_, by omega, fun p hp => ?_, by omega⟩
  · have := sumN_mem (f := strBulk) hx
    have e : strBulk x = x.size + 1 := rfl
    omega
  · have := sumN_mem (f := Msg.bulkN) hm
    have e : m.bulkN = 1 + m.key.size + m.hi.size + m.val.size := rfl
    exact ⟨by omega, by omega, by omega⟩
  · have := sumN_mem (f := Par.bulk) hp
    have e : p.bulk = 1 + p.key.size + p.val.size := rfl
    omega
def seqB (l : List Nd) : Nat → Bool
  | i => match l with
    | [] => true
    | n :: m => decide (n.slot = i) && decide (n.seen ≤ 1099511627776) && seqB m (i + 1)
def treeB (c : Cfg) (l : List Nd) (most : Int) : Bool := cfgB c && decide (l.length ≠ 0) && lightB l most 2000 && seqB l 0 && soundB c l
def trInv (c : Cfg) (l : List Nd) (R : Bool) (k : Nat) (σ : St) : Prop :=
  ∃ i : Nat, i ≤ l.length ∧ k = l.length - i ∧ σ.T 3 = .ptr 3 0 0 ∧ σ.H 3 = some ⟨5, 23, [c.a], 0⟩ ∧ σ.T 1 = .sl (l.map Nd.a) ∧ σ.T 7 = .int .i64 i ∧ seqB (l.drop i) i = R
set_option maxHeartbeats 4000000 in
theorem tree_ok (c : Cfg) (l : List Nd) (most : Int) (hm : most ≤ 200) (hs : ∀ x, x ∈ l → x.ok) (hl : l.length ≤ 281474976710656) : AFn Try.prog 9 [c.a, .sl (l.map Nd.a), .int .i64 most] (.bool (treeB c l most)) := by
  refine fn_tree28 rfl ?_
  have cC := right25_ok c
  have cL := light_ok l most 2000 (by omega) (by omega) hs hl
  unfold treeB
  generalize cfgB c = b1 at *
  cases b1
  · (repeat (first | simp (maxSteps := 4000000) only [go_sem, ↓reduceIte, reduceCtorEq, Nat.reduceEqDiff, Nat.reduceBEq, Nat.reduceAdd, Nat.reduceSub, Nat.reduceMul, Nat.reduceLT, Nat.reduceLeDiff, Nat.reduceBNe, Int.reduceBEq, Int.reduceBNe, Int.reduceLT, Int.reduceLE, Spn.a, Msg.a, Par.a, Nd.a, Seat.a, Cfg.a, List.length_map] | refine calling (cC) ?_ | refine callingH (cC) ?_ | refine calling (cL) ?_ | refine callingH (cL) ?_ | refine And.intro (by omega) ?_ | refine And.intro (fun d hd => by (repeat (rcases hd with rfl | hd; · exact ⟨rfl, rfl⟩)); cases hd) ?_))
  by_cases q2 : l.length = 0
  · have q2' : ((l.length : Int) == 0) = true := by simp [q2]
    rw [decide_eq_false (fun h => h q2)]
    (repeat (first | simp (maxSteps := 4000000) only [go_sem, ↓reduceIte, reduceCtorEq, Nat.reduceEqDiff, Nat.reduceBEq, Nat.reduceAdd, Nat.reduceSub, Nat.reduceMul, Nat.reduceLT, Nat.reduceLeDiff, Nat.reduceBNe, Int.reduceBEq, Int.reduceBNe, Int.reduceLT, Int.reduceLE, Spn.a, Msg.a, Par.a, Nd.a, Seat.a, Cfg.a, List.length_map, q2'] | refine calling (cC) ?_ | refine callingH (cC) ?_ | refine calling (cL) ?_ | refine callingH (cL) ?_ | refine And.intro (by omega) ?_ | refine And.intro (fun d hd => by (repeat (rcases hd with rfl | hd; · exact ⟨rfl, rfl⟩)); cases hd) ?_))
  have q2' : ((l.length : Int) == 0) = false := beq_eq_false_iff_ne.2 (by omega)
  rw [decide_eq_true q2]
  cases hL : lightB l most 2000
  · rw [hL] at cL
    (repeat (first | simp (maxSteps := 4000000) only [go_sem, ↓reduceIte, reduceCtorEq, Nat.reduceEqDiff, Nat.reduceBEq, Nat.reduceAdd, Nat.reduceSub, Nat.reduceMul, Nat.reduceLT, Nat.reduceLeDiff, Nat.reduceBNe, Int.reduceBEq, Int.reduceBNe, Int.reduceLT, Int.reduceLE, Spn.a, Msg.a, Par.a, Nd.a, Seat.a, Cfg.a, List.length_map, q2'] | refine calling (cC) ?_ | refine callingH (cC) ?_ | refine calling (cL) ?_ | refine callingH (cL) ?_ | refine And.intro (by omega) ?_ | refine And.intro (fun d hd => by (repeat (rcases hd with rfl | hd; · exact ⟨rfl, rfl⟩)); cases hd) ?_))
  rw [hL] at cL
  have hL2 := hL
  unfold lightB at hL2
  rw [Bool.and_eq_true, decide_eq_true_eq, List.all_eq_true] at hL2
  have hlt : ∀ n, n ∈ l → n.Lt := fun n hn => lt_of (hs n hn) (hL2.2 n hn)
  have cS := sound_ok c l (by have := hL2.1; omega) hlt
  generalize soundB c l = bs at *
  obtain ⟨R, hR⟩ : ∃ R, seqB l 0 = R := ⟨_, rfl⟩
  rw [hR]
  (repeat (first | simp (maxSteps := 4000000) only [go_sem, ↓reduceIte, reduceCtorEq, Nat.reduceEqDiff, Nat.reduceBEq, Nat.reduceAdd, Nat.reduceSub, Nat.reduceMul, Nat.reduceLT, Nat.reduceLeDiff, Nat.reduceBNe, Int.reduceBEq, Int.reduceBNe, Int.reduceLT, Int.reduceLE, Spn.a, Msg.a, Par.a, Nd.a, Seat.a, Cfg.a, List.length_map, q2'] | refine calling (cC) ?_ | refine callingH (cC) ?_ | refine calling (cL) ?_ | refine callingH (cL) ?_ | refine And.intro (by omega) ?_ | refine And.intro (fun d hd => by (repeat (rcases hd with rfl | hd; · exact ⟨rfl, rfl⟩)); cases hd) ?_))
  refine run_loop (trInv c l R) (k := l.length) ⟨0, by omega, rfl, ?_, ?_, ?_, ?_, hR⟩ ?_
  · simp (maxSteps := 4000000) only [go_sem, ↓reduceIte, reduceCtorEq, Nat.reduceEqDiff, Nat.reduceBEq, Nat.reduceAdd, Nat.reduceSub, Nat.reduceMul, Nat.reduceLT, Nat.reduceLeDiff, Nat.reduceBNe, Int.reduceBEq, Int.reduceBNe, Int.reduceLT, Int.reduceLE, Spn.a, Msg.a, Par.a, Nd.a, Seat.a, Cfg.a]
  · simp (maxSteps := 4000000) only [go_sem, ↓reduceIte, reduceCtorEq, Nat.reduceEqDiff, Nat.reduceBEq, Nat.reduceAdd, Nat.reduceSub, Nat.reduceMul, Nat.reduceLT, Nat.reduceLeDiff, Nat.reduceBNe, Int.reduceBEq, Int.reduceBNe, Int.reduceLT, Int.reduceLE, Spn.a, Msg.a, Par.a, Nd.a, Seat.a, Cfg.a]
  · simp (maxSteps := 4000000) only [go_sem, ↓reduceIte, reduceCtorEq, Nat.reduceEqDiff, Nat.reduceBEq, Nat.reduceAdd, Nat.reduceSub, Nat.reduceMul, Nat.reduceLT, Nat.reduceLeDiff, Nat.reduceBNe, Int.reduceBEq, Int.reduceBNe, Int.reduceLT, Int.reduceLE, Spn.a, Msg.a, Par.a, Nd.a, Seat.a, Cfg.a]
  · (simp (maxSteps := 4000000) only [go_sem, ↓reduceIte, reduceCtorEq, Nat.reduceEqDiff, Nat.reduceBEq, Nat.reduceAdd, Nat.reduceSub, Nat.reduceMul, Nat.reduceLT, Nat.reduceLeDiff, Nat.reduceBNe, Int.reduceBEq, Int.reduceBNe, Int.reduceLT, Int.reduceLE, Spn.a, Msg.a, Par.a, Nd.a, Seat.a, Cfg.a]) <;> rfl
  clear hR cC cL q2'
  rintro k σ ⟨i, hi, rfl, t3, h3, t1, t7, hr⟩
  simp only [r_tree28_l8]
  have h3' := h3
  simp only [Cfg.a] at h3'
  by_cases hlt2 : i < l.length
  case neg =>
    have hlt' : ¬ (i : Int) < (l.length : Int) := by omega
    rw [List.drop_eq_nil_of_le (by omega), seqB] at hr
    subst hr
    (repeat (first | simp (maxSteps := 4000000) only [go_sem, ↓reduceIte, reduceCtorEq, Nat.reduceEqDiff, Nat.reduceBEq, Nat.reduceAdd, Nat.reduceSub, Nat.reduceMul, Nat.reduceLT, Nat.reduceLeDiff, Nat.reduceBNe, Int.reduceBEq, Int.reduceBNe, Int.reduceLT, Int.reduceLE, Spn.a, Msg.a, Par.a, Nd.a, Seat.a, Cfg.a, t3, h3', t1, t7, hlt', List.length_map] | refine calling (cS) ?_ | refine callingH (cS) ?_ | refine And.intro (by omega) ?_ | refine And.intro (fun d hd => by (repeat (rcases hd with rfl | hd; · exact ⟨rfl, rfl⟩)); cases hd) ?_))
  have hlt' : (i : Int) < (l.length : Int) := by omega
  obtain ⟨x, hx⟩ := get_lt hlt2
  have hgx := at_map (f := Nd.a) hx
  simp only [Nd.a] at hgx
  have hw := wrapS (j := i) (by omega)
  rw [drop_at hx, seqB] at hr
  by_cases q5 : x.slot = (i : Int)
  case neg =>
    have q5' : (x.slot != (i : Int)) = true := by simp [q5]
    rw [decide_eq_false q5, Bool.false_and, Bool.false_and] at hr
    subst hr
    simp (maxSteps := 4000000) only [go_sem, ↓reduceIte, reduceCtorEq, Nat.reduceEqDiff, Nat.reduceBEq, Nat.reduceAdd, Nat.reduceSub, Nat.reduceMul, Nat.reduceLT, Nat.reduceLeDiff, Nat.reduceBNe, Int.reduceBEq, Int.reduceBNe, Int.reduceLT, Int.reduceLE, Spn.a, Msg.a, Par.a, Nd.a, Seat.a, Cfg.a, t3, h3', t1, t7, hlt', hgx, q5', List.length_map, Int.toNat_natCast]
    all_goals omega
  have q5' : (x.slot != (i : Int)) = false := by simp [q5]
  rw [decide_eq_true q5] at hr
  by_cases q6 : x.seen ≤ 1099511627776
  case neg =>
    have q6' : 1099511627776 < x.seen := by omega
    rw [decide_eq_false q6, Bool.and_false, Bool.false_and] at hr
    subst hr
    simp (maxSteps := 4000000) only [go_sem, ↓reduceIte, reduceCtorEq, Nat.reduceEqDiff, Nat.reduceBEq, Nat.reduceAdd, Nat.reduceSub, Nat.reduceMul, Nat.reduceLT, Nat.reduceLeDiff, Nat.reduceBNe, Int.reduceBEq, Int.reduceBNe, Int.reduceLT, Int.reduceLE, Spn.a, Msg.a, Par.a, Nd.a, Seat.a, Cfg.a, t3, h3', t1, t7, hlt', hgx, q5', q6', List.length_map, Int.toNat_natCast]
    all_goals omega
  have q6' : ¬ 1099511627776 < x.seen := by omega
  rw [decide_eq_true q6, Bool.true_and, Bool.true_and] at hr
  simp (maxSteps := 4000000) only [go_sem, ↓reduceIte, reduceCtorEq, Nat.reduceEqDiff, Nat.reduceBEq, Nat.reduceAdd, Nat.reduceSub, Nat.reduceMul, Nat.reduceLT, Nat.reduceLeDiff, Nat.reduceBNe, Int.reduceBEq, Int.reduceBNe, Int.reduceLT, Int.reduceLE, Spn.a, Msg.a, Par.a, Nd.a, Seat.a, Cfg.a, t3, h3', t1, t7, hlt', hgx, q5', q6', hw, List.length_map, Int.toNat_natCast]
  (repeat refine And.intro (by omega) ?_)
  refine ⟨l.length - (i + 1), by omega, i + 1, by omega, rfl, ?_, ?_, ?_, ?_, hr⟩
  · simp (maxSteps := 4000000) only [go_sem, ↓reduceIte, reduceCtorEq, Nat.reduceEqDiff, Nat.reduceBEq, Nat.reduceAdd, Nat.reduceSub, Nat.reduceMul, Nat.reduceLT, Nat.reduceLeDiff, Nat.reduceBNe, Int.reduceBEq, Int.reduceBNe, Int.reduceLT, Int.reduceLE, Spn.a, Msg.a, Par.a, Nd.a, Seat.a, Cfg.a, t3]
  · simp (maxSteps := 4000000) only [go_sem, ↓reduceIte, reduceCtorEq, Nat.reduceEqDiff, Nat.reduceBEq, Nat.reduceAdd, Nat.reduceSub, Nat.reduceMul, Nat.reduceLT, Nat.reduceLeDiff, Nat.reduceBNe, Int.reduceBEq, Int.reduceBNe, Int.reduceLT, Int.reduceLE, Spn.a, Msg.a, Par.a, Nd.a, Seat.a, Cfg.a, h3]
  · simp (maxSteps := 4000000) only [go_sem, ↓reduceIte, reduceCtorEq, Nat.reduceEqDiff, Nat.reduceBEq, Nat.reduceAdd, Nat.reduceSub, Nat.reduceMul, Nat.reduceLT, Nat.reduceLeDiff, Nat.reduceBNe, Int.reduceBEq, Int.reduceBNe, Int.reduceLT, Int.reduceLE, Spn.a, Msg.a, Par.a, Nd.a, Seat.a, Cfg.a, t1]
  · simp (maxSteps := 4000000) only [go_sem, ↓reduceIte, reduceCtorEq, Nat.reduceEqDiff, Nat.reduceBEq, Nat.reduceAdd, Nat.reduceSub, Nat.reduceMul, Nat.reduceLT, Nat.reduceLeDiff, Nat.reduceBNe, Int.reduceBEq, Int.reduceBNe, Int.reduceLT, Int.reduceLE, Spn.a, Msg.a, Par.a, Nd.a, Seat.a, Cfg.a, hw]
end
section
/-
  Trees of the document: the order of a sound tree's seats: the plain law.
-/
open Go.RowKit
set_option linter.unusedVariables false
set_option linter.unusedSimpArgs false
set_option maxRecDepth 100000
theorem seqB_ord : ∀ (l : List Nd) (i : Nat), seqB l i = true → ∀ (j : Nat) (n : Nd), l[j]? = some n → n.slot = ((i + j : Nat) : Int)
  | [], i, h, j, n, e => by simp at e
  | x :: l, i, h, j, n, e => by
    rw [seqB, Bool.and_eq_true, Bool.and_eq_true, decide_eq_true_eq] at h
    cases j with
    | zero => cases e; rw [h.1.1]; rfl
    | succ j =>
      have := seqB_ord l (i + 1) h.2 j n (by simpa using e)
      rw [this]; omega
def Seat.sl (x : Seat) : Int := x.n.slot
def seatK (x : Seat) : List Int := if x.n.level = 0 then [] else x.n.kids
theorem kidsGo_slots {l : List Nd} (h : InOrd l) {x : Seat} : ∀ (ks : List Int) (j : Nat), (kidsGo l x j ks).2 = true → (kidsGo l x j ks).1.map Seat.sl = ks ∧ ∀ y, y ∈ (kidsGo l x j ks).1 → ndAt l y.n.slot = some y.n
  | [], j, _ => ⟨rfl, fun y hy => by cases hy⟩
  | k :: ks, j, hk => by
    rw [kidsGo] at hk ⊢
    by_cases c : (findF l k).2 = true ∧ (findF l k).1.level = x.n.level - 1
    · rw [if_pos c] at hk ⊢
      obtain ⟨i1, i2⟩ := kidsGo_slots h ks (j + 1) hk
      have e := findF_ord h k
      cases en : ndAt l k with
      | none => rw [en] at e; rw [e] at c; exact absurd c.1 (by decide)
      | some n =>
        rw [en] at e
        have e' : (findF l k).1 = n := by rw [e]; rfl
        have hs := (ndAt_slot h en).1
        refine ⟨?_, fun y hy => ?_⟩
        · rw [List.map_cons, i1]
          show (findF l k).1.slot :: ks = _
          rw [e', hs]
        · rcases List.mem_cons.1 hy with q | q
          · rw [q]
            show ndAt l (findF l k).1.slot = some (findF l k).1
            rw [e', hs]; exact en
          · exact i2 y q
    · rw [if_neg c] at hk; cases hk
theorem seatsGo_bfs {l : List Nd} (h : InOrd l) : ∀ (f : Nat) (out : List Seat) (i : Nat), l.length + 1 ≤ i + f → i ≤ out.length → out.map Seat.sl = 0 :: (out.take i).flatMap seatK → (∀ j, j < i → j < 1 + ((out.take j).flatMap seatK).length) →
    (∀ y, y ∈ out → ndAt l y.n.slot = some y.n) → ∀ S, seatsGo l f out i = (S, true) → S.length = l.length →
    S.map Seat.sl = 0 :: S.flatMap seatK ∧ (∀ j, j < S.length → j < 1 + ((S.take j).flatMap seatK).length) ∧ ∀ y, y ∈ S → ndAt l y.n.slot = some y.n
  | 0, out, i, hf, hi, h1, h2, h3, S, e, hl => by
    rw [seatsGo] at e
    cases e
    omega
  | f + 1, out, i, hf, hi, h1, h2, h3, S, e, hl => by
    rw [seatsGo] at e
    cases hx : out[i]? with
    | none =>
      rw [hx] at e
      cases e
      have := List.getElem?_eq_none_iff.1 hx
      have e2 : i = out.length := by omega
      subst e2
      rw [List.take_length] at h1
      exact ⟨h1, h2, h3⟩
    | some x =>
      rw [hx] at e
      have hlt := (List.getElem?_eq_some_iff.1 hx).1
      have htk : out.take (i + 1) = out.take i ++ [x] := by rw [List.take_add_one, hx]; rfl
      have hlen : out.length = 1 + ((out.take i).flatMap seatK).length := by
        have := congrArg List.length h1
        rw [List.length_map, List.length_cons] at this
        omega
      have hnew : ∀ j, j < i + 1 → j < 1 + ((out.take j).flatMap seatK).length := fun j hj => by
        rcases Nat.lt_or_ge j i with q | q
        · exact h2 j q
        · have : j = i := by omega
          rw [this]; omega
      dsimp only at e
      by_cases q1 : l.length < out.length
      · rw [if_pos q1] at e; cases e
      rw [if_neg q1] at e
      by_cases q2 : x.n.level = 0
      · rw [if_pos q2] at e
        refine seatsGo_bfs h f out (i + 1) (by omega) hlt ?_ hnew h3 S e hl
        rw [htk, List.flatMap_append, h1]
        have : ([x].flatMap seatK) = [] := by simp [seatK, q2]
        rw [this, List.append_nil]
      rw [if_neg q2] at e
      by_cases q3 : x.n.level < 0 ∨ rightK x.n.pivots x.n.kids = false
      · rw [if_pos q3] at e; cases e
      rw [if_neg q3] at e
      by_cases q4 : (kidsGo l x 0 x.n.kids).2 = true
      case neg => rw [if_neg q4] at e; cases e
      rw [if_pos q4] at e
      obtain ⟨k1, k2⟩ := kidsGo_slots h x.n.kids 0 q4
      have hap : ∀ j, j ≤ i + 1 → (out ++ (kidsGo l x 0 x.n.kids).1).take j = out.take j := fun j hj => List.take_append_of_le_length (by omega)
      refine seatsGo_bfs h f (out ++ (kidsGo l x 0 x.n.kids).1) (i + 1) (by omega) (by rw [List.length_append]; omega) ?_ (fun j hj => ?_) (fun y hy => ?_) S e hl
      · rw [hap _ (Nat.le_refl _), htk, List.flatMap_append, List.map_append, h1, k1]
        have : ([x].flatMap seatK) = x.n.kids := by simp [seatK, q2]
        rw [this]; rfl
      · rw [hap j (by omega)]; exact hnew j hj
      · rcases List.mem_append.1 hy with q | q
        · exact h3 y q
        · exact k2 y q
/-- slots, each ahead of its kids -/
structure Ords (l : List Nd) (q : List Int) : Prop where
  eq : q = 0 :: q.flatMap (kidsAt l)
  dup : q.Nodup
  mem : ∀ s, s ∈ q → 0 ≤ s ∧ s < l.length
  live : ∀ j, j < q.length → j < 1 + ((q.take j).flatMap (kidsAt l)).length
theorem linked_at : ∀ {s : List Seat} {i : Nat} {x : Seat}, linkedB s = true → s[i]? = some x → x.n.right = -1 ∨ ∃ y, s[i + 1]? = some y ∧ x.n.right = y.n.slot
  | [], i, x, h, e => by simp at e
  | z :: s, 0, x, h, e => by
    cases e
    rw [linkedB, Bool.and_eq_true, decide_eq_true_eq] at h
    rw [h.1]
    cases s with
    | nil => exact .inl rfl
    | cons y s =>
      rw [wantR]
      split
      · exact .inr ⟨y, rfl, rfl⟩
      · exact .inl rfl
  | z :: s, i + 1, x, h, e => by
    rw [linkedB, Bool.and_eq_true] at h
    have q := linked_at (s := s) (i := i) (x := x) h.2 (by simpa using e)
    simpa using q
theorem nodup_of_count : ∀ {q : List Int}, (∀ s, s ∈ q → q.count s = 1) → q.Nodup
  | [], _ => List.nodup_nil
  | x :: q, h => by
    have hx := h x (List.mem_cons_self ..)
    rw [List.count_cons_self] at hx
    have hn : x ∉ q := fun hm => by
      have := List.count_pos_iff.2 hm
      omega
    refine List.nodup_cons.2 ⟨hn, nodup_of_count fun s hs => ?_⟩
    have := h s (List.mem_cons_of_mem _ hs)
    rw [List.count_cons_of_ne (fun e => hn (by rw [e]; exact hs))] at this
    exact this
structure TreeLaw (l : List Nd) (S : List Seat) : Prop where
  lad : Lad l
  ords : Ords l (S.map Seat.sl)
  pos : ∀ (i : Nat) (s x : Int), (S.map Seat.sl)[i]? = some s → x ∈ steps l s → ∃ j, i < j ∧ (S.map Seat.sl)[j]? = some x
  all : ∀ s : Int, 0 ≤ s → s < l.length → s ∈ S.map Seat.sl
  seat : ∀ x, x ∈ S → 0 ≤ x.n.slot ∧ x.n.slot < l.length
  len : S.length ≤ 200
theorem tree_law {c : Cfg} {l : List Nd} {most : Int} (hm : most ≤ 200) (h : treeB c l most = true) : TreeLaw l (seatsF l 0).1 := by
  unfold treeB at h
  rw [Bool.and_eq_true, Bool.and_eq_true, Bool.and_eq_true, Bool.and_eq_true] at h
  obtain ⟨⟨⟨⟨_, hne⟩, hL⟩, hq⟩, hS⟩ := h
  have hord : InOrd l := fun j n e => by have := seqB_ord l 0 hq j n e; rw [this]; omega
  unfold lightB at hL
  rw [Bool.and_eq_true, decide_eq_true_eq, List.all_eq_true] at hL
  obtain ⟨hlen, hlt⟩ := hL
  unfold soundB at hS
  rw [Bool.and_eq_true, Bool.and_eq_true, Bool.and_eq_true, Bool.and_eq_true, List.all_eq_true] at hS
  obtain ⟨⟨⟨⟨hok, honce⟩, hlink⟩, _⟩, hst⟩ := hS
  unfold onceB at honce
  rw [Bool.and_eq_true, decide_eq_true_eq, List.all_eq_true] at honce
  obtain ⟨hl1, hcnt⟩ := honce
  generalize hSd : (seatsF l 0).1 = S at *
  have hgo : ∃ r, findF l 0 = (r, true) ∧ ndAt l 0 = some r ∧ seatsGo l (l.length + 1) [⟨r, ⟨nul0, nul0, true⟩, []⟩] 0 = (S, true) := by
    unfold seatsF at hok hSd
    have e := findF_ord hord 0
    cases en : ndAt l 0 with
    | none =>
      rw [en] at e
      rw [e] at hok
      have hf : ¬ ((Option.map (fun n : Nd => (n, true)) none).getD (Nd.zero, false)).2 = true := Bool.false_ne_true
      rw [if_neg hf] at hok
      cases hok
    | some r =>
      rw [en] at e
      have e' : findF l 0 = (r, true) := e
      rw [e'] at hok hSd
      rw [if_pos rfl] at hok hSd
      exact ⟨r, e', rfl, Prod.ext hSd hok⟩
  obtain ⟨r, _, er, hgo⟩ := hgo
  have hr0 := (ndAt_slot hord er).1
  obtain ⟨b1, b2, b3⟩ := seatsGo_bfs hord (l.length + 1) [⟨r, ⟨nul0, nul0, true⟩, []⟩] 0 (by omega) (Nat.zero_le _) (by show [r.slot] = [0]; rw [hr0]) (fun j hj => absurd hj (by omega))
    (fun y hy => by
      have : y = ⟨r, ⟨nul0, nul0, true⟩, []⟩ := by simpa using hy
      rw [this]
      show ndAt l r.slot = some r
      rw [hr0]; exact er) S hgo hl1.symm
  have hseat : ∀ x, x ∈ S → ndB c x.n = true := fun x hx => by
    have := hst x hx
    unfold stB at this
    rw [Bool.and_eq_true, Bool.and_eq_true, Bool.and_eq_true] at this
    exact this.1.1.1
  have hkk : ∀ x, x ∈ S → seatK x = kidsAt l x.n.slot := fun x hx => by
    have e := b3 x hx
    have hn := hseat x hx
    unfold kidsAt seatK
    rw [e]
    show _ = x.n.kids
    by_cases h0 : x.n.level = 0
    · rw [if_pos h0]
      unfold ndB at hn
      rw [Bool.and_eq_true, if_pos h0] at hn
      have := hn.2
      unfold leafB at this
      rw [Bool.and_eq_true, Bool.and_eq_true, Bool.and_eq_true, decide_eq_true_eq] at this
      exact (List.length_eq_zero_iff.1 (by omega)).symm
    · rw [if_neg h0]
  have hfl : ∀ T : List Seat, (∀ x, x ∈ T → x ∈ S) → T.flatMap seatK = (T.map Seat.sl).flatMap (kidsAt l) := by
    intro T
    induction T with
    | nil => intro _; rfl
    | cons x T ih =>
      intro hT
      rw [List.map_cons, List.flatMap_cons, List.flatMap_cons, ih (fun y hy => hT y (List.mem_cons_of_mem _ hy)), hkk x (hT x (List.mem_cons_self ..))]
      rfl
  have hmem : ∀ s, s ∈ S.map Seat.sl → ∃ x, x ∈ S ∧ x.n.slot = s := fun s hs => by
    obtain ⟨x, h1, h2⟩ := List.mem_map.1 hs
    exact ⟨x, h1, h2⟩
  have hrange : ∀ x, x ∈ S → 0 ≤ x.n.slot ∧ x.n.slot < l.length := fun x hx => by
    have := ndAt_slot hord (b3 x hx)
    exact this.2.2
  have hcount : ∀ s : Int, 0 ≤ s → s < l.length → (S.map Seat.sl).count s = 1 := fun s h0 h1 => by
    obtain ⟨n, hn⟩ := ndAt_some h0 h1
    obtain ⟨e1, e2, _⟩ := ndAt_slot hord hn
    have := hcnt n e2
    rw [beq_iff_eq, e1] at this
    rw [← this]
    unfold slotN
    rw [List.count_eq_countP, List.countP_map]
    rfl
  have hall : ∀ s : Int, 0 ≤ s → s < l.length → s ∈ S.map Seat.sl := fun s h0 h1 => List.count_pos_iff.1 (by rw [hcount s h0 h1]; decide)
  have hnode : ∀ n, n ∈ l → ∃ (i : Nat) (x : Seat), S[i]? = some x ∧ x.n = n := fun n hn => by
    obtain ⟨j, hj⟩ := List.mem_iff_getElem?.1 hn
    have hsl := hord j n hj
    have hjl := (List.getElem?_eq_some_iff.1 hj).1
    obtain ⟨x, hx1, hx2⟩ := hmem n.slot (hall n.slot (by omega) (by omega))
    obtain ⟨i, hi⟩ := List.mem_iff_getElem?.1 hx1
    refine ⟨i, x, hi, ?_⟩
    have e := b3 x hx1
    rw [hx2, hsl] at e
    unfold ndAt at e
    rw [if_pos (by omega), show ((j : Int)).toNat = j by omega, hj] at e
    cases e; rfl
  have hq0 : S.map Seat.sl = 0 :: (S.map Seat.sl).flatMap (kidsAt l) := by rw [← hfl S (fun x hx => hx)]; exact b1
  have hkin : ∀ x, x ∈ S → ∀ k, k ∈ x.n.kids → k ∈ S.map Seat.sl := fun x hx k hk => by
    rw [hq0]
    refine List.mem_cons_of_mem _ (List.mem_flatMap.2 ⟨x.n.slot, List.mem_map.2 ⟨x, hx, rfl⟩, ?_⟩)
    unfold kidsAt
    rw [b3 x hx]
    exact hk
  have htop : ∀ n, ndB c n = true → (0 ≤ n.right ↔ n.top = false) := fun n hn => by
    unfold ndB at hn
    rw [Bool.and_eq_true, Bool.and_eq_true] at hn
    have := hn.1.2
    unfold topB at this
    cases ht : n.top with
    | true =>
      rw [ht, if_pos rfl, Bool.and_eq_true, decide_eq_true_eq] at this
      rw [this.2]; simp
    | false =>
      rw [ht, if_neg (by decide), Bool.and_eq_true, decide_eq_true_eq] at this
      simp [this.2]
  have hlad : Lad l := by
    refine ⟨hord, by omega, fun n hn => ?_, fun n hn k hk => ?_, fun n hn => ?_, fun n hn => ?_⟩
    · have := hlt n hn
      unfold Nd.light at this
      simp only [Bool.and_eq_true, decide_eq_true_eq] at this
      omega
    · obtain ⟨i, x, hi, hx⟩ := hnode n hn
      have hxm := List.mem_of_getElem? hi
      obtain ⟨y, y1, y2⟩ := hmem k (hkin x hxm k (by rw [hx]; exact hk))
      rw [← y2]; exact hrange y y1
    · obtain ⟨i, x, hi, hx⟩ := hnode n hn
      rcases linked_at hlink hi with q | ⟨y, y1, y2⟩
      · rw [← hx, q]; omega
      · rw [← hx, y2]; exact (hrange y (List.mem_of_getElem? y1)).2
    · obtain ⟨i, x, hi, hx⟩ := hnode n hn
      rw [← hx]; exact htop x.n (hseat x (List.mem_of_getElem? hi))
  have hlive : ∀ j, j < (S.map Seat.sl).length → j < 1 + (((S.map Seat.sl).take j).flatMap (kidsAt l)).length := fun j hj => by
    rw [List.length_map] at hj
    have := b2 j hj
    rw [hfl (S.take j) (fun x hx => List.mem_of_mem_take hx), List.map_take] at this
    exact this
  refine ⟨hlad, ⟨hq0, ?_, fun s hs => ?_, hlive⟩, fun i s x hi hx => ?_, hall, hrange, by rw [← hl1]; omega⟩
  · refine nodup_of_count fun s hs => ?_
    obtain ⟨x, h1, h2⟩ := hmem s hs
    have := hrange x h1
    rw [h2] at this
    exact hcount s this.1 this.2
  · obtain ⟨x, h1, h2⟩ := hmem s hs
    rw [← h2]; exact hrange x h1
  · have hil := (List.getElem?_eq_some_iff.1 hi).1
    obtain ⟨y, hy, hys⟩ : ∃ y, S[i]? = some y ∧ y.n.slot = s := by
      rw [List.getElem?_map] at hi
      cases e : S[i]? with
      | none => rw [e] at hi; cases hi
      | some y => rw [e] at hi; cases hi; exact ⟨y, rfl, rfl⟩
    have hym := List.mem_of_getElem? hy
    unfold steps at hx
    rw [← hys, b3 y hym] at hx
    rcases List.mem_append.1 (show x ∈ y.n.kids ++ _ from hx) with q | q
    · obtain ⟨m, hml, hm⟩ := List.mem_iff_getElem.1 q
      have hq0' := hq0
      have hsp : S.map Seat.sl = (S.map Seat.sl).take i ++ s :: (S.map Seat.sl).drop (i + 1) := by
        have : (S.map Seat.sl)[i] = s := by
          have := List.getElem?_eq_getElem hil
          rw [hi] at this; cases this; rfl
        rw [← this, List.getElem_cons_drop, List.take_append_drop]
      have hkk2 : kidsAt l s = y.n.kids := by
        unfold kidsAt
        rw [← hys, b3 y hym]; rfl
      have hfm : (S.map Seat.sl).flatMap (kidsAt l) = ((S.map Seat.sl).take i).flatMap (kidsAt l) ++ (y.n.kids ++ ((S.map Seat.sl).drop (i + 1)).flatMap (kidsAt l)) := by
        conv => lhs; rw [hsp]
        rw [List.flatMap_append, List.flatMap_cons, hkk2]
      have hlv := hlive i hil
      have hq1 := hq0.trans (congrArg (List.cons 0) hfm)
      generalize ((S.map Seat.sl).take i).flatMap (kidsAt l) = A at hq1 hlv
      refine ⟨1 + A.length + m, by omega, ?_⟩
      rw [hq1, show 1 + A.length + m = (A.length + m) + 1 by omega, List.getElem?_cons_succ, List.getElem?_append_right (by omega), Nat.add_sub_cancel_left, List.getElem?_append_left hml, List.getElem?_eq_getElem hml, hm]
    · cases ht : y.n.top with
      | true => rw [ht] at q; cases q
      | false =>
        rw [ht] at q
        have hxr : x = y.n.right := by simpa using q
        have hr := (htop y.n (hseat y hym)).2 ht
        rcases linked_at hlink hy with w | ⟨z, z1, z2⟩
        · omega
        · exact ⟨i + 1, by omega, by rw [List.getElem?_map, z1, hxr, z2]; rfl⟩
theorem Bel.pos {l : List Nd} {S : List Seat} (h : TreeLaw l S) {a b : Int} (hb : Bel l a b) : ∀ {i : Nat}, (S.map Seat.sl)[i]? = some a → ∃ j, i < j ∧ (S.map Seat.sl)[j]? = some b := by
  induction hb with
  | one hb => exact fun {i} hi => h.pos i _ _ hi hb
  | more _ hb ih =>
    intro i hi
    obtain ⟨j, h1, h2⟩ := ih hi
    obtain ⟨j', h3, h4⟩ := h.pos j _ _ h2 hb
    exact ⟨j', by omega, h4⟩
theorem Bel.from {l : List Nd} {S : List Seat} (h : TreeLaw l S) {a b : Int} (hb : Bel l a b) : a ∈ S.map Seat.sl := by
  induction hb with
  | one hb =>
    unfold steps at hb
    cases e : ndAt l a with
    | none => rw [e] at hb; cases hb
    | some n =>
      have := ndAt_slot h.lad.ord e
      exact h.all a this.2.2.1 this.2.2.2
  | more _ _ ih => exact ih
end
end Go.Proofs.Ythfdbjocpicbmaa
