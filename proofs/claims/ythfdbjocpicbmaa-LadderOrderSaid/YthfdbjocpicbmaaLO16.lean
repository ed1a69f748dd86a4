/-
  'Rows.LadderOrderSaid' is proved: the law percolatelaw55.LadderOrder returns true at every input, and its arguments read as they did. No condition.
-/
import Derived.SizedLaws
import Derived.Test.YthfdbjocpicbmaaLO15
namespace Go.Proofs.Ythfdbjocpicbmaa
attribute [local go_sem] ev0 ev1 ev2 ev3 ev4 evA stHOk.eq_1 stHOk.eq_2 stHSt.eq_1 stHSt.eq_2 okV valV fzV okF valF okBld valBld mxOk.eq_1 mxOk.eq_2 mxVal.eq_1 mxVal.eq_2 cellFit.eq_1 cellFit.eq_2 cellFit.eq_3 cellEq.eq_1 cellEq.eq_2 cellEq.eq_3 upd_at AV.flatB AV.flatBs binIok binIV binSok binSV cellsOk.eq_1 cellsOk.eq_2 cellsVal.eq_1 cellsVal.eq_2 objCells.eq_1 objCells.eq_2 objZ.eq_1 objZ.eq_2 objProt.eq_1 objProt.eq_2 oneObj ptrOk.eq_1 ptrOk.eq_2 ptrOk.eq_3 ptrCells.eq_1 ptrCells.eq_2 ptrCells.eq_3 lenOk.eq_1 lenOk.eq_2 lenOk.eq_3 lenOk.eq_4 lenVal.eq_1 lenVal.eq_2 lenVal.eq_3 lenVal.eq_4 faOk.eq_1 faOk.eq_2 faOk.eq_3 faVal.eq_1 faVal.eq_2 faVal.eq_3 iaOk.eq_1 iaOk.eq_2 iaOk.eq_3 iaVal.eq_1 iaVal.eq_2 iaVal.eq_3 slcLen.eq_1 slcLen.eq_2 slcLen.eq_3 slcLen.eq_4 bdOk.eq_1 bdOk.eq_2 bdVal.eq_1 bdVal.eq_2 slcOk.eq_1 slcOk.eq_2 slcOk.eq_3 slcOk.eq_4 slcVal.eq_1 slcVal.eq_2 slcVal.eq_3 slcVal.eq_4 slcFz.eq_1 slcFz.eq_2 loK.eq_1 loK.eq_2 loK.eq_3 rsVal.eq_1 rsVal.eq_2 rsVal.eq_3 byOk.eq_1 byOk.eq_2 byOk.eq_3 byOk.eq_4 byOk.eq_5 byOk.eq_6 byOk.eq_7 byOk.eq_8 byVal.eq_1 byVal.eq_2 byVal.eq_3 byFz.eq_1 byFz.eq_2 byFz.eq_3 byOks byVals byFzs allOne resSt.eq_1 resSt.eq_2 resName.eq_1 resName.eq_2 stOk.eq_1 stOk.eq_2 stArr.eq_1 stArr.eq_2 stSt.eq_1 stSt.eq_2 AV.patch nameOk_none gB.eq_1 gB.eq_2 gB.eq_3 gIs.eq_1 gIs.eq_2 gIs.eq_3 retV resV resVs evalV cellsV St.byval List.getD_cons_zero List.getD_cons_succ List.getD_nil List.map_cons List.map_nil List.length_cons List.length_nil List.take_succ_cons List.take_zero List.drop_succ_cons List.drop_zero List.headD_cons List.set_cons_zero List.append_nil List.nil_append List.cons_append List.contains_cons List.contains_nil List.elem_cons List.elem_nil List.all_cons List.all_nil List.getElem?_cons_zero List.getElem?_cons_succ List.filterMap_cons List.filterMap_nil Option.isSome_some Option.isSome_none Option.map_some Option.map_none Option.some.injEq AV.int.injEq AV.bool.injEq AV.str.injEq AV.tup.injEq AV.agg.injEq AV.sl.injEq List.cons.injEq Bool.false_eq_true Bool.true_eq_false Bool.not_true Bool.not_false Bool.and_true Bool.true_and Bool.or_false Bool.or_true Bool.false_or Bool.true_or Bool.or_self Bool.and_self Bool.not_eq_true' Bool.not_eq_false' Bool.not_not beq_self_eq_true true_and and_true false_and and_false and_self not_true_eq_false not_false_eq_true forall_const true_implies false_implies implies_true imp_self Nat.lt_add_one Nat.le_refl Nat.zero_le Nat.add_zero Nat.zero_add decide_true decide_false decide_eq_true_eq decide_eq_false_iff_not exists_eq_left exists_eq_left' ge_iff_le gt_iff_lt ite_branch ite_branch' nilOk.eq_1 nilOk.eq_2 nilMay.eq_1 nilMay.eq_2 AV.isSl.eq_1 objTy'.eq_1 objTy'.eq_2 apSt.eq_1 apArr.eq_1 apArr.eq_2 apTwo.eq_1 apTwo.eq_2 apSt2.eq_1 apArr2.eq_1 apArr2.eq_2 slOf.eq_1 fitsV List.mem_cons List.not_mem_nil Bool.false_and Bool.and_false primOk.eq_1 primOk.eq_2 primOk.eq_3 primOk.eq_4 primOk.eq_5 primVal.eq_1 primVal.eq_2 primVal.eq_3 primVal.eq_4 primVal.eq_5 mOk.eq_1 mOk.eq_2 mVal.eq_1 mVal.eq_2 mFz.eq_1 mFz.eq_2 mOks mVals mFzs mCalOk.eq_1 mCalOk.eq_2 mFn.eq_1 mFn.eq_2 mArgs.eq_1 mArgs.eq_2 ckOk.eq_1 ckOk.eq_2 cloOk.eq_1 ptrAt.eq_1 sh.eq_1 sh.eq_2 sh.eq_3 sh.eq_4 sh.eq_5 sh.eq_6 retM shH_small evM entOk.eq_1 entOk.eq_2 ents.eq_1 ents.eq_2 kI.eq_1 mpOk.eq_1 mpR.eq_1 lkV.eq_1 lkV.eq_2 remp.eq_2 evP pvOk.eq_1 pvOk.eq_2 pvVal.eq_1 pvVal.eq_2 plOk.eq_1 plOk.eq_2 plOk.eq_3 plV.eq_1 plV.eq_2 plF.eq_1 plF.eq_2 plVal.eq_1 plVal.eq_2 plFz.eq_1 plFz.eq_2 lpOk.eq_1 lpOk.eq_2 lpVal.eq_1 lpVal.eq_2 lpFz.eq_1 lpFz.eq_2 stpOk.eq_1 stpOk.eq_2 stpSt.eq_1 stpSt.eq_2 stpArr.eq_1 keepS.eq_1 keepS.eq_2
section
/-
  The order of any sound tree's slots, and what is below what: the law, walked.
-/
open Go.RowKit
set_option linter.unusedVariables false
set_option linter.unusedSimpArgs false
set_option maxRecDepth 100000
attribute [local go_sem ↓] runOp headOp
/-! ### percolate/percolatelaw55.LadderOrder -/
def r_loL_0 : Reg := ⟨[], [⟨(.box 5 23 (.t 0)), (some 4), none, [], []⟩, ⟨(.mv (.c (.bool false))), (some 8), none, [], []⟩], [4], [], false⟩
def t_loL_1 : List ROp := [⟨(.load 5 true (.t 4)), (some 17), none, [19], []⟩, ⟨(.mv (.t 1)), (some 18), none, [19], []⟩, ⟨(.callv (.c (.clo 9 [] [])) [(.t 17), (.t 18), (.c (.int .i64 40))]), (some 19), none, [], []⟩, ⟨(.un .not (.t 19)), (some 20), none, [], []⟩]
def r_loL_1 : Reg := ⟨[], t_loL_1, [19], [], false⟩
def r_loL_2 : Reg := ⟨[], [⟨(.callv (.c (.clo 10 [] [])) []), (some 21), none, [], []⟩, ⟨(.mv (.t 21)), (some 8), none, [], []⟩], [21], [], false⟩
def t_loL_3 : List ROp := [⟨(.mv (.t 1)), (some 22), none, [23], []⟩, ⟨(.callv (.c (.clo 11 [] [])) [(.t 22)]), (some 23), none, [], []⟩, ⟨(.mv (.t 23)), (some 9), none, [], []⟩]
def r_loL_3 : Reg := ⟨[], t_loL_3, [23], [], false⟩
def t_loL_4 : List ROp := [⟨(.mv (.t 1)), (some 25), none, [26], []⟩, ⟨(.callv (.c (.clo 12 [] [])) [(.t 25), (.c (.int .i64 0))]), (some 26), none, [], []⟩, ⟨(.mv (.t 26)), (some 24), none, [], []⟩, ⟨(.ext 0 (.t 24)), (some 27), none, [], []⟩, ⟨(.ext 1 (.t 24)), (some 28), none, [], []⟩, ⟨(.mv (.t 27)), (some 10), none, [], []⟩, ⟨(.mv (.t 28)), (some 11), none, [], []⟩]
def r_loL_4 : Reg := ⟨[], t_loL_4, [26], [], false⟩
def t_loL_5 : List ROp := [⟨(.mv (.t 9)), (some 29), none, [], []⟩, ⟨(.len false (.t 29)), (some 30), none, [], []⟩, ⟨(.mv (.t 10)), (some 31), none, [], []⟩, ⟨(.len false (.t 31)), (some 32), none, [], []⟩, ⟨(.bin .neq (.t 30) (.t 32)), (some 33), none, [], []⟩]
def r_loL_5 : Reg := ⟨[], t_loL_5, [], [], false⟩
def r_loL_6 : Reg := ⟨[], [⟨(.mv (.c (.bool false))), (some 8), none, [], []⟩], [], [], false⟩
def r_loL_7 : Reg := ⟨[], [⟨(.mv (.c (.int .i64 (-1)))), (some 12), none, [], []⟩, ⟨(.mv (.c (.int .i64 (-1)))), (some 13), none, [], []⟩], [], [], false⟩
def t_loL_8 : List ROp := [⟨(.mv (.t 10)), (some 34), none, [], []⟩, ⟨(.len false (.t 34)), (some 35), none, [], []⟩, ⟨(.mv (.c (.int .i64 0))), (some 36), none, [], []⟩]
def r_loL_8 : Reg := ⟨[], t_loL_8, [], [], false⟩
def r_loL_9 : Reg := ⟨[], [⟨(.bin .lss (.t 36) (.t 35)), (some 37), none, [], []⟩], [], [], false⟩
def t_loL_10 : List ROp := [⟨(.mv (.t 36)), (some 38), none, [15], []⟩, ⟨(.iaddr 14 (.t 34) (.t 36)), (some 39), none, [15], []⟩, ⟨(.load 14 true (.t 39)), (some 40), none, [15], []⟩, ⟨(.alloc 14 40 (.agg [(.int .i64 0), (.int .i64 0), (.sl []), (.sl []), (.str ⟨#[]⟩), (.bool false), (.int .i64 0), (.int .i64 0), (.sl []), (.sl []), (.str ⟨#[]⟩), (.str ⟨#[]⟩), (.bool false), (.sl [])])), (some 15), none, [], []⟩, ⟨(.mv (.t 38)), (some 14), none, [], []⟩, ⟨(.store 14 (.t 15) (.t 40)), none, none, [], []⟩]
def r_loL_10 : Reg := ⟨[], t_loL_10, [15], [], false⟩
def h_loL_11 : List ROp := [⟨(.mv (.t 9)), (some 41), none, [], []⟩, ⟨(.mv (.t 14)), (some 42), none, [], []⟩, ⟨(.iaddr 1 (.t 41) (.t 42)), (some 43), none, [], []⟩, ⟨(.load 1 false (.t 43)), (some 44), none, [], []⟩, ⟨(.faddr 0 (.t 15)), (some 45), none, [], []⟩, ⟨(.faddr 0 (.t 45)), (some 46), none, [], []⟩, ⟨(.load 1 false (.t 46)), (some 47), none, [], []⟩]
def r_loL_11 : Reg := ⟨h_loL_11, [⟨(.bin .neq (.t 44) (.t 47)), (some 48), none, [], []⟩], [], [], true⟩
def r_loL_12 : Reg := ⟨[], [⟨(.mv (.c (.bool false))), (some 8), none, [], []⟩], [], [], false⟩
def t_loL_13 : List ROp := [⟨(.faddr 0 (.t 15)), (some 49), none, [], []⟩, ⟨(.faddr 0 (.t 49)), (some 50), none, [], []⟩, ⟨(.load 1 false (.t 50)), (some 51), none, [], []⟩, ⟨(.mv (.t 2)), (some 52), none, [], []⟩, ⟨(.bin .eql (.t 51) (.t 52)), (some 53), none, [], []⟩]
def r_loL_13 : Reg := ⟨[], t_loL_13, [], [], false⟩
def r_loL_14 : Reg := ⟨[], [⟨(.mv (.t 14)), (some 54), none, [], []⟩, ⟨(.mv (.t 54)), (some 12), none, [], []⟩], [], [], false⟩
def t_loL_15 : List ROp := [⟨(.faddr 0 (.t 15)), (some 55), none, [], []⟩, ⟨(.faddr 0 (.t 55)), (some 56), none, [], []⟩, ⟨(.load 1 false (.t 56)), (some 57), none, [], []⟩, ⟨(.mv (.t 3)), (some 58), none, [], []⟩, ⟨(.bin .eql (.t 57) (.t 58)), (some 59), none, [], []⟩]
def r_loL_15 : Reg := ⟨[], t_loL_15, [], [], false⟩
def r_loL_16 : Reg := ⟨[], [⟨(.mv (.t 14)), (some 60), none, [], []⟩, ⟨(.mv (.t 60)), (some 13), none, [], []⟩], [], [], false⟩
def r_loL_17 : Reg := ⟨[], [⟨(.bin .add (.t 36) (.c (.int .i64 1))), (some 61), none, [], []⟩, ⟨(.mv (.t 61)), (some 36), none, [], []⟩], [], [], false⟩
def r_loL_l18 : IR := (.seq (.reg r_loL_9)
  (.seq (.cond (.t 37) .skip
  (.exit 0))
  (.seq (.block 1 (.seq (.reg r_loL_10)
  (.seq (.seq (.reg r_loL_11)
  (.cond (.t 48) (.seq (.reg r_loL_12)
  .ret)
  .skip))
  (.seq (.seq (.reg r_loL_13)
  (.cond (.t 53) (.reg r_loL_14)
  .skip))
  (.seq (.reg r_loL_15)
  (.cond (.t 59) (.reg r_loL_16)
  .skip))))))
  (.reg r_loL_17))))
def t_loL_19 : List ROp := [⟨(.mv (.t 1)), (some 62), none, [65], []⟩, ⟨(.mv (.t 2)), (some 63), none, [65], []⟩, ⟨(.mv (.t 3)), (some 64), none, [65], []⟩, ⟨(.callv (.c (.clo 13 [] [])) [(.t 62), (.t 63), (.t 64)]), (some 65), none, [], []⟩, ⟨(.mv (.t 65)), (some 16), none, [], []⟩]
def r_loL_19 : Reg := ⟨[], t_loL_19, [65], [], false⟩
def t_loL_20 : List ROp := [⟨(.mv (.t 16)), (some 66), none, [70, 86], []⟩, ⟨(.mv (.t 1)), (some 67), none, [70, 86], []⟩, ⟨(.mv (.t 2)), (some 68), none, [70, 86], []⟩, ⟨(.mv (.t 3)), (some 69), none, [70, 86], []⟩, ⟨(.callv (.c (.clo 14 [] [])) [(.t 67), (.t 68), (.t 69)]), (some 70), none, [86], []⟩, ⟨(.beq false (.t 66) (.t 70)), (some 71), none, [86], []⟩, ⟨(.mv (.t 71)), (some 72), none, [86], []⟩, ⟨(.mv (.t 16)), (some 73), (some (72, true)), [86], []⟩, ⟨(.un .not (.t 73)), (some 74), (some (72, true)), [86], []⟩, ⟨(.mv (.t 74)), (some 75), (some (72, true)), [86], []⟩, ⟨(.mv (.t 12)), (some 76), (some (75, false)), [86], []⟩, ⟨(.bin .geq (.t 76) (.c (.int .i64 0))), (some 77), (some (75, false)), [86], []⟩, ⟨(.mv (.t 77)), (some 78), (some (75, false)), [86], []⟩, ⟨(.mv (.t 12)), (some 79), (some (78, true)), [86], []⟩, ⟨(.mv (.t 13)), (some 80), (some (78, true)), [86], []⟩, ⟨(.bin .lss (.t 79) (.t 80)), (some 81), (some (78, true)), [86], []⟩, ⟨(.pick (.t 78) (.t 81) (.c (.bool false))), (some 82), (some (75, false)), [86], []⟩, ⟨(.pick (.t 75) (.c (.bool true)) (.t 82)), (some 83), (some (72, true)), [86], []⟩, ⟨(.pick (.t 72) (.t 83) (.c (.bool false))), (some 84), none, [86], []⟩, ⟨(.mv (.t 84)), (some 85), none, [86], []⟩, ⟨(.callv (.c (.clo 10 [] [])) []), (some 86), (some (85, true)), [], []⟩, ⟨(.pick (.t 85) (.t 86) (.c (.bool false))), (some 87), none, [], []⟩, ⟨(.mv (.t 87)), (some 8), none, [], []⟩]
def r_loL_20 : Reg := ⟨[], t_loL_20, [70, 86], [], false⟩
def ir_loL : IR := (.seq (.reg r_loL_0)
  (.seq (.seq (.reg r_loL_1)
  (.cond (.t 20) (.seq (.reg r_loL_2)
  .ret)
  .skip))
  (.seq (.reg r_loL_3)
  (.seq (.reg r_loL_4)
  (.seq (.seq (.reg r_loL_5)
  (.cond (.t 33) (.seq (.reg r_loL_6)
  .ret)
  .skip))
  (.seq (.reg r_loL_7)
  (.seq (.seq (.reg r_loL_8)
  (.block 0 (.loop r_loL_l18)))
  (.seq (.reg r_loL_19)
  (.seq (.reg r_loL_20)
  .ret)))))))))
def res_loL : List RDesc := [(.tmp 8)]
theorem e_loL_0 (C : FuncId → List AV → AV → Prop) (σ : St) (K : St → Prop) : runReg C r_loL_0 σ K = runOps C [⟨(.box 5 23 (.t 0)), (some 4), none, [], []⟩, ⟨(.mv (.c (.bool false))), (some 8), none, [], []⟩] (σ.kills [4]) K := rfl
theorem e_loL_1 (C : FuncId → List AV → AV → Prop) (σ : St) (K : St → Prop) : runReg C r_loL_1 σ K = runOps C t_loL_1 (σ.kills [19]) K := rfl
theorem e_loL_2 (C : FuncId → List AV → AV → Prop) (σ : St) (K : St → Prop) : runReg C r_loL_2 σ K = runOps C [⟨(.callv (.c (.clo 10 [] [])) []), (some 21), none, [], []⟩, ⟨(.mv (.t 21)), (some 8), none, [], []⟩] (σ.kills [21]) K := rfl
theorem e_loL_3 (C : FuncId → List AV → AV → Prop) (σ : St) (K : St → Prop) : runReg C r_loL_3 σ K = runOps C t_loL_3 (σ.kills [23]) K := rfl
theorem e_loL_4 (C : FuncId → List AV → AV → Prop) (σ : St) (K : St → Prop) : runReg C r_loL_4 σ K = runOps C t_loL_4 (σ.kills [26]) K := rfl
theorem e_loL_5 (C : FuncId → List AV → AV → Prop) (σ : St) (K : St → Prop) : runReg C r_loL_5 σ K = runOps C t_loL_5 (σ.kills []) K := rfl
theorem e_loL_6 (C : FuncId → List AV → AV → Prop) (σ : St) (K : St → Prop) : runReg C r_loL_6 σ K = runOps C [⟨(.mv (.c (.bool false))), (some 8), none, [], []⟩] (σ.kills []) K := rfl
theorem e_loL_7 (C : FuncId → List AV → AV → Prop) (σ : St) (K : St → Prop) : runReg C r_loL_7 σ K = runOps C [⟨(.mv (.c (.int .i64 (-1)))), (some 12), none, [], []⟩, ⟨(.mv (.c (.int .i64 (-1)))), (some 13), none, [], []⟩] (σ.kills []) K := rfl
theorem e_loL_8 (C : FuncId → List AV → AV → Prop) (σ : St) (K : St → Prop) : runReg C r_loL_8 σ K = runOps C t_loL_8 (σ.kills []) K := rfl
theorem e_loL_9 (C : FuncId → List AV → AV → Prop) (σ : St) (K : St → Prop) : runReg C r_loL_9 σ K = runOps C [⟨(.bin .lss (.t 36) (.t 35)), (some 37), none, [], []⟩] (σ.kills []) K := rfl
theorem e_loL_10 (C : FuncId → List AV → AV → Prop) (σ : St) (K : St → Prop) : runReg C r_loL_10 σ K = runOps C t_loL_10 (σ.kills [15]) K := rfl
theorem e_loL_11 (C : FuncId → List AV → AV → Prop) (σ : St) (K : St → Prop) : runReg C r_loL_11 σ K = runHead C [] [⟨(.bin .neq (.t 44) (.t 47)), (some 48), none, [], []⟩] h_loL_11 (σ.kills []) K := rfl
theorem e_loL_12 (C : FuncId → List AV → AV → Prop) (σ : St) (K : St → Prop) : runReg C r_loL_12 σ K = runOps C [⟨(.mv (.c (.bool false))), (some 8), none, [], []⟩] (σ.kills []) K := rfl
theorem e_loL_13 (C : FuncId → List AV → AV → Prop) (σ : St) (K : St → Prop) : runReg C r_loL_13 σ K = runOps C t_loL_13 (σ.kills []) K := rfl
theorem e_loL_14 (C : FuncId → List AV → AV → Prop) (σ : St) (K : St → Prop) : runReg C r_loL_14 σ K = runOps C [⟨(.mv (.t 14)), (some 54), none, [], []⟩, ⟨(.mv (.t 54)), (some 12), none, [], []⟩] (σ.kills []) K := rfl
theorem e_loL_15 (C : FuncId → List AV → AV → Prop) (σ : St) (K : St → Prop) : runReg C r_loL_15 σ K = runOps C t_loL_15 (σ.kills []) K := rfl
theorem e_loL_16 (C : FuncId → List AV → AV → Prop) (σ : St) (K : St → Prop) : runReg C r_loL_16 σ K = runOps C [⟨(.mv (.t 14)), (some 60), none, [], []⟩, ⟨(.mv (.t 60)), (some 13), none, [], []⟩] (σ.kills []) K := rfl
theorem e_loL_17 (C : FuncId → List AV → AV → Prop) (σ : St) (K : St → Prop) : runReg C r_loL_17 σ K = runOps C [⟨(.bin .add (.t 36) (.c (.int .i64 1))), (some 61), none, [], []⟩, ⟨(.mv (.t 61)), (some 36), none, [], []⟩] (σ.kills []) K := rfl
theorem e_loL_19 (C : FuncId → List AV → AV → Prop) (σ : St) (K : St → Prop) : runReg C r_loL_19 σ K = runOps C t_loL_19 (σ.kills [65]) K := rfl
theorem e_loL_20 (C : FuncId → List AV → AV → Prop) (σ : St) (K : St → Prop) : runReg C r_loL_20 σ K = runOps C t_loL_20 (σ.kills [70, 86]) K := rfl
theorem fn_loL {args : List AV} {r : AV} (ha : args.length.ble Try.f3.ntmps = true) (h : run (AFn Try.prog) ir_loL (endQ res_loL r) (initSt args)) : AFn Try.prog 3 args r :=
  AFn.of_code (pv := false) (hint := fun _ => []) (c := Try.f3.body.getD .skip) (by kernel_rfl) (by kernel_rfl) Try.func3 (by kernel_rfl) (by kernel_rfl) (by kernel_rfl) (of_decide_eq_true (by kernel_rfl)) (Nat.le_of_ble_eq_true ha) (Nat.le_of_ble_eq_true (by kernel_rfl)) (run_ok h)
attribute [local go_sem ↓] ir_loL
attribute [local go_sem] res_loL e_loL_0 e_loL_1 t_loL_1 e_loL_2 e_loL_3 t_loL_3 e_loL_4 t_loL_4 e_loL_5 t_loL_5 e_loL_6 e_loL_7 e_loL_8 t_loL_8 e_loL_9 e_loL_10 t_loL_10 e_loL_11 h_loL_11 e_loL_12 e_loL_13 t_loL_13 e_loL_14 e_loL_15 t_loL_15 e_loL_16 e_loL_17 e_loL_19 t_loL_19 e_loL_20 t_loL_20
/-- the last place of a slot -/
def posI (q : List Int) (a : Int) : Nat → Int
  | 0 => -1
  | i + 1 => if q[i]? = some a then (i : Int) else posI q a i
theorem posI_at {q : List Int} (hd : q.Nodup) {a : Int} {i : Nat} (h : q[i]? = some a) : ∀ n, i < n → posI q a n = i
  | n + 1, hn => by
    rw [posI]
    by_cases e : q[n]? = some a
    · rw [if_pos e]
      have hi := (List.getElem?_eq_some_iff.1 h).1
      have := (List.getElem?_inj hi hd).1 (h.trans e.symm)
      rw [this]
    · rw [if_neg e]
      refine posI_at hd h n ?_
      rcases Nat.lt_or_ge i n with q | q
      · exact q
      · have : i = n := by omega
        rw [this] at h
        exact absurd h e
def loInv (c : Cfg) (l : List Nd) (S : List Seat) (L : List AV) (a b : Int) (k : Nat) (σ : St) : Prop :=
  ∃ i : Nat, i ≤ S.length ∧ k = S.length - i ∧ σ.T 1 = .sl (l.map Nd.a) ∧ σ.T 2 = .int .i64 a ∧ σ.T 3 = .int .i64 b ∧ σ.T 9 = .rs 23 0 S.length ∧ σ.H 23 = some ⟨1, 3, L, 0⟩ ∧
    σ.T 34 = .sl (S.map Seat.a) ∧ σ.T 35 = .int .i64 S.length ∧ σ.T 36 = .int .i64 i ∧ σ.T 12 = .int .i64 (posI (S.map Seat.sl) a i) ∧ σ.T 13 = .int .i64 (posI (S.map Seat.sl) b i)
theorem law_end {l : List Nd} {S : List Seat} (h : TreeLaw l S) {a b : Int} (hb : (belowL l a).contains b = true) : 0 ≤ posI (S.map Seat.sl) a S.length ∧ posI (S.map Seat.sl) a S.length < posI (S.map Seat.sl) b S.length := by
  rw [List.contains_eq_mem, decide_eq_true_eq, belowL_mem h.lad] at hb
  obtain ⟨i, hi⟩ := List.mem_iff_getElem?.1 (Bel.from h hb)
  obtain ⟨j, hij, hj⟩ := Bel.pos h hb hi
  have hjl := (List.getElem?_eq_some_iff.1 hj).1
  rw [List.length_map] at hjl
  rw [posI_at h.ords.dup hi _ (by omega), posI_at h.ords.dup hj _ hjl]
  omega
set_option maxHeartbeats 8000000 in
theorem order_law (c : Cfg) (l : List Nd) (a b : Int) (hs : ∀ x, x ∈ l → x.ok) (hl : l.length ≤ 281474976710656) : AFn Try.prog 3 [c.a, .sl (l.map Nd.a), .int .i64 a, .int .i64 b] (.bool true) := by
  refine fn_loL rfl ?_
  have cT := tree_ok c l 40 (by omega) hs hl
  have aw := awake55_ok
  cases hT : treeB c l 40 with
  | false =>
    rw [hT] at cT
    simp only [Cfg.a] at cT
    simp only [Cfg.a]
    (repeat (first | simp (maxSteps := 4000000) only [go_sem, ↓reduceIte, reduceCtorEq, Nat.reduceEqDiff, Nat.reduceBEq, Nat.reduceAdd, Nat.reduceSub, Nat.reduceMul, Nat.reduceLT, Nat.reduceLeDiff, Nat.reduceBNe, Int.reduceBEq, Int.reduceBNe, Int.reduceLT, Int.reduceLE, Msg.a, Par.a] | refine calling (cT) ?_ | refine callingH (cT) ?_ | refine calling (aw) ?_ | refine callingH (aw) ?_ | refine And.intro (by omega) ?_ | refine And.intro (fun d hd => by (repeat (rcases hd with rfl | hd; · exact ⟨rfl, rfl⟩)); cases hd) ?_))
  | true =>
    rw [hT] at cT
    simp only [Cfg.a] at cT
    simp only [Cfg.a]
    have TL := tree_law (by omega) hT
    have hlen := TL.lad.len
    have hLt : ∀ n, n ∈ l → n.Lt := by
      unfold treeB at hT
      rw [Bool.and_eq_true, Bool.and_eq_true, Bool.and_eq_true, Bool.and_eq_true] at hT
      have hL := hT.1.1.2
      unfold lightB at hL
      rw [Bool.and_eq_true, List.all_eq_true] at hL
      exact fun n hn => lt_of (hs n hn) (hL.2 n hn)
    have cS := seats_ok l 0 hlen hLt
    generalize (seatsF l 0).2 = bk at cS
    generalize hSd : (seatsF l 0).1 = S at *
    have cO := order_ok l TL.lad (S.map Seat.sl) TL.ords (by rw [List.length_map]; exact TL.len)
    have cB := Below_ok l TL.lad a b
    have cR := r55b_ok l TL.lad a b
    rw [← below_same TL.lad] at cR
    have hend := fun h => law_end (a := a) (b := b) TL h
    generalize (belowL l a).contains b = r at *
    have hSl := TL.len
    obtain ⟨L, hL⟩ : ∃ L, (S.map Seat.sl).map (AV.int .i64) = L := ⟨_, rfl⟩
    have hLl : L.length = S.length := by rw [← hL, List.length_map, List.length_map]
    rw [hL] at cO
    have hne : ((S.length : Int) != (S.length : Int)) = false := bne_self_eq_false _
    (repeat (first | simp (maxSteps := 4000000) only [go_sem, ↓reduceIte, reduceCtorEq, Nat.reduceEqDiff, Nat.reduceBEq, Nat.reduceAdd, Nat.reduceSub, Nat.reduceMul, Nat.reduceLT, Nat.reduceLeDiff, Nat.reduceBNe, Int.reduceBEq, Int.reduceBNe, Int.reduceLT, Int.reduceLE, Msg.a, Par.a, hLl, hne, List.length_map] | refine calling (cT) ?_ | refine callingH (cT) ?_ | refine calling (cO) ?_ | refine callingH (cO) ?_ | refine calling (cS) ?_ | refine callingH (cS) ?_ | refine And.intro (by omega) ?_ | refine And.intro (fun d hd => by (repeat (rcases hd with rfl | hd; · exact ⟨rfl, rfl⟩)); cases hd) ?_))
    refine run_loop (loInv c l S L a b) (k := S.length) ⟨0, Nat.zero_le _, rfl, ?_, ?_, ?_, ?_, ?_, ?_, ?_, ?_, ?_, ?_⟩ ?_
    · (simp (maxSteps := 4000000) only [go_sem, ↓reduceIte, reduceCtorEq, Nat.reduceEqDiff, Nat.reduceBEq, Nat.reduceAdd, Nat.reduceSub, Nat.reduceMul, Nat.reduceLT, Nat.reduceLeDiff, Nat.reduceBNe, Int.reduceBEq, Int.reduceBNe, Int.reduceLT, Int.reduceLE, Msg.a, Par.a]) <;> rfl
    · (simp (maxSteps := 4000000) only [go_sem, ↓reduceIte, reduceCtorEq, Nat.reduceEqDiff, Nat.reduceBEq, Nat.reduceAdd, Nat.reduceSub, Nat.reduceMul, Nat.reduceLT, Nat.reduceLeDiff, Nat.reduceBNe, Int.reduceBEq, Int.reduceBNe, Int.reduceLT, Int.reduceLE, Msg.a, Par.a]) <;> rfl
    · (simp (maxSteps := 4000000) only [go_sem, ↓reduceIte, reduceCtorEq, Nat.reduceEqDiff, Nat.reduceBEq, Nat.reduceAdd, Nat.reduceSub, Nat.reduceMul, Nat.reduceLT, Nat.reduceLeDiff, Nat.reduceBNe, Int.reduceBEq, Int.reduceBNe, Int.reduceLT, Int.reduceLE, Msg.a, Par.a]) <;> rfl
    · (simp (maxSteps := 4000000) only [go_sem, ↓reduceIte, reduceCtorEq, Nat.reduceEqDiff, Nat.reduceBEq, Nat.reduceAdd, Nat.reduceSub, Nat.reduceMul, Nat.reduceLT, Nat.reduceLeDiff, Nat.reduceBNe, Int.reduceBEq, Int.reduceBNe, Int.reduceLT, Int.reduceLE, Msg.a, Par.a, hLl]) <;> rfl
    · (simp (maxSteps := 4000000) only [go_sem, ↓reduceIte, reduceCtorEq, Nat.reduceEqDiff, Nat.reduceBEq, Nat.reduceAdd, Nat.reduceSub, Nat.reduceMul, Nat.reduceLT, Nat.reduceLeDiff, Nat.reduceBNe, Int.reduceBEq, Int.reduceBNe, Int.reduceLT, Int.reduceLE, Msg.a, Par.a]) <;> rfl
    · (simp (maxSteps := 4000000) only [go_sem, ↓reduceIte, reduceCtorEq, Nat.reduceEqDiff, Nat.reduceBEq, Nat.reduceAdd, Nat.reduceSub, Nat.reduceMul, Nat.reduceLT, Nat.reduceLeDiff, Nat.reduceBNe, Int.reduceBEq, Int.reduceBNe, Int.reduceLT, Int.reduceLE, Msg.a, Par.a]) <;> rfl
    · (simp (maxSteps := 4000000) only [go_sem, ↓reduceIte, reduceCtorEq, Nat.reduceEqDiff, Nat.reduceBEq, Nat.reduceAdd, Nat.reduceSub, Nat.reduceMul, Nat.reduceLT, Nat.reduceLeDiff, Nat.reduceBNe, Int.reduceBEq, Int.reduceBNe, Int.reduceLT, Int.reduceLE, Msg.a, Par.a, List.length_map]) <;> rfl
    · (simp (maxSteps := 4000000) only [go_sem, ↓reduceIte, reduceCtorEq, Nat.reduceEqDiff, Nat.reduceBEq, Nat.reduceAdd, Nat.reduceSub, Nat.reduceMul, Nat.reduceLT, Nat.reduceLeDiff, Nat.reduceBNe, Int.reduceBEq, Int.reduceBNe, Int.reduceLT, Int.reduceLE, Msg.a, Par.a]) <;> rfl
    · (simp (maxSteps := 4000000) only [go_sem, ↓reduceIte, reduceCtorEq, Nat.reduceEqDiff, Nat.reduceBEq, Nat.reduceAdd, Nat.reduceSub, Nat.reduceMul, Nat.reduceLT, Nat.reduceLeDiff, Nat.reduceBNe, Int.reduceBEq, Int.reduceBNe, Int.reduceLT, Int.reduceLE, Msg.a, Par.a]) <;> rfl
    · (simp (maxSteps := 4000000) only [go_sem, ↓reduceIte, reduceCtorEq, Nat.reduceEqDiff, Nat.reduceBEq, Nat.reduceAdd, Nat.reduceSub, Nat.reduceMul, Nat.reduceLT, Nat.reduceLeDiff, Nat.reduceBNe, Int.reduceBEq, Int.reduceBNe, Int.reduceLT, Int.reduceLE, Msg.a, Par.a]) <;> rfl
    clear cT cO cS
    rintro k σ ⟨i, hi, rfl, t1, t2, t3, t9, h23, t34, t35, t36, t12, t13⟩
    simp only [r_loL_l18]
    by_cases hlt : i < S.length
    case neg =>
      have hlt' : ¬ (i : Int) < (S.length : Int) := by omega
      have hi' : i = S.length := by omega
      subst hi'
      generalize posI (S.map Seat.sl) a S.length = pa at *
      generalize posI (S.map Seat.sl) b S.length = pb at *
      cases r with
      | true =>
        obtain ⟨e1, e2⟩ := hend rfl
        (repeat (first | simp (maxSteps := 4000000) only [go_sem, ↓reduceIte, reduceCtorEq, Nat.reduceEqDiff, Nat.reduceBEq, Nat.reduceAdd, Nat.reduceSub, Nat.reduceMul, Nat.reduceLT, Nat.reduceLeDiff, Nat.reduceBNe, Int.reduceBEq, Int.reduceBNe, Int.reduceLT, Int.reduceLE, Msg.a, Par.a, t1, t2, t3, t9, h23, t34, t35, t36, t12, t13, hlt', e1, e2, beq_self_eq_true] | refine calling (cB) ?_ | refine callingH (cB) ?_ | refine calling (cR) ?_ | refine callingH (cR) ?_ | refine calling (aw) ?_ | refine callingH (aw) ?_ | refine And.intro (by omega) ?_ | refine And.intro (fun d hd => by (repeat (rcases hd with rfl | hd; · exact ⟨rfl, rfl⟩)); cases hd) ?_))
      | false =>
        (repeat (first | simp (maxSteps := 4000000) only [go_sem, ↓reduceIte, reduceCtorEq, Nat.reduceEqDiff, Nat.reduceBEq, Nat.reduceAdd, Nat.reduceSub, Nat.reduceMul, Nat.reduceLT, Nat.reduceLeDiff, Nat.reduceBNe, Int.reduceBEq, Int.reduceBNe, Int.reduceLT, Int.reduceLE, Msg.a, Par.a, t1, t2, t3, t9, h23, t34, t35, t36, t12, t13, hlt', beq_self_eq_true] | refine calling (cB) ?_ | refine callingH (cB) ?_ | refine calling (cR) ?_ | refine callingH (cR) ?_ | refine calling (aw) ?_ | refine callingH (aw) ?_ | refine And.intro (by omega) ?_ | refine And.intro (fun d hd => by (repeat (rcases hd with rfl | hd; · exact ⟨rfl, rfl⟩)); cases hd) ?_))
    have hlt' : (i : Int) < (S.length : Int) := by omega
    obtain ⟨x, hx⟩ := get_lt hlt
    have hgx := at_map (f := Seat.a) hx
    simp only [Seat.a] at hgx
    have hql : (S.map Seat.sl)[i]? = some x.n.slot := by rw [List.getElem?_map, hx]; rfl
    have hgL : L.getD i .und = .int .i64 x.n.slot := by rw [← hL]; exact at_map (f := AV.int .i64) hql
    have hne2 : (x.n.slot != x.n.slot) = false := bne_self_eq_false _
    have hw := wrapS (j := i) (by omega)
    have hpa : posI (S.map Seat.sl) a (i + 1) = if x.n.slot = a then (i : Int) else posI (S.map Seat.sl) a i := by
      rw [posI, hql]; simp only [Option.some.injEq]
    have hpb : posI (S.map Seat.sl) b (i + 1) = if x.n.slot = b then (i : Int) else posI (S.map Seat.sl) b i := by
      rw [posI, hql]; simp only [Option.some.injEq]
    have hLi : i < L.length := by omega
    by_cases qa : x.n.slot = a <;> by_cases qb : x.n.slot = b
    · have qa' : (x.n.slot == a) = true := by simp [qa]
      have qb' : (x.n.slot == b) = true := by simp [qb]
      rw [if_pos qa] at hpa
      rw [if_pos qb] at hpb
      simp (maxSteps := 4000000) only [go_sem, ↓reduceIte, reduceCtorEq, Nat.reduceEqDiff, Nat.reduceBEq, Nat.reduceAdd, Nat.reduceSub, Nat.reduceMul, Nat.reduceLT, Nat.reduceLeDiff, Nat.reduceBNe, Int.reduceBEq, Int.reduceBNe, Int.reduceLT, Int.reduceLE, Msg.a, Par.a, t1, t2, t3, t9, h23, t34, t35, t36, t12, t13, hlt', hgx, hgL, hne2, qa', qb', hLi, hLl, hlt, hw, List.length_map, Int.toNat_natCast]
      (repeat refine And.intro (by omega) ?_)
      refine ⟨S.length - (i + 1), by omega, i + 1, by omega, rfl, ?_, ?_, ?_, ?_, ?_, ?_, ?_, ?_, ?_, ?_⟩
      · simp (maxSteps := 4000000) only [go_sem, ↓reduceIte, reduceCtorEq, Nat.reduceEqDiff, Nat.reduceBEq, Nat.reduceAdd, Nat.reduceSub, Nat.reduceMul, Nat.reduceLT, Nat.reduceLeDiff, Nat.reduceBNe, Int.reduceBEq, Int.reduceBNe, Int.reduceLT, Int.reduceLE, Msg.a, Par.a, t1]
      · simp (maxSteps := 4000000) only [go_sem, ↓reduceIte, reduceCtorEq, Nat.reduceEqDiff, Nat.reduceBEq, Nat.reduceAdd, Nat.reduceSub, Nat.reduceMul, Nat.reduceLT, Nat.reduceLeDiff, Nat.reduceBNe, Int.reduceBEq, Int.reduceBNe, Int.reduceLT, Int.reduceLE, Msg.a, Par.a, t2]
      · simp (maxSteps := 4000000) only [go_sem, ↓reduceIte, reduceCtorEq, Nat.reduceEqDiff, Nat.reduceBEq, Nat.reduceAdd, Nat.reduceSub, Nat.reduceMul, Nat.reduceLT, Nat.reduceLeDiff, Nat.reduceBNe, Int.reduceBEq, Int.reduceBNe, Int.reduceLT, Int.reduceLE, Msg.a, Par.a, t3]
      · simp (maxSteps := 4000000) only [go_sem, ↓reduceIte, reduceCtorEq, Nat.reduceEqDiff, Nat.reduceBEq, Nat.reduceAdd, Nat.reduceSub, Nat.reduceMul, Nat.reduceLT, Nat.reduceLeDiff, Nat.reduceBNe, Int.reduceBEq, Int.reduceBNe, Int.reduceLT, Int.reduceLE, Msg.a, Par.a, t9]
      · simp (maxSteps := 4000000) only [go_sem, ↓reduceIte, reduceCtorEq, Nat.reduceEqDiff, Nat.reduceBEq, Nat.reduceAdd, Nat.reduceSub, Nat.reduceMul, Nat.reduceLT, Nat.reduceLeDiff, Nat.reduceBNe, Int.reduceBEq, Int.reduceBNe, Int.reduceLT, Int.reduceLE, Msg.a, Par.a, h23]
      · simp (maxSteps := 4000000) only [go_sem, ↓reduceIte, reduceCtorEq, Nat.reduceEqDiff, Nat.reduceBEq, Nat.reduceAdd, Nat.reduceSub, Nat.reduceMul, Nat.reduceLT, Nat.reduceLeDiff, Nat.reduceBNe, Int.reduceBEq, Int.reduceBNe, Int.reduceLT, Int.reduceLE, Msg.a, Par.a, t34]
      · simp (maxSteps := 4000000) only [go_sem, ↓reduceIte, reduceCtorEq, Nat.reduceEqDiff, Nat.reduceBEq, Nat.reduceAdd, Nat.reduceSub, Nat.reduceMul, Nat.reduceLT, Nat.reduceLeDiff, Nat.reduceBNe, Int.reduceBEq, Int.reduceBNe, Int.reduceLT, Int.reduceLE, Msg.a, Par.a, t35]
      · simp (maxSteps := 4000000) only [go_sem, ↓reduceIte, reduceCtorEq, Nat.reduceEqDiff, Nat.reduceBEq, Nat.reduceAdd, Nat.reduceSub, Nat.reduceMul, Nat.reduceLT, Nat.reduceLeDiff, Nat.reduceBNe, Int.reduceBEq, Int.reduceBNe, Int.reduceLT, Int.reduceLE, Msg.a, Par.a, hw]
      · rw [hpa]; simp (maxSteps := 4000000) only [go_sem, ↓reduceIte, reduceCtorEq, Nat.reduceEqDiff, Nat.reduceBEq, Nat.reduceAdd, Nat.reduceSub, Nat.reduceMul, Nat.reduceLT, Nat.reduceLeDiff, Nat.reduceBNe, Int.reduceBEq, Int.reduceBNe, Int.reduceLT, Int.reduceLE, Msg.a, Par.a]
      · rw [hpb]; simp (maxSteps := 4000000) only [go_sem, ↓reduceIte, reduceCtorEq, Nat.reduceEqDiff, Nat.reduceBEq, Nat.reduceAdd, Nat.reduceSub, Nat.reduceMul, Nat.reduceLT, Nat.reduceLeDiff, Nat.reduceBNe, Int.reduceBEq, Int.reduceBNe, Int.reduceLT, Int.reduceLE, Msg.a, Par.a]
    · have qa' : (x.n.slot == a) = true := by simp [qa]
      have qb' : (x.n.slot == b) = false := by simp [qb]
      rw [if_pos qa] at hpa
      rw [if_neg qb] at hpb
      simp (maxSteps := 4000000) only [go_sem, ↓reduceIte, reduceCtorEq, Nat.reduceEqDiff, Nat.reduceBEq, Nat.reduceAdd, Nat.reduceSub, Nat.reduceMul, Nat.reduceLT, Nat.reduceLeDiff, Nat.reduceBNe, Int.reduceBEq, Int.reduceBNe, Int.reduceLT, Int.reduceLE, Msg.a, Par.a, t1, t2, t3, t9, h23, t34, t35, t36, t12, t13, hlt', hgx, hgL, hne2, qa', qb', hLi, hLl, hlt, hw, List.length_map, Int.toNat_natCast]
      (repeat refine And.intro (by omega) ?_)
      refine ⟨S.length - (i + 1), by omega, i + 1, by omega, rfl, ?_, ?_, ?_, ?_, ?_, ?_, ?_, ?_, ?_, ?_⟩
      · simp (maxSteps := 4000000) only [go_sem, ↓reduceIte, reduceCtorEq, Nat.reduceEqDiff, Nat.reduceBEq, Nat.reduceAdd, Nat.reduceSub, Nat.reduceMul, Nat.reduceLT, Nat.reduceLeDiff, Nat.reduceBNe, Int.reduceBEq, Int.reduceBNe, Int.reduceLT, Int.reduceLE, Msg.a, Par.a, t1]
      · simp (maxSteps := 4000000) only [go_sem, ↓reduceIte, reduceCtorEq, Nat.reduceEqDiff, Nat.reduceBEq, Nat.reduceAdd, Nat.reduceSub, Nat.reduceMul, Nat.reduceLT, Nat.reduceLeDiff, Nat.reduceBNe, Int.reduceBEq, Int.reduceBNe, Int.reduceLT, Int.reduceLE, Msg.a, Par.a, t2]
      · simp (maxSteps := 4000000) only [go_sem, ↓reduceIte, reduceCtorEq, Nat.reduceEqDiff, Nat.reduceBEq, Nat.reduceAdd, Nat.reduceSub, Nat.reduceMul, Nat.reduceLT, Nat.reduceLeDiff, Nat.reduceBNe, Int.reduceBEq, Int.reduceBNe, Int.reduceLT, Int.reduceLE, Msg.a, Par.a, t3]
      · simp (maxSteps := 4000000) only [go_sem, ↓reduceIte, reduceCtorEq, Nat.reduceEqDiff, Nat.reduceBEq, Nat.reduceAdd, Nat.reduceSub, Nat.reduceMul, Nat.reduceLT, Nat.reduceLeDiff, Nat.reduceBNe, Int.reduceBEq, Int.reduceBNe, Int.reduceLT, Int.reduceLE, Msg.a, Par.a, t9]
      · simp (maxSteps := 4000000) only [go_sem, ↓reduceIte, reduceCtorEq, Nat.reduceEqDiff, Nat.reduceBEq, Nat.reduceAdd, Nat.reduceSub, Nat.reduceMul, Nat.reduceLT, Nat.reduceLeDiff, Nat.reduceBNe, Int.reduceBEq, Int.reduceBNe, Int.reduceLT, Int.reduceLE, Msg.a, Par.a, h23]
      · simp (maxSteps := 4000000) only [go_sem, ↓reduceIte, reduceCtorEq, Nat.reduceEqDiff, Nat.reduceBEq, Nat.reduceAdd, Nat.reduceSub, Nat.reduceMul, Nat.reduceLT, Nat.reduceLeDiff, Nat.reduceBNe, Int.reduceBEq, Int.reduceBNe, Int.reduceLT, Int.reduceLE, Msg.a, Par.a, t34]
      · simp (maxSteps := 4000000) only [go_sem, ↓reduceIte, reduceCtorEq, Nat.reduceEqDiff, Nat.reduceBEq, Nat.reduceAdd, Nat.reduceSub, Nat.reduceMul, Nat.reduceLT, Nat.reduceLeDiff, Nat.reduceBNe, Int.reduceBEq, Int.reduceBNe, Int.reduceLT, Int.reduceLE, Msg.a, Par.a, t35]
      · simp (maxSteps := 4000000) only [go_sem, ↓reduceIte, reduceCtorEq, Nat.reduceEqDiff, Nat.reduceBEq, Nat.reduceAdd, Nat.reduceSub, Nat.reduceMul, Nat.reduceLT, Nat.reduceLeDiff, Nat.reduceBNe, Int.reduceBEq, Int.reduceBNe, Int.reduceLT, Int.reduceLE, Msg.a, Par.a, hw]
      · rw [hpa]; simp (maxSteps := 4000000) only [go_sem, ↓reduceIte, reduceCtorEq, Nat.reduceEqDiff, Nat.reduceBEq, Nat.reduceAdd, Nat.reduceSub, Nat.reduceMul, Nat.reduceLT, Nat.reduceLeDiff, Nat.reduceBNe, Int.reduceBEq, Int.reduceBNe, Int.reduceLT, Int.reduceLE, Msg.a, Par.a]
      · rw [hpb]; simp (maxSteps := 4000000) only [go_sem, ↓reduceIte, reduceCtorEq, Nat.reduceEqDiff, Nat.reduceBEq, Nat.reduceAdd, Nat.reduceSub, Nat.reduceMul, Nat.reduceLT, Nat.reduceLeDiff, Nat.reduceBNe, Int.reduceBEq, Int.reduceBNe, Int.reduceLT, Int.reduceLE, Msg.a, Par.a, t13]
    · have qa' : (x.n.slot == a) = false := by simp [qa]
      have qb' : (x.n.slot == b) = true := by simp [qb]
      rw [if_neg qa] at hpa
      rw [if_pos qb] at hpb
      simp (maxSteps := 4000000) only [go_sem, ↓reduceIte, reduceCtorEq, Nat.reduceEqDiff, Nat.reduceBEq, Nat.reduceAdd, Nat.reduceSub, Nat.reduceMul, Nat.reduceLT, Nat.reduceLeDiff, Nat.reduceBNe, Int.reduceBEq, Int.reduceBNe, Int.reduceLT, Int.reduceLE, Msg.a, Par.a, t1, t2, t3, t9, h23, t34, t35, t36, t12, t13, hlt', hgx, hgL, hne2, qa', qb', hLi, hLl, hlt, hw, List.length_map, Int.toNat_natCast]
      (repeat refine And.intro (by omega) ?_)
      refine ⟨S.length - (i + 1), by omega, i + 1, by omega, rfl, ?_, ?_, ?_, ?_, ?_, ?_, ?_, ?_, ?_, ?_⟩
      · simp (maxSteps := 4000000) only [go_sem, ↓reduceIte, reduceCtorEq, Nat.reduceEqDiff, Nat.reduceBEq, Nat.reduceAdd, Nat.reduceSub, Nat.reduceMul, Nat.reduceLT, Nat.reduceLeDiff, Nat.reduceBNe, Int.reduceBEq, Int.reduceBNe, Int.reduceLT, Int.reduceLE, Msg.a, Par.a, t1]
      · simp (maxSteps := 4000000) only [go_sem, ↓reduceIte, reduceCtorEq, Nat.reduceEqDiff, Nat.reduceBEq, Nat.reduceAdd, Nat.reduceSub, Nat.reduceMul, Nat.reduceLT, Nat.reduceLeDiff, Nat.reduceBNe, Int.reduceBEq, Int.reduceBNe, Int.reduceLT, Int.reduceLE, Msg.a, Par.a, t2]
      · simp (maxSteps := 4000000) only [go_sem, ↓reduceIte, reduceCtorEq, Nat.reduceEqDiff, Nat.reduceBEq, Nat.reduceAdd, Nat.reduceSub, Nat.reduceMul, Nat.reduceLT, Nat.reduceLeDiff, Nat.reduceBNe, Int.reduceBEq, Int.reduceBNe, Int.reduceLT, Int.reduceLE, Msg.a, Par.a, t3]
      · simp (maxSteps := 4000000) only [go_sem, ↓reduceIte, reduceCtorEq, Nat.reduceEqDiff, Nat.reduceBEq, Nat.reduceAdd, Nat.reduceSub, Nat.reduceMul, Nat.reduceLT, Nat.reduceLeDiff, Nat.reduceBNe, Int.reduceBEq, Int.reduceBNe, Int.reduceLT, Int.reduceLE, Msg.a, Par.a, t9]
      · simp (maxSteps := 4000000) only [go_sem, ↓reduceIte, reduceCtorEq, Nat.reduceEqDiff, Nat.reduceBEq, Nat.reduceAdd, Nat.reduceSub, Nat.reduceMul, Nat.reduceLT, Nat.reduceLeDiff, Nat.reduceBNe, Int.reduceBEq, Int.reduceBNe, Int.reduceLT, Int.reduceLE, Msg.a, Par.a, h23]
      · simp (maxSteps := 4000000) only [go_sem, ↓reduceIte, reduceCtorEq, Nat.reduceEqDiff, Nat.reduceBEq, Nat.reduceAdd, Nat.reduceSub, Nat.reduceMul, Nat.reduceLT, Nat.reduceLeDiff, Nat.reduceBNe, Int.reduceBEq, Int.reduceBNe, Int.reduceLT, Int.reduceLE, Msg.a, Par.a, t34]
      · simp (maxSteps := 4000000) only [go_sem, ↓reduceIte, reduceCtorEq, Nat.reduceEqDiff, Nat.reduceBEq, Nat.reduceAdd, Nat.reduceSub, Nat.reduceMul, Nat.reduceLT, Nat.reduceLeDiff, Nat.reduceBNe, Int.reduceBEq, Int.reduceBNe, Int.reduceLT, Int.reduceLE, Msg.a, Par.a, t35]
      · simp (maxSteps := 4000000) only [go_sem, ↓reduceIte, reduceCtorEq, Nat.reduceEqDiff, Nat.reduceBEq, Nat.reduceAdd, Nat.reduceSub, Nat.reduceMul, Nat.reduceLT, Nat.reduceLeDiff, Nat.reduceBNe, Int.reduceBEq, Int.reduceBNe, Int.reduceLT, Int.reduceLE, Msg.a, Par.a, hw]
      · rw [hpa]; simp (maxSteps := 4000000) only [go_sem, ↓reduceIte, reduceCtorEq, Nat.reduceEqDiff, Nat.reduceBEq, Nat.reduceAdd, Nat.reduceSub, Nat.reduceMul, Nat.reduceLT, Nat.reduceLeDiff, Nat.reduceBNe, Int.reduceBEq, Int.reduceBNe, Int.reduceLT, Int.reduceLE, Msg.a, Par.a, t12]
      · rw [hpb]; simp (maxSteps := 4000000) only [go_sem, ↓reduceIte, reduceCtorEq, Nat.reduceEqDiff, Nat.reduceBEq, Nat.reduceAdd, Nat.reduceSub, Nat.reduceMul, Nat.reduceLT, Nat.reduceLeDiff, Nat.reduceBNe, Int.reduceBEq, Int.reduceBNe, Int.reduceLT, Int.reduceLE, Msg.a, Par.a]
    · have qa' : (x.n.slot == a) = false := by simp [qa]
      have qb' : (x.n.slot == b) = false := by simp [qb]
      rw [if_neg qa] at hpa
      rw [if_neg qb] at hpb
      simp (maxSteps := 4000000) only [go_sem, ↓reduceIte, reduceCtorEq, Nat.reduceEqDiff, Nat.reduceBEq, Nat.reduceAdd, Nat.reduceSub, Nat.reduceMul, Nat.reduceLT, Nat.reduceLeDiff, Nat.reduceBNe, Int.reduceBEq, Int.reduceBNe, Int.reduceLT, Int.reduceLE, Msg.a, Par.a, t1, t2, t3, t9, h23, t34, t35, t36, t12, t13, hlt', hgx, hgL, hne2, qa', qb', hLi, hLl, hlt, hw, List.length_map, Int.toNat_natCast]
      (repeat refine And.intro (by omega) ?_)
      refine ⟨S.length - (i + 1), by omega, i + 1, by omega, rfl, ?_, ?_, ?_, ?_, ?_, ?_, ?_, ?_, ?_, ?_⟩
      · simp (maxSteps := 4000000) only [go_sem, ↓reduceIte, reduceCtorEq, Nat.reduceEqDiff, Nat.reduceBEq, Nat.reduceAdd, Nat.reduceSub, Nat.reduceMul, Nat.reduceLT, Nat.reduceLeDiff, Nat.reduceBNe, Int.reduceBEq, Int.reduceBNe, Int.reduceLT, Int.reduceLE, Msg.a, Par.a, t1]
      · simp (maxSteps := 4000000) only [go_sem, ↓reduceIte, reduceCtorEq, Nat.reduceEqDiff, Nat.reduceBEq, Nat.reduceAdd, Nat.reduceSub, Nat.reduceMul, Nat.reduceLT, Nat.reduceLeDiff, Nat.reduceBNe, Int.reduceBEq, Int.reduceBNe, Int.reduceLT, Int.reduceLE, Msg.a, Par.a, t2]
      · simp (maxSteps := 4000000) only [go_sem, ↓reduceIte, reduceCtorEq, Nat.reduceEqDiff, Nat.reduceBEq, Nat.reduceAdd, Nat.reduceSub, Nat.reduceMul, Nat.reduceLT, Nat.reduceLeDiff, Nat.reduceBNe, Int.reduceBEq, Int.reduceBNe, Int.reduceLT, Int.reduceLE, Msg.a, Par.a, t3]
      · simp (maxSteps := 4000000) only [go_sem, ↓reduceIte, reduceCtorEq, Nat.reduceEqDiff, Nat.reduceBEq, Nat.reduceAdd, Nat.reduceSub, Nat.reduceMul, Nat.reduceLT, Nat.reduceLeDiff, Nat.reduceBNe, Int.reduceBEq, Int.reduceBNe, Int.reduceLT, Int.reduceLE, Msg.a, Par.a, t9]
      · simp (maxSteps := 4000000) only [go_sem, ↓reduceIte, reduceCtorEq, Nat.reduceEqDiff, Nat.reduceBEq, Nat.reduceAdd, Nat.reduceSub, Nat.reduceMul, Nat.reduceLT, Nat.reduceLeDiff, Nat.reduceBNe, Int.reduceBEq, Int.reduceBNe, Int.reduceLT, Int.reduceLE, Msg.a, Par.a, h23]
      · simp (maxSteps := 4000000) only [go_sem, ↓reduceIte, reduceCtorEq, Nat.reduceEqDiff, Nat.reduceBEq, Nat.reduceAdd, Nat.reduceSub, Nat.reduceMul, Nat.reduceLT, Nat.reduceLeDiff, Nat.reduceBNe, Int.reduceBEq, Int.reduceBNe, Int.reduceLT, Int.reduceLE, Msg.a, Par.a, t34]
      · simp (maxSteps := 4000000) only [go_sem, ↓reduceIte, reduceCtorEq, Nat.reduceEqDiff, Nat.reduceBEq, Nat.reduceAdd, Nat.reduceSub, Nat.reduceMul, Nat.reduceLT, Nat.reduceLeDiff, Nat.reduceBNe, Int.reduceBEq, Int.reduceBNe, Int.reduceLT, Int.reduceLE, Msg.a, Par.a, t35]
      · simp (maxSteps := 4000000) only [go_sem, ↓reduceIte, reduceCtorEq, Nat.reduceEqDiff, Nat.reduceBEq, Nat.reduceAdd, Nat.reduceSub, Nat.reduceMul, Nat.reduceLT, Nat.reduceLeDiff, Nat.reduceBNe, Int.reduceBEq, Int.reduceBNe, Int.reduceLT, Int.reduceLE, Msg.a, Par.a, hw]
      · rw [hpa]; simp (maxSteps := 4000000) only [go_sem, ↓reduceIte, reduceCtorEq, Nat.reduceEqDiff, Nat.reduceBEq, Nat.reduceAdd, Nat.reduceSub, Nat.reduceMul, Nat.reduceLT, Nat.reduceLeDiff, Nat.reduceBNe, Int.reduceBEq, Int.reduceBNe, Int.reduceLT, Int.reduceLE, Msg.a, Par.a, t12]
      · rw [hpb]; simp (maxSteps := 4000000) only [go_sem, ↓reduceIte, reduceCtorEq, Nat.reduceEqDiff, Nat.reduceBEq, Nat.reduceAdd, Nat.reduceSub, Nat.reduceMul, Nat.reduceLT, Nat.reduceLeDiff, Nat.reduceBNe, Int.reduceBEq, Int.reduceBNe, Int.reduceLT, Int.reduceLE, Msg.a, Par.a, t13]
theorem reads_agg {w : World} {fs : List Ty} {c : Array Value} {ds : List AV} (h : ReadsAs w (.st fs) c.toList ds) : VR (fun b _ => b < w.heap.size) w (.agg ds) (.agg c) := by
  have := VR.agg (Pr := fun b _ => b < w.heap.size) (w := w) ds c.toList h.2.1 h.2.2
  simpa using this
theorem reads_one {w : World} {T : Ty} {v : Value} {ds : List AV} (h : ReadsAs w T [v] ds) : ∃ d, ds = [d] ∧ VR (fun b _ => b < w.heap.size) w d v := by
  obtain ⟨h1, h2, h3⟩ := h
  match ds, h2 with
  | [d], _ => exact ⟨d, rfl, h3 0 d v rfl rfl⟩
theorem run_all {f : FuncId} {w : World} {ds : List AV} {vs : List Value} (hl : ds.length = vs.length) (h : ∀ (j : Nat) (d : AV) (u : Value), ds[j]? = some d → vs[j]? = some u → VR (fun b _ => b < w.heap.size) w d u) (hA : AFn Try.prog f ds (.bool true)) :
    Calls Try.prog f ⟨vs⟩ w fun e w' => e = .returned (.bool true) ∧ Below w.heap.size w w' := by
  have := hA.calls w (fun b _ => b < w.heap.size) vs trivial (fun b o hb => hb) hl h
  refine this.mono fun e w' ⟨u, he, hb, hr⟩ => ?_
  have hr' : VR _ w' (.bool true) u := hr
  cases hr'
  exact ⟨he, hb⟩
theorem order_walk (c : Array Value) (v1 : Value) (a b : Int) (w : World) (f0 : ∃ ds, ReadsAs w CfgT c.toList ds) (f1 : ∃ ds, ReadsAs w (.sl NdT) [v1] ds) (f2 : -9223372036854775808 ≤ a ∧ a ≤ 9223372036854775807) (f3 : -9223372036854775808 ≤ b ∧ b ≤ 9223372036854775807) :
    Calls Try.prog 3 #[.agg c, v1, .int .i64 a, .int .i64 b] w fun e w' => e = .returned (.bool true) ∧ Below w.heap.size w w' := by
  obtain ⟨d0, r0⟩ := f0
  obtain ⟨d1, r1⟩ := f1
  obtain ⟨n, e0, on⟩ := Cfg.of r0.1
  have v0 := reads_agg r0
  rw [e0] at v0
  obtain ⟨d, rfl, u1⟩ := reads_one r1
  obtain ⟨l, hd, hl, hok⟩ := sl_of Nd.a Nd.ok r1.1 (fun c h => Nd.of h)
  cases hd
  refine run_all (vs := [.agg c, v1, .int .i64 a, .int .i64 b]) rfl (fun j d u hj hu => ?_) (order_law n l a b hok hl)
  match j with
  | 0 => cases hj; cases hu; exact v0
  | 1 => cases hj; cases hu; exact u1
  | 2 => cases hj; cases hu; exact .int .i64 a
  | 3 => cases hj; cases hu; exact .int .i64 b
  | j + 4 => simp at hj
end
section
/-
  'Rows.LadderOrderSaid' is proved: the law percolatelaw55.LadderOrder returns true at every input, and its arguments read as they did. No condition.
-/
namespace ladderOrder
open Go.ChangeShapes Go.WideShapes Go.ChangeAt Go.RowKit
open Go.ChangeMaps (open_string shut_string)
set_option linter.unusedVariables false
set_option maxRecDepth 100000 in
theorem lifted (os : Os) (started : os.Started) (H : Type) (enc : TypeId × Value → H) :
    ReturnsInHanded {} Try.checked os 3 .any (Rows.ladderOrderSpec.pre6 enc Try.prog Try.f3 Rows.ladderOrderRow.domain false) (Rows.ladderOrderSpec.post enc Try.prog Try.f3 false true false false) := by
  refine returnsInHanded_of_change_sized (C := Try.checked) ownK started (by kernel_rfl) Try.func3
    (ChangeSpec.witness6 (enc := enc) (C := Try.checked) false ⟨#[], #[.agg #[.int .i64 0, .int .i64 0, .int .i64 0, .int .i64 0, .int .i64 0], .slice none 0 0, .int .i64 0, .int .i64 0], []⟩ 8 (by kernel_rfl) (by kernel_rfl) (by kernel_rfl) (by kernel_rfl)) ?_
  intro W base args ds gs before hval0 hW hcnd hsz _
  have hval : ∀ (j : Nat) t v, Try.f3.params[j]? = some t → args[j]? = some v → Value.okWide Try.prog W .any base t v := hval0
  have hW' := hW
  obtain ⟨p, q, hA0, hV, rfl, hfz, hnd⟩ := hW
  have hA : DataW.TrodAll enc Try.prog W 0 (fun _ => true) true Try.f3.params.toList args.toList ds p := hA0
  rw [Try.params3] at hA hval
  obtain ⟨v0, vs0, d0, ds0, p0, q0, hargs, rfl, rfl, h0, r0⟩ := trodAll_cons hA
  obtain ⟨v1, vs1, d1, ds1, p1, q1, rfl, rfl, rfl, h1, r1⟩ := trodAll_cons r0
  obtain ⟨v2, vs2, d2, ds2, p2, q2, rfl, rfl, rfl, h2, r2⟩ := trodAll_cons r1
  obtain ⟨v3, vs3, d3, ds3, p3, q3, rfl, rfl, rfl, h3, r3⟩ := trodAll_cons r2
  obtain ⟨rfl, rfl, rfl⟩ := trodAll_nil r3
  obtain rfl : args = #[v0, v1, v2, v3] := by cases args; simp_all
  obtain ⟨rfl, rfl⟩ := trodVars_none hV
  have hw0 : (d0.weights Try.prog 23).all (· ≤ reachBytes) = true := weightsEach_mem hsz 0 23 d0 rfl rfl
  obtain ⟨c0, rfl, hc0⟩ := okWide_struct Try.underlying23 (hval 0 23 v0 rfl rfl)
  obtain ⟨fu0, ht0⟩ := h0
  have f0 : ∃ ds, ReadsAs W (CfgT) c0.toList ds := typed_in 8 (x := (d0, p0)) (by kernel_rfl) hw0 ht0
  have hw1 : (d1.weights Try.prog 24).all (· ≤ reachBytes) = true := weightsEach_mem hsz 1 24 d1 rfl rfl
  obtain ⟨s1, n1, c1, rfl⟩ := okWide_slice Try.underlying24 (hval 1 24 v1 rfl rfl)
  obtain ⟨fu1, ht1⟩ := h1
  have f1 : ∃ ds, ReadsAs W (.sl NdT) [.slice s1 n1 c1] ds := typed_in 8 (x := (d1, p1)) (by kernel_rfl) hw1 ht1
  obtain ⟨a2, rfl, hd2, hp2, w2⟩ := open_int Try.underlying3 (hval 2 3 v2 rfl rfl) h2
  have f2 := bounds_i64 w2
  obtain ⟨a3, rfl, hd3, hp3, w3⟩ := open_int Try.underlying3 (hval 3 3 v3 rfl rfl) h3
  have f3 := bounds_i64 w3
  refine (order_walk c0 _ a2 a3 W f0 f1 f2 f3).mono fun e W' ⟨he, hb⟩ => ?_
  subst he
  exact ⟨_, rfl, post_law laidOut hW' rfl rfl rfl rfl rfl Try.underlying4 (by intro t ht; rw [Try.params3] at ht; simp only [List.mem_cons, List.not_mem_nil, or_false] at ht; rcases ht with rfl | rfl | rfl | rfl <;> exact ⟨by kernel_rfl, of_decide_eq_true (by kernel_rfl)⟩) hb⟩
theorem proved : Rows.LadderOrderSaid :=
  OpenClaim.holds_of_wide 3 Try.f3 rfl rfl rfl rfl rfl rfl rfl ⟨rfl, rfl, rfl, rfl, rfl⟩ rfl rfl rfl rfl rfl (by kernel_rfl) Try.func3 (by kernel_rfl)
    (of_decide_eq_true (by kernel_rfl)) (by unfold Func.isWrapper; first | (rw [if_pos (by decide +kernel)]; kernel_rfl) | (rw [if_neg (by decide +kernel)]; exact ⟨rfl, rfl⟩))
    (fun os started H enc _ => lifted os started H enc)
end ladderOrder
end
end Go.Proofs.Ythfdbjocpicbmaa
