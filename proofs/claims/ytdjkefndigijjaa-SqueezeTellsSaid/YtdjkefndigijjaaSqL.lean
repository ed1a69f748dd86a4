/-
  The document's Next, Dead and Squeeze, and texts to try, on the plain machine.
-/
import Derived.Test.YtdjkefndigijjaaSqK
namespace Go.Proofs.Ytdjkefndigijjaa
open Go.RowKit
set_option linter.unusedVariables false
set_option linter.unusedSimpArgs false
set_option maxRecDepth 100000
attribute [local go_sem ↓] runOp headOp
attribute [local go_sem] ev0 ev1 ev2 ev3 evA stHOk.eq_1 stHOk.eq_2 stHSt.eq_1 stHSt.eq_2 okV valV fzV okF valF okBld valBld mxOk.eq_1 mxOk.eq_2 mxVal.eq_1 mxVal.eq_2 cellFit.eq_1 cellFit.eq_2 cellFit.eq_3 cellEq.eq_1 cellEq.eq_2 cellEq.eq_3 upd_at AV.flatB AV.flatBs binIok binIV binSok binSV cellsOk.eq_1 cellsOk.eq_2 cellsVal.eq_1 cellsVal.eq_2 objCells.eq_1 objCells.eq_2 objZ.eq_1 objZ.eq_2 objProt.eq_1 objProt.eq_2 oneObj ptrOk.eq_1 ptrOk.eq_2 ptrOk.eq_3 ptrCells.eq_1 ptrCells.eq_2 ptrCells.eq_3 lenOk.eq_1 lenOk.eq_2 lenOk.eq_3 lenOk.eq_4 lenVal.eq_1 lenVal.eq_2 lenVal.eq_3 lenVal.eq_4 faOk.eq_1 faOk.eq_2 faOk.eq_3 faVal.eq_1 faVal.eq_2 faVal.eq_3 iaOk.eq_1 iaOk.eq_2 iaOk.eq_3 iaVal.eq_1 iaVal.eq_2 iaVal.eq_3 slcLen.eq_1 slcLen.eq_2 slcLen.eq_3 slcLen.eq_4 bdOk.eq_1 bdOk.eq_2 bdVal.eq_1 bdVal.eq_2 slcOk.eq_1 slcOk.eq_2 slcOk.eq_3 slcOk.eq_4 slcVal.eq_1 slcVal.eq_2 slcVal.eq_3 slcVal.eq_4 slcFz.eq_1 slcFz.eq_2 byOk.eq_1 byOk.eq_2 byOk.eq_3 byOk.eq_4 byOk.eq_5 byVal.eq_1 byVal.eq_2 byVal.eq_3 byFz.eq_1 byFz.eq_2 byFz.eq_3 byOks byVals byFzs allOne resSt.eq_1 resSt.eq_2 resName.eq_1 resName.eq_2 stOk.eq_1 stOk.eq_2 stArr.eq_1 stArr.eq_2 stSt.eq_1 stSt.eq_2 AV.patch nameOk_none gB.eq_1 gB.eq_2 gB.eq_3 gIs.eq_1 gIs.eq_2 gIs.eq_3 retV resV resVs evalV cellsV St.byval List.getD_cons_zero List.getD_cons_succ List.getD_nil List.map_cons List.map_nil List.length_cons List.length_nil List.take_succ_cons List.take_zero List.drop_succ_cons List.drop_zero List.headD_cons List.set_cons_zero List.append_nil List.nil_append List.cons_append List.contains_cons List.contains_nil List.elem_cons List.elem_nil List.all_cons List.all_nil List.getElem?_cons_zero List.getElem?_cons_succ List.filterMap_cons List.filterMap_nil Option.isSome_some Option.isSome_none Option.map_some Option.map_none Option.some.injEq AV.int.injEq AV.bool.injEq AV.str.injEq AV.tup.injEq AV.agg.injEq AV.sl.injEq List.cons.injEq Bool.false_eq_true Bool.true_eq_false Bool.not_true Bool.not_false Bool.and_true Bool.true_and Bool.or_false Bool.or_true Bool.false_or Bool.true_or Bool.or_self Bool.and_self Bool.not_eq_true' Bool.not_eq_false' Bool.not_not beq_self_eq_true true_and and_true false_and and_false and_self not_true_eq_false not_false_eq_true forall_const true_implies false_implies implies_true imp_self Nat.lt_add_one Nat.le_refl Nat.zero_le Nat.add_zero Nat.zero_add decide_true decide_false decide_eq_true_eq decide_eq_false_iff_not exists_eq_left exists_eq_left' ge_iff_le gt_iff_lt ite_branch ite_branch' nilOk.eq_1 nilOk.eq_2 nilMay.eq_1 nilMay.eq_2 AV.isSl.eq_1 objTy'.eq_1 objTy'.eq_2 apSt.eq_1 apArr.eq_1 apArr.eq_2 slOf.eq_1 fitsV List.mem_cons List.not_mem_nil Bool.false_and Bool.and_false
/-! ### percolate/percolateref49.Next -/
def r_r49Next_0 : Reg := ⟨[], [⟨(.mv (.c (.int .i64 0))), (some 4), none, [], []⟩], [], [], false⟩
def r_r49Next_1 : Reg := ⟨[], [⟨(.mv (.t 1)), (some 6), none, [], []⟩, ⟨(.bin .add (.t 6) (.c (.int .i64 1))), (some 7), none, [], []⟩, ⟨(.mv (.t 7)), (some 5), none, [], []⟩], [], [], false⟩
def r_r49Next_2 : Reg := ⟨[], [⟨(.mv (.t 5)), (some 8), none, [], []⟩, ⟨(.mv (.t 0)), (some 9), none, [], []⟩, ⟨(.len false (.t 9)), (some 10), none, [], []⟩, ⟨(.bin .lss (.t 8) (.t 10)), (some 11), none, [], []⟩], [], [], false⟩
def r_r49Next_3 : Reg := ⟨[⟨(.mv (.t 0)), (some 14), none, [18, 23, 24, 25], []⟩, ⟨(.mv (.t 1)), (some 15), none, [18, 23, 24, 25], []⟩, ⟨(.iaddr 6 (.t 14) (.t 15)), (some 16), none, [18, 23, 24, 25], []⟩, ⟨(.load 6 true (.t 16)), (some 17), none, [18, 23, 24, 25], []⟩, ⟨(.callv (.c (.clo 32 [] [])) [(.t 17)]), (some 18), none, [23, 24, 25], []⟩, ⟨(.mv (.t 0)), (some 19), none, [18, 23, 24, 25], []⟩, ⟨(.mv (.t 5)), (some 20), none, [18, 23, 24, 25], []⟩, ⟨(.iaddr 6 (.t 19) (.t 20)), (some 21), none, [18, 23, 24, 25], []⟩, ⟨(.load 6 true (.t 21)), (some 22), none, [18, 23, 24, 25], []⟩], [⟨(.callv (.c (.clo 32 [] [])) [(.t 22)]), (some 23), none, [24, 25], []⟩, ⟨(.callv (.c (.clo 31 [] [])) [(.t 18), (.t 23)]), (some 24), none, [25], []⟩, ⟨(.callv (.c (.clo 30 [] [])) [(.t 24)]), (some 25), none, [], []⟩, ⟨(.un .not (.t 25)), (some 26), none, [], []⟩], [18, 23, 24, 25], [], true⟩
def r_r49Next_4 : Reg := ⟨[], [⟨(.mv (.t 5)), (some 27), none, [], []⟩, ⟨(.mv (.t 27)), (some 4), none, [], []⟩], [], [], false⟩
def r_r49Next_5 : Reg := ⟨[], [⟨(.mv (.t 5)), (some 12), none, [], []⟩, ⟨(.bin .add (.t 12) (.c (.int .i64 1))), (some 13), none, [], []⟩, ⟨(.mv (.t 13)), (some 5), none, [], []⟩], [], [], false⟩
def r_r49Next_l6 : IR := (.seq (.seq (.reg r_r49Next_2)
  (.cond (.t 11) .skip
  (.exit 0)))
  (.seq (.block 1 (.seq (.reg r_r49Next_3)
  (.cond (.t 26) (.seq (.reg r_r49Next_4)
  .ret)
  .skip)))
  (.reg r_r49Next_5)))
def r_r49Next_7 : Reg := ⟨[], [⟨(.mv (.c (.int .i64 (-1)))), (some 4), none, [], []⟩], [], [], false⟩
def ir_r49Next : IR := (.seq (.reg r_r49Next_0)
  (.seq (.seq (.reg r_r49Next_1)
  (.block 0 (.loop r_r49Next_l6)))
  (.seq (.reg r_r49Next_7)
  .ret)))
def res_r49Next : List RDesc := [(.tmp 4)]
theorem e_r49Next_0 (C : FuncId → List AV → AV → Prop) (σ : St) (K : St → Prop) : runReg C r_r49Next_0 σ K = runOps C [⟨(.mv (.c (.int .i64 0))), (some 4), none, [], []⟩] (σ.kills []) K := rfl
theorem e_r49Next_1 (C : FuncId → List AV → AV → Prop) (σ : St) (K : St → Prop) : runReg C r_r49Next_1 σ K = runOps C [⟨(.mv (.t 1)), (some 6), none, [], []⟩, ⟨(.bin .add (.t 6) (.c (.int .i64 1))), (some 7), none, [], []⟩, ⟨(.mv (.t 7)), (some 5), none, [], []⟩] (σ.kills []) K := rfl
theorem e_r49Next_2 (C : FuncId → List AV → AV → Prop) (σ : St) (K : St → Prop) : runReg C r_r49Next_2 σ K = runOps C [⟨(.mv (.t 5)), (some 8), none, [], []⟩, ⟨(.mv (.t 0)), (some 9), none, [], []⟩, ⟨(.len false (.t 9)), (some 10), none, [], []⟩, ⟨(.bin .lss (.t 8) (.t 10)), (some 11), none, [], []⟩] (σ.kills []) K := rfl
theorem e_r49Next_3 (C : FuncId → List AV → AV → Prop) (σ : St) (K : St → Prop) : runReg C r_r49Next_3 σ K = runHead C [] [⟨(.callv (.c (.clo 32 [] [])) [(.t 22)]), (some 23), none, [24, 25], []⟩, ⟨(.callv (.c (.clo 31 [] [])) [(.t 18), (.t 23)]), (some 24), none, [25], []⟩, ⟨(.callv (.c (.clo 30 [] [])) [(.t 24)]), (some 25), none, [], []⟩, ⟨(.un .not (.t 25)), (some 26), none, [], []⟩] [⟨(.mv (.t 0)), (some 14), none, [18, 23, 24, 25], []⟩, ⟨(.mv (.t 1)), (some 15), none, [18, 23, 24, 25], []⟩, ⟨(.iaddr 6 (.t 14) (.t 15)), (some 16), none, [18, 23, 24, 25], []⟩, ⟨(.load 6 true (.t 16)), (some 17), none, [18, 23, 24, 25], []⟩, ⟨(.callv (.c (.clo 32 [] [])) [(.t 17)]), (some 18), none, [23, 24, 25], []⟩, ⟨(.mv (.t 0)), (some 19), none, [18, 23, 24, 25], []⟩, ⟨(.mv (.t 5)), (some 20), none, [18, 23, 24, 25], []⟩, ⟨(.iaddr 6 (.t 19) (.t 20)), (some 21), none, [18, 23, 24, 25], []⟩, ⟨(.load 6 true (.t 21)), (some 22), none, [18, 23, 24, 25], []⟩] (σ.kills [18, 23, 24, 25]) K := rfl
theorem e_r49Next_4 (C : FuncId → List AV → AV → Prop) (σ : St) (K : St → Prop) : runReg C r_r49Next_4 σ K = runOps C [⟨(.mv (.t 5)), (some 27), none, [], []⟩, ⟨(.mv (.t 27)), (some 4), none, [], []⟩] (σ.kills []) K := rfl
theorem e_r49Next_5 (C : FuncId → List AV → AV → Prop) (σ : St) (K : St → Prop) : runReg C r_r49Next_5 σ K = runOps C [⟨(.mv (.t 5)), (some 12), none, [], []⟩, ⟨(.bin .add (.t 12) (.c (.int .i64 1))), (some 13), none, [], []⟩, ⟨(.mv (.t 13)), (some 5), none, [], []⟩] (σ.kills []) K := rfl
theorem e_r49Next_7 (C : FuncId → List AV → AV → Prop) (σ : St) (K : St → Prop) : runReg C r_r49Next_7 σ K = runOps C [⟨(.mv (.c (.int .i64 (-1)))), (some 4), none, [], []⟩] (σ.kills []) K := rfl
theorem fn_r49Next {args : List AV} {r : AV} (ha : args.length.ble Try.f62.ntmps = true) (h : run (AFn Try.prog) ir_r49Next (endQ res_r49Next r) (initSt args)) : AFn Try.prog 62 args r :=
  AFn.of_code (hint := fun _ => []) (c := Try.f62.body.getD .skip) (by kernel_rfl) (by kernel_rfl) Try.func62 (by kernel_rfl) (by kernel_rfl) (by kernel_rfl) (of_decide_eq_true (by kernel_rfl)) (Nat.le_of_ble_eq_true ha) (run_ok h)

/-! ### percolate/percolateref49.Dead -/
def r_r49Dead_0 : Reg := ⟨[], [⟨(.mv (.c (.bool false))), (some 4), none, [], []⟩], [], [], false⟩
def r_r49Dead_1 : Reg := ⟨[], [⟨(.mv (.t 0)), (some 8), none, [], []⟩, ⟨(.mv (.t 1)), (some 9), none, [], []⟩, ⟨(.iaddr 6 (.t 8) (.t 9)), (some 10), none, [], []⟩, ⟨(.faddr 1 (.t 10)), (some 11), none, [], []⟩, ⟨(.load 1 false (.t 11)), (some 12), none, [], []⟩, ⟨(.bin .eql (.t 12) (.c (.int .i64 4))), (some 13), none, [], []⟩], [], [], false⟩
def r_r49Dead_2 : Reg := ⟨[], [⟨(.mv (.t 1)), (some 14), none, [], []⟩, ⟨(.bin .add (.t 14) (.c (.int .i64 1))), (some 15), none, [], []⟩, ⟨(.mv (.t 15)), (some 5), none, [], []⟩], [], [], false⟩
def r_r49Dead_3 : Reg := ⟨[], [⟨(.mv (.t 5)), (some 16), none, [], []⟩, ⟨(.mv (.t 0)), (some 17), none, [], []⟩, ⟨(.len false (.t 17)), (some 18), none, [], []⟩, ⟨(.bin .lss (.t 16) (.t 18)), (some 19), none, [], []⟩], [], [], false⟩
def r_r49Dead_4 : Reg := ⟨[], [⟨(.mv (.t 0)), (some 22), none, [26, 6], []⟩, ⟨(.mv (.t 1)), (some 23), none, [26, 6], []⟩, ⟨(.iaddr 6 (.t 22) (.t 23)), (some 24), none, [26, 6], []⟩, ⟨(.load 6 true (.t 24)), (some 25), none, [26, 6], []⟩, ⟨(.callv (.c (.clo 32 [] [])) [(.t 25)]), (some 26), none, [6], []⟩, ⟨(.alloc 3 41 (.agg [(.str ⟨#[]⟩), (.str ⟨#[]⟩), (.bool false)])), (some 6), none, [], []⟩, ⟨(.store 3 (.t 6) (.t 26)), none, none, [], []⟩], [26, 6], [], false⟩
def r_r49Dead_5 : Reg := ⟨[⟨(.mv (.t 0)), (some 27), none, [39, 40, 42], []⟩, ⟨(.mv (.t 5)), (some 28), none, [39, 40, 42], []⟩, ⟨(.iaddr 6 (.t 27) (.t 28)), (some 29), none, [39, 40, 42], []⟩, ⟨(.faddr 1 (.t 29)), (some 30), none, [39, 40, 42], []⟩, ⟨(.load 1 false (.t 30)), (some 31), none, [39, 40, 42], []⟩, ⟨(.bin .eql (.t 31) (.c (.int .i64 4))), (some 32), none, [39, 40, 42], []⟩, ⟨(.mv (.t 32)), (some 33), none, [39, 40, 42], []⟩, ⟨(.load 3 true (.t 6)), (some 34), (some (33, true)), [39, 40, 42], []⟩, ⟨(.mv (.t 0)), (some 35), (some (33, true)), [39, 40, 42], []⟩, ⟨(.mv (.t 5)), (some 36), (some (33, true)), [39, 40, 42], []⟩, ⟨(.iaddr 6 (.t 35) (.t 36)), (some 37), (some (33, true)), [39, 40, 42], []⟩, ⟨(.load 6 true (.t 37)), (some 38), (some (33, true)), [39, 40, 42], []⟩, ⟨(.callv (.c (.clo 32 [] [])) [(.t 38)]), (some 39), (some (33, true)), [40, 42], []⟩, ⟨(.callv (.c (.clo 31 [] [])) [(.t 34), (.t 39)]), (some 40), (some (33, true)), [42], []⟩, ⟨(.load 3 true (.t 6)), (some 41), (some (33, true)), [39, 40, 42], []⟩], [⟨(.callv (.c (.clo 85 [] [])) [(.t 41)]), (some 42), (some (33, true)), [], []⟩, ⟨(.feq false [(0, 1), (1, 1), (2, 2)] (.t 40) (.t 42)), (some 43), (some (33, true)), [], []⟩, ⟨(.pick (.t 33) (.t 43) (.c (.bool false))), (some 44), none, [], []⟩], [39, 40, 42], [], true⟩
def r_r49Dead_6 : Reg := ⟨[], [⟨(.mv (.c (.bool true))), (some 4), none, [], []⟩], [], [], false⟩
def r_r49Dead_7 : Reg := ⟨[], [⟨(.mv (.t 5)), (some 20), none, [], []⟩, ⟨(.bin .add (.t 20) (.c (.int .i64 1))), (some 21), none, [], []⟩, ⟨(.mv (.t 21)), (some 5), none, [], []⟩], [], [], false⟩
def r_r49Dead_l8 : IR := (.seq (.seq (.reg r_r49Dead_3)
  (.cond (.t 19) .skip
  (.exit 0)))
  (.seq (.block 1 (.seq (.reg r_r49Dead_4)
  (.seq (.reg r_r49Dead_5)
  (.cond (.t 44) (.seq (.reg r_r49Dead_6)
  .ret)
  .skip))))
  (.reg r_r49Dead_7)))
def r_r49Dead_9 : Reg := ⟨[], [⟨(.mv (.c (.bool false))), (some 4), none, [], []⟩], [], [], false⟩
def r_r49Dead_10 : Reg := ⟨[], [⟨(.mv (.t 0)), (some 45), none, [47], []⟩, ⟨(.mv (.t 1)), (some 46), none, [47], []⟩, ⟨(.callv (.c (.clo 62 [] [])) [(.t 45), (.t 46)]), (some 47), none, [], []⟩, ⟨(.mv (.t 47)), (some 7), none, [], []⟩], [47], [], false⟩
def r_r49Dead_11 : Reg := ⟨[], [⟨(.mv (.t 7)), (some 48), none, [], []⟩, ⟨(.bin .geq (.t 48) (.c (.int .i64 0))), (some 49), none, [], []⟩, ⟨(.mv (.t 49)), (some 50), none, [], []⟩, ⟨(.mv (.t 0)), (some 51), (some (50, true)), [], []⟩, ⟨(.mv (.t 7)), (some 52), (some (50, true)), [], []⟩, ⟨(.iaddr 6 (.t 51) (.t 52)), (some 53), (some (50, true)), [], []⟩, ⟨(.faddr 1 (.t 53)), (some 54), (some (50, true)), [], []⟩, ⟨(.load 1 false (.t 54)), (some 55), (some (50, true)), [], []⟩, ⟨(.bin .neq (.t 55) (.c (.int .i64 2))), (some 56), (some (50, true)), [], []⟩, ⟨(.pick (.t 50) (.t 56) (.c (.bool false))), (some 57), none, [], []⟩, ⟨(.mv (.t 57)), (some 4), none, [], []⟩], [], [], false⟩
def ir_r49Dead : IR := (.seq (.reg r_r49Dead_0)
  (.seq (.seq (.reg r_r49Dead_1)
  (.cond (.t 13) (.seq (.seq (.reg r_r49Dead_2)
  (.block 0 (.loop r_r49Dead_l8)))
  (.seq (.reg r_r49Dead_9)
  .ret))
  .skip))
  (.seq (.reg r_r49Dead_10)
  (.seq (.reg r_r49Dead_11)
  .ret))))
def res_r49Dead : List RDesc := [(.tmp 4)]
theorem e_r49Dead_0 (C : FuncId → List AV → AV → Prop) (σ : St) (K : St → Prop) : runReg C r_r49Dead_0 σ K = runOps C [⟨(.mv (.c (.bool false))), (some 4), none, [], []⟩] (σ.kills []) K := rfl
theorem e_r49Dead_1 (C : FuncId → List AV → AV → Prop) (σ : St) (K : St → Prop) : runReg C r_r49Dead_1 σ K = runOps C [⟨(.mv (.t 0)), (some 8), none, [], []⟩, ⟨(.mv (.t 1)), (some 9), none, [], []⟩, ⟨(.iaddr 6 (.t 8) (.t 9)), (some 10), none, [], []⟩, ⟨(.faddr 1 (.t 10)), (some 11), none, [], []⟩, ⟨(.load 1 false (.t 11)), (some 12), none, [], []⟩, ⟨(.bin .eql (.t 12) (.c (.int .i64 4))), (some 13), none, [], []⟩] (σ.kills []) K := rfl
theorem e_r49Dead_2 (C : FuncId → List AV → AV → Prop) (σ : St) (K : St → Prop) : runReg C r_r49Dead_2 σ K = runOps C [⟨(.mv (.t 1)), (some 14), none, [], []⟩, ⟨(.bin .add (.t 14) (.c (.int .i64 1))), (some 15), none, [], []⟩, ⟨(.mv (.t 15)), (some 5), none, [], []⟩] (σ.kills []) K := rfl
theorem e_r49Dead_3 (C : FuncId → List AV → AV → Prop) (σ : St) (K : St → Prop) : runReg C r_r49Dead_3 σ K = runOps C [⟨(.mv (.t 5)), (some 16), none, [], []⟩, ⟨(.mv (.t 0)), (some 17), none, [], []⟩, ⟨(.len false (.t 17)), (some 18), none, [], []⟩, ⟨(.bin .lss (.t 16) (.t 18)), (some 19), none, [], []⟩] (σ.kills []) K := rfl
theorem e_r49Dead_4 (C : FuncId → List AV → AV → Prop) (σ : St) (K : St → Prop) : runReg C r_r49Dead_4 σ K = runOps C [⟨(.mv (.t 0)), (some 22), none, [26, 6], []⟩, ⟨(.mv (.t 1)), (some 23), none, [26, 6], []⟩, ⟨(.iaddr 6 (.t 22) (.t 23)), (some 24), none, [26, 6], []⟩, ⟨(.load 6 true (.t 24)), (some 25), none, [26, 6], []⟩, ⟨(.callv (.c (.clo 32 [] [])) [(.t 25)]), (some 26), none, [6], []⟩, ⟨(.alloc 3 41 (.agg [(.str ⟨#[]⟩), (.str ⟨#[]⟩), (.bool false)])), (some 6), none, [], []⟩, ⟨(.store 3 (.t 6) (.t 26)), none, none, [], []⟩] (σ.kills [26, 6]) K := rfl
theorem e_r49Dead_5 (C : FuncId → List AV → AV → Prop) (σ : St) (K : St → Prop) : runReg C r_r49Dead_5 σ K = runHead C [] [⟨(.callv (.c (.clo 85 [] [])) [(.t 41)]), (some 42), (some (33, true)), [], []⟩, ⟨(.feq false [(0, 1), (1, 1), (2, 2)] (.t 40) (.t 42)), (some 43), (some (33, true)), [], []⟩, ⟨(.pick (.t 33) (.t 43) (.c (.bool false))), (some 44), none, [], []⟩] [⟨(.mv (.t 0)), (some 27), none, [39, 40, 42], []⟩, ⟨(.mv (.t 5)), (some 28), none, [39, 40, 42], []⟩, ⟨(.iaddr 6 (.t 27) (.t 28)), (some 29), none, [39, 40, 42], []⟩, ⟨(.faddr 1 (.t 29)), (some 30), none, [39, 40, 42], []⟩, ⟨(.load 1 false (.t 30)), (some 31), none, [39, 40, 42], []⟩, ⟨(.bin .eql (.t 31) (.c (.int .i64 4))), (some 32), none, [39, 40, 42], []⟩, ⟨(.mv (.t 32)), (some 33), none, [39, 40, 42], []⟩, ⟨(.load 3 true (.t 6)), (some 34), (some (33, true)), [39, 40, 42], []⟩, ⟨(.mv (.t 0)), (some 35), (some (33, true)), [39, 40, 42], []⟩, ⟨(.mv (.t 5)), (some 36), (some (33, true)), [39, 40, 42], []⟩, ⟨(.iaddr 6 (.t 35) (.t 36)), (some 37), (some (33, true)), [39, 40, 42], []⟩, ⟨(.load 6 true (.t 37)), (some 38), (some (33, true)), [39, 40, 42], []⟩, ⟨(.callv (.c (.clo 32 [] [])) [(.t 38)]), (some 39), (some (33, true)), [40, 42], []⟩, ⟨(.callv (.c (.clo 31 [] [])) [(.t 34), (.t 39)]), (some 40), (some (33, true)), [42], []⟩, ⟨(.load 3 true (.t 6)), (some 41), (some (33, true)), [39, 40, 42], []⟩] (σ.kills [39, 40, 42]) K := rfl
theorem e_r49Dead_6 (C : FuncId → List AV → AV → Prop) (σ : St) (K : St → Prop) : runReg C r_r49Dead_6 σ K = runOps C [⟨(.mv (.c (.bool true))), (some 4), none, [], []⟩] (σ.kills []) K := rfl
theorem e_r49Dead_7 (C : FuncId → List AV → AV → Prop) (σ : St) (K : St → Prop) : runReg C r_r49Dead_7 σ K = runOps C [⟨(.mv (.t 5)), (some 20), none, [], []⟩, ⟨(.bin .add (.t 20) (.c (.int .i64 1))), (some 21), none, [], []⟩, ⟨(.mv (.t 21)), (some 5), none, [], []⟩] (σ.kills []) K := rfl
theorem e_r49Dead_9 (C : FuncId → List AV → AV → Prop) (σ : St) (K : St → Prop) : runReg C r_r49Dead_9 σ K = runOps C [⟨(.mv (.c (.bool false))), (some 4), none, [], []⟩] (σ.kills []) K := rfl
theorem e_r49Dead_10 (C : FuncId → List AV → AV → Prop) (σ : St) (K : St → Prop) : runReg C r_r49Dead_10 σ K = runOps C [⟨(.mv (.t 0)), (some 45), none, [47], []⟩, ⟨(.mv (.t 1)), (some 46), none, [47], []⟩, ⟨(.callv (.c (.clo 62 [] [])) [(.t 45), (.t 46)]), (some 47), none, [], []⟩, ⟨(.mv (.t 47)), (some 7), none, [], []⟩] (σ.kills [47]) K := rfl
theorem e_r49Dead_11 (C : FuncId → List AV → AV → Prop) (σ : St) (K : St → Prop) : runReg C r_r49Dead_11 σ K = runOps C [⟨(.mv (.t 7)), (some 48), none, [], []⟩, ⟨(.bin .geq (.t 48) (.c (.int .i64 0))), (some 49), none, [], []⟩, ⟨(.mv (.t 49)), (some 50), none, [], []⟩, ⟨(.mv (.t 0)), (some 51), (some (50, true)), [], []⟩, ⟨(.mv (.t 7)), (some 52), (some (50, true)), [], []⟩, ⟨(.iaddr 6 (.t 51) (.t 52)), (some 53), (some (50, true)), [], []⟩, ⟨(.faddr 1 (.t 53)), (some 54), (some (50, true)), [], []⟩, ⟨(.load 1 false (.t 54)), (some 55), (some (50, true)), [], []⟩, ⟨(.bin .neq (.t 55) (.c (.int .i64 2))), (some 56), (some (50, true)), [], []⟩, ⟨(.pick (.t 50) (.t 56) (.c (.bool false))), (some 57), none, [], []⟩, ⟨(.mv (.t 57)), (some 4), none, [], []⟩] (σ.kills []) K := rfl
theorem fn_r49Dead {args : List AV} {r : AV} (ha : args.length.ble Try.f63.ntmps = true) (h : run (AFn Try.prog) ir_r49Dead (endQ res_r49Dead r) (initSt args)) : AFn Try.prog 63 args r :=
  AFn.of_code (hint := fun _ => []) (c := Try.f63.body.getD .skip) (by kernel_rfl) (by kernel_rfl) Try.func63 (by kernel_rfl) (by kernel_rfl) (by kernel_rfl) (of_decide_eq_true (by kernel_rfl)) (Nat.le_of_ble_eq_true ha) (run_ok h)

attribute [local go_sem ↓] ir_r49Next
attribute [local go_sem] res_r49Next e_r49Next_0 e_r49Next_1 e_r49Next_2 e_r49Next_3 e_r49Next_4 e_r49Next_5 e_r49Next_7
attribute [local go_sem ↓] ir_r49Dead
attribute [local go_sem] res_r49Dead e_r49Dead_0 e_r49Dead_1 e_r49Dead_2 e_r49Dead_3 e_r49Dead_4 e_r49Dead_5 e_r49Dead_6 e_r49Dead_7 e_r49Dead_9 e_r49Dead_10 e_r49Dead_11

def ansR : Option Nat → AV
  | some j => .int .i64 (j : Int)
  | none => .int .i64 (-1)
theorem KOk.m {l : List Msg} (hl : KOk l) {j : Nat} {x : Msg} (hx : l[j]? = some x) : x.key.size ≤ 9223372036854775806 ∧ x.key.size + 1 ≤ 9223372036854775807 ∧ x.hi.size ≤ 9223372036854775807 ∧ SOk x.span := by
  have h := hl.2 x (List.mem_of_getElem? hx)
  exact ⟨by omega, by omega, by omega, span_ok (n := 0) (by omega) (by omega)⟩
theorem meet_sok {s t : Spn} (hs : SOk s) (ht : SOk t) : SOk (s.meet t) := by
  unfold Spn.meet Spn.norm
  split
  · exact ⟨Nat.zero_le _, Nat.zero_le _⟩
  · have h : SOk (s.cut t) := by
      unfold Spn.cut maxS minS SOk
      refine ⟨?_, ?_⟩
      · simp only; split
        · exact ht.1
        · exact hs.1
      · simp only; split
        · exact ht.2
        · split
          · exact hs.2
          · split
            · exact ht.2
            · exact hs.2
    split
    · exact ⟨h.1, Nat.zero_le _⟩
    · exact h
def rnInv (l : List Msg) (m : Msg) (i : Nat) (r : Option Nat) (k : Nat) (σ : St) : Prop :=
  ∃ j : Nat, j ≤ l.length ∧ k = l.length - j ∧ σ.T 0 = .sl (l.map Msg.a) ∧ σ.T 1 = .int .i64 i ∧ σ.T 5 = .int .i64 j ∧ firstFrom (fun j => (l[j]?).any fun x => x.span.touch m.span) (l.length - j) j = r
theorem ref49Next (l : List Msg) (i : Nat) (hl : KOk l) (hi : i < l.length) : AFn Try.prog 62 [.sl (l.map Msg.a), .int .i64 i] (ansR (nextOf l i)) := by
  obtain ⟨m, hm⟩ := getM hi
  have hmo := hl.m hm
  have hw0 := wS (j := i) (by have := hl.1; omega)
  have h3 : (i : Int) < (l.length : Int) := by omega
  refine fn_r49Next rfl ?_
  simp (maxSteps := 4000000) only [go_sem, ↓reduceIte, reduceCtorEq, Nat.reduceEqDiff, Nat.reduceBEq, Nat.reduceAdd, Nat.reduceSub, Nat.reduceMul, Nat.reduceLT, Nat.reduceLeDiff, Nat.reduceBNe, Int.reduceBEq, Int.reduceBNe, Int.reduceLT, Int.reduceLE, Spn.a, Msg.a, Eff.a, hw0]
  refine run_loop (rnInv l m i (nextOf l i)) (k := l.length - (i + 1)) ⟨i + 1, by omega, rfl, ?_, ?_, ?_, ?_⟩ ?_
  · simp (maxSteps := 4000000) only [go_sem, ↓reduceIte, reduceCtorEq, Nat.reduceEqDiff, Nat.reduceBEq, Nat.reduceAdd, Nat.reduceSub, Nat.reduceMul, Nat.reduceLT, Nat.reduceLeDiff, Nat.reduceBNe, Int.reduceBEq, Int.reduceBNe, Int.reduceLT, Int.reduceLE, Spn.a, Msg.a, Eff.a]
  · simp (maxSteps := 4000000) only [go_sem, ↓reduceIte, reduceCtorEq, Nat.reduceEqDiff, Nat.reduceBEq, Nat.reduceAdd, Nat.reduceSub, Nat.reduceMul, Nat.reduceLT, Nat.reduceLeDiff, Nat.reduceBNe, Int.reduceBEq, Int.reduceBNe, Int.reduceLT, Int.reduceLE, Spn.a, Msg.a, Eff.a]
  · simp (maxSteps := 4000000) only [go_sem, ↓reduceIte, reduceCtorEq, Nat.reduceEqDiff, Nat.reduceBEq, Nat.reduceAdd, Nat.reduceSub, Nat.reduceMul, Nat.reduceLT, Nat.reduceLeDiff, Nat.reduceBNe, Int.reduceBEq, Int.reduceBNe, Int.reduceLT, Int.reduceLE, Spn.a, Msg.a, Eff.a]
  · unfold nextOf; rw [hm]
  rintro k σ ⟨j, hj, rfl, t0, t1, t5, hr⟩
  simp only [r_r49Next_l6]
  by_cases hlt : j < l.length
  · have hlt' : (j : Int) < (l.length : Int) := by omega
    obtain ⟨x, hx⟩ := getM hlt
    have hxo := hl.m hx
    have hw := wS (j := j) (by have := hl.1; omega)
    rw [show l.length - j = (l.length - (j + 1)) + 1 by omega, firstFrom, hx, Option.any_some] at hr
    simp (maxSteps := 4000000) only [go_sem, ↓reduceIte, reduceCtorEq, Nat.reduceEqDiff, Nat.reduceBEq, Nat.reduceAdd, Nat.reduceSub, Nat.reduceMul, Nat.reduceLT, Nat.reduceLeDiff, Nat.reduceBNe, Int.reduceBEq, Int.reduceBNe, Int.reduceLT, Int.reduceLE, Spn.a, Msg.a, Eff.a, t0, t1, t5, hlt', h3, gM hm, gM hx, List.length_map, Int.toNat_natCast]
    refine ⟨by omega, ?_⟩
    (first | refine calling (refSpan m hmo.1) ?_ | refine callingH (refSpan m hmo.1) ?_)
    simp (maxSteps := 4000000) only [go_sem, ↓reduceIte, reduceCtorEq, Nat.reduceEqDiff, Nat.reduceBEq, Nat.reduceAdd, Nat.reduceSub, Nat.reduceMul, Nat.reduceLT, Nat.reduceLeDiff, Nat.reduceBNe, Int.reduceBEq, Int.reduceBNe, Int.reduceLT, Int.reduceLE, Spn.a, Msg.a, Eff.a, t0, t1, t5, hlt', h3, gM hm, gM hx, List.length_map, Int.toNat_natCast]
    refine ⟨by omega, ?_⟩
    (first | refine calling (refSpan x hxo.1) ?_ | refine callingH (refSpan x hxo.1) ?_)
    simp (maxSteps := 4000000) only [go_sem, ↓reduceIte, reduceCtorEq, Nat.reduceEqDiff, Nat.reduceBEq, Nat.reduceAdd, Nat.reduceSub, Nat.reduceMul, Nat.reduceLT, Nat.reduceLeDiff, Nat.reduceBNe, Int.reduceBEq, Int.reduceBNe, Int.reduceLT, Int.reduceLE, Spn.a, Msg.a, Eff.a, t0, t1, t5]
    (first | refine calling (refMeet m.span x.span hmo.2.2.2 hxo.2.2.2) ?_ | refine callingH (refMeet m.span x.span hmo.2.2.2 hxo.2.2.2) ?_)
    simp (maxSteps := 4000000) only [go_sem, ↓reduceIte, reduceCtorEq, Nat.reduceEqDiff, Nat.reduceBEq, Nat.reduceAdd, Nat.reduceSub, Nat.reduceMul, Nat.reduceLT, Nat.reduceLeDiff, Nat.reduceBNe, Int.reduceBEq, Int.reduceBNe, Int.reduceLT, Int.reduceLE, Spn.a, Msg.a, Eff.a, t0, t1, t5]
    (first | refine calling (refEmpty (m.span.meet x.span) (meet_sok hmo.2.2.2 hxo.2.2.2)) ?_ | refine callingH (refEmpty (m.span.meet x.span) (meet_sok hmo.2.2.2 hxo.2.2.2)) ?_)
    have he : (!(m.span.meet x.span).empty) = x.span.touch m.span := by unfold Spn.touch; rw [meet_comm]
    cases hp : x.span.touch m.span with
    | true =>
      rw [hp, if_pos rfl] at hr
      rw [hp] at he
      simp (maxSteps := 4000000) only [go_sem, ↓reduceIte, reduceCtorEq, Nat.reduceEqDiff, Nat.reduceBEq, Nat.reduceAdd, Nat.reduceSub, Nat.reduceMul, Nat.reduceLT, Nat.reduceLeDiff, Nat.reduceBNe, Int.reduceBEq, Int.reduceBNe, Int.reduceLT, Int.reduceLE, Spn.a, Msg.a, Eff.a, t0, t1, t5, he, hr.symm, ansR]
    | false =>
      rw [hp, if_neg (by simp)] at hr
      rw [hp] at he
      simp (maxSteps := 4000000) only [go_sem, ↓reduceIte, reduceCtorEq, Nat.reduceEqDiff, Nat.reduceBEq, Nat.reduceAdd, Nat.reduceSub, Nat.reduceMul, Nat.reduceLT, Nat.reduceLeDiff, Nat.reduceBNe, Int.reduceBEq, Int.reduceBNe, Int.reduceLT, Int.reduceLE, Spn.a, Msg.a, Eff.a, t0, t1, t5, he, hw]
      refine ⟨l.length - (j + 1), by omega, j + 1, by omega, rfl, ?_, ?_, ?_, hr⟩ <;>
        (simp (maxSteps := 4000000) only [go_sem, ↓reduceIte, reduceCtorEq, Nat.reduceEqDiff, Nat.reduceBEq, Nat.reduceAdd, Nat.reduceSub, Nat.reduceMul, Nat.reduceLT, Nat.reduceLeDiff, Nat.reduceBNe, Int.reduceBEq, Int.reduceBNe, Int.reduceLT, Int.reduceLE, Spn.a, Msg.a, Eff.a, t0, t1, t5, hw])
  · have hlt' : ¬ (j : Int) < (l.length : Int) := by omega
    rw [show l.length - j = 0 by omega, firstFrom] at hr
    simp (maxSteps := 4000000) only [go_sem, ↓reduceIte, reduceCtorEq, Nat.reduceEqDiff, Nat.reduceBEq, Nat.reduceAdd, Nat.reduceSub, Nat.reduceMul, Nat.reduceLT, Nat.reduceLeDiff, Nat.reduceBNe, Int.reduceBEq, Int.reduceBNe, Int.reduceLT, Int.reduceLE, Spn.a, Msg.a, Eff.a, t0, t1, t5, hlt', List.length_map, ← hr, ansR]
def rdInv (l : List Msg) (m : Msg) (i : Nat) (r : Bool) (k : Nat) (σ : St) : Prop :=
  ∃ j : Nat, j ≤ l.length ∧ k = l.length - j ∧ σ.T 0 = .sl (l.map Msg.a) ∧ σ.T 1 = .int .i64 i ∧ σ.T 5 = .int .i64 j ∧ ((l.drop j).any fun x => x.kind == 4 && m.span.within x.span) = r
theorem ref49Dead (l : List Msg) (i : Nat) (hl : KOk l) (hi : i < l.length) : AFn Try.prog 63 [.sl (l.map Msg.a), .int .i64 i] (.bool (dead l i)) := by
  obtain ⟨m, hm⟩ := getM hi
  have hmo := hl.m hm
  have hw0 := wS (j := i) (by have := hl.1; omega)
  have h3 : (i : Int) < (l.length : Int) := by omega
  refine fn_r49Dead rfl ?_
  cases h : (m.kind == 4) with
  | true =>
    have h' : m.kind = 4 := by simpa using h
    have hd : dead l i = (l.drop (i + 1)).any fun x => x.kind == 4 && m.span.within x.span := by simp [dead, cov, hm, h']
    rw [hd]
    simp (maxSteps := 4000000) only [go_sem, ↓reduceIte, reduceCtorEq, Nat.reduceEqDiff, Nat.reduceBEq, Nat.reduceAdd, Nat.reduceSub, Nat.reduceMul, Nat.reduceLT, Nat.reduceLeDiff, Nat.reduceBNe, Int.reduceBEq, Int.reduceBNe, Int.reduceLT, Int.reduceLE, Spn.a, Msg.a, Eff.a, h, hw0, h3, gM hm, List.length_map, Int.toNat_natCast]
    refine ⟨by omega, ?_⟩
    refine run_loop (rdInv l m i ((l.drop (i + 1)).any fun x => x.kind == 4 && m.span.within x.span)) (k := l.length - (i + 1)) ⟨i + 1, by omega, rfl, ?_, ?_, ?_, rfl⟩ ?_
    · simp (maxSteps := 4000000) only [go_sem, ↓reduceIte, reduceCtorEq, Nat.reduceEqDiff, Nat.reduceBEq, Nat.reduceAdd, Nat.reduceSub, Nat.reduceMul, Nat.reduceLT, Nat.reduceLeDiff, Nat.reduceBNe, Int.reduceBEq, Int.reduceBNe, Int.reduceLT, Int.reduceLE, Spn.a, Msg.a, Eff.a]
    · simp (maxSteps := 4000000) only [go_sem, ↓reduceIte, reduceCtorEq, Nat.reduceEqDiff, Nat.reduceBEq, Nat.reduceAdd, Nat.reduceSub, Nat.reduceMul, Nat.reduceLT, Nat.reduceLeDiff, Nat.reduceBNe, Int.reduceBEq, Int.reduceBNe, Int.reduceLT, Int.reduceLE, Spn.a, Msg.a, Eff.a]
    · simp (maxSteps := 4000000) only [go_sem, ↓reduceIte, reduceCtorEq, Nat.reduceEqDiff, Nat.reduceBEq, Nat.reduceAdd, Nat.reduceSub, Nat.reduceMul, Nat.reduceLT, Nat.reduceLeDiff, Nat.reduceBNe, Int.reduceBEq, Int.reduceBNe, Int.reduceLT, Int.reduceLE, Spn.a, Msg.a, Eff.a]
    rintro k σ ⟨j, hj, rfl, t0, t1, t5, hr⟩
    simp only [r_r49Dead_l8]
    by_cases hlt : j < l.length
    · have hlt' : (j : Int) < (l.length : Int) := by omega
      obtain ⟨x, hx⟩ := getM hlt
      have hxo := hl.m hx
      have hw := wS (j := j) (by have := hl.1; omega)
      rw [drop_cons hx, List.any_cons] at hr
      cases hx4 : (x.kind == 4) with
      | false =>
        rw [hx4, Bool.false_and, Bool.false_or] at hr
        simp (maxSteps := 4000000) only [go_sem, ↓reduceIte, reduceCtorEq, Nat.reduceEqDiff, Nat.reduceBEq, Nat.reduceAdd, Nat.reduceSub, Nat.reduceMul, Nat.reduceLT, Nat.reduceLeDiff, Nat.reduceBNe, Int.reduceBEq, Int.reduceBNe, Int.reduceLT, Int.reduceLE, Spn.a, Msg.a, Eff.a, t0, t1, t5, hlt', h3, gM hm, gM hx, List.length_map, Int.toNat_natCast]
        refine ⟨by omega, ?_⟩
        (first | refine calling (refSpan m hmo.1) ?_ | refine callingH (refSpan m hmo.1) ?_)
        simp (maxSteps := 4000000) only [go_sem, ↓reduceIte, reduceCtorEq, Nat.reduceEqDiff, Nat.reduceBEq, Nat.reduceAdd, Nat.reduceSub, Nat.reduceMul, Nat.reduceLT, Nat.reduceLeDiff, Nat.reduceBNe, Int.reduceBEq, Int.reduceBNe, Int.reduceLT, Int.reduceLE, Spn.a, Msg.a, Eff.a, t0, t1, t5, hlt', h3, gM hm, gM hx, hx4, List.length_map, Int.toNat_natCast, hw]
        refine ⟨by omega, ?_⟩
        refine ⟨l.length - (j + 1), by omega, j + 1, by omega, rfl, ?_, ?_, ?_, hr⟩ <;>
          (simp (maxSteps := 4000000) only [go_sem, ↓reduceIte, reduceCtorEq, Nat.reduceEqDiff, Nat.reduceBEq, Nat.reduceAdd, Nat.reduceSub, Nat.reduceMul, Nat.reduceLT, Nat.reduceLeDiff, Nat.reduceBNe, Int.reduceBEq, Int.reduceBNe, Int.reduceLT, Int.reduceLE, Spn.a, Msg.a, Eff.a, t0, t1, t5, hw])
      | true =>
        rw [hx4, Bool.true_and] at hr
        simp (maxSteps := 4000000) only [go_sem, ↓reduceIte, reduceCtorEq, Nat.reduceEqDiff, Nat.reduceBEq, Nat.reduceAdd, Nat.reduceSub, Nat.reduceMul, Nat.reduceLT, Nat.reduceLeDiff, Nat.reduceBNe, Int.reduceBEq, Int.reduceBNe, Int.reduceLT, Int.reduceLE, Spn.a, Msg.a, Eff.a, t0, t1, t5, hlt', h3, gM hm, gM hx, List.length_map, Int.toNat_natCast]
        refine ⟨by omega, ?_⟩
        (first | refine calling (refSpan m hmo.1) ?_ | refine callingH (refSpan m hmo.1) ?_)
        simp (maxSteps := 4000000) only [go_sem, ↓reduceIte, reduceCtorEq, Nat.reduceEqDiff, Nat.reduceBEq, Nat.reduceAdd, Nat.reduceSub, Nat.reduceMul, Nat.reduceLT, Nat.reduceLeDiff, Nat.reduceBNe, Int.reduceBEq, Int.reduceBNe, Int.reduceLT, Int.reduceLE, Spn.a, Msg.a, Eff.a, t0, t1, t5, hlt', h3, gM hm, gM hx, hx4, List.length_map, Int.toNat_natCast, hw]
        refine ⟨by omega, by omega, ?_⟩
        (first | refine calling (refSpan x hxo.1) ?_ | refine callingH (refSpan x hxo.1) ?_)
        simp (maxSteps := 4000000) only [go_sem, ↓reduceIte, reduceCtorEq, Nat.reduceEqDiff, Nat.reduceBEq, Nat.reduceAdd, Nat.reduceSub, Nat.reduceMul, Nat.reduceLT, Nat.reduceLeDiff, Nat.reduceBNe, Int.reduceBEq, Int.reduceBNe, Int.reduceLT, Int.reduceLE, Spn.a, Msg.a, Eff.a, t0, t1, t5, hlt', hx4]
        (first | refine calling (refMeet m.span x.span hmo.2.2.2 hxo.2.2.2) ?_ | refine callingH (refMeet m.span x.span hmo.2.2.2 hxo.2.2.2) ?_)
        simp (maxSteps := 4000000) only [go_sem, ↓reduceIte, reduceCtorEq, Nat.reduceEqDiff, Nat.reduceBEq, Nat.reduceAdd, Nat.reduceSub, Nat.reduceMul, Nat.reduceLT, Nat.reduceLeDiff, Nat.reduceBNe, Int.reduceBEq, Int.reduceBNe, Int.reduceLT, Int.reduceLE, Spn.a, Msg.a, Eff.a, t0, t1, t5, hlt', hx4]
        (first | refine calling (refNorm m.span hmo.2.2.2) ?_ | refine callingH (refNorm m.span hmo.2.2.2) ?_)
        have he := spn_beq (m.span.meet x.span) m.span.norm
        rw [Bool.and_true, ← within_eq] at he
        cases hp : m.span.within x.span with
        | true =>
          rw [hp, Bool.true_or] at hr
          rw [hp] at he
          simp (maxSteps := 4000000) only [go_sem, ↓reduceIte, reduceCtorEq, Nat.reduceEqDiff, Nat.reduceBEq, Nat.reduceAdd, Nat.reduceSub, Nat.reduceMul, Nat.reduceLT, Nat.reduceLeDiff, Nat.reduceBNe, Int.reduceBEq, Int.reduceBNe, Int.reduceLT, Int.reduceLE, Spn.a, Msg.a, Eff.a, t0, t1, t5, hx4, he]
          exact hr.symm
        | false =>
          rw [hp, Bool.false_or] at hr
          rw [hp] at he
          simp (maxSteps := 4000000) only [go_sem, ↓reduceIte, reduceCtorEq, Nat.reduceEqDiff, Nat.reduceBEq, Nat.reduceAdd, Nat.reduceSub, Nat.reduceMul, Nat.reduceLT, Nat.reduceLeDiff, Nat.reduceBNe, Int.reduceBEq, Int.reduceBNe, Int.reduceLT, Int.reduceLE, Spn.a, Msg.a, Eff.a, t0, t1, t5, hx4, he, hw]
          refine ⟨l.length - (j + 1), by omega, j + 1, by omega, rfl, ?_, ?_, ?_, hr⟩ <;>
            (simp (maxSteps := 4000000) only [go_sem, ↓reduceIte, reduceCtorEq, Nat.reduceEqDiff, Nat.reduceBEq, Nat.reduceAdd, Nat.reduceSub, Nat.reduceMul, Nat.reduceLT, Nat.reduceLeDiff, Nat.reduceBNe, Int.reduceBEq, Int.reduceBNe, Int.reduceLT, Int.reduceLE, Spn.a, Msg.a, Eff.a, t0, t1, t5, hw])
    · have hlt' : ¬ (j : Int) < (l.length : Int) := by omega
      rw [List.drop_eq_nil_of_le (by omega), List.any_nil] at hr
      simp (maxSteps := 4000000) only [go_sem, ↓reduceIte, reduceCtorEq, Nat.reduceEqDiff, Nat.reduceBEq, Nat.reduceAdd, Nat.reduceSub, Nat.reduceMul, Nat.reduceLT, Nat.reduceLeDiff, Nat.reduceBNe, Int.reduceBEq, Int.reduceBNe, Int.reduceLT, Int.reduceLE, Spn.a, Msg.a, Eff.a, t0, t1, t5, hlt', List.length_map]
      exact hr.symm
  | false =>
    have h' : m.kind ≠ 4 := by simpa using h
    simp (maxSteps := 4000000) only [go_sem, ↓reduceIte, reduceCtorEq, Nat.reduceEqDiff, Nat.reduceBEq, Nat.reduceAdd, Nat.reduceSub, Nat.reduceMul, Nat.reduceLT, Nat.reduceLeDiff, Nat.reduceBNe, Int.reduceBEq, Int.reduceBNe, Int.reduceLT, Int.reduceLE, Spn.a, Msg.a, Eff.a, h, hw0, h3, gM hm, List.length_map, Int.toNat_natCast]
    refine ⟨by omega, ?_⟩
    (first | refine calling (ref49Next l i hl hi) ?_ | refine callingH (ref49Next l i hl hi) ?_)
    cases hn : nextOf l i with
    | none =>
      have h0 : ¬ ((0 : Int) ≤ -1) := by omega
      simp (maxSteps := 4000000) only [go_sem, ↓reduceIte, reduceCtorEq, Nat.reduceEqDiff, Nat.reduceBEq, Nat.reduceAdd, Nat.reduceSub, Nat.reduceMul, Nat.reduceLT, Nat.reduceLeDiff, Nat.reduceBNe, Int.reduceBEq, Int.reduceBNe, Int.reduceLT, Int.reduceLE, Spn.a, Msg.a, Eff.a, ansR, h0]
      simp [dead, hm, h', hn]
    | some j =>
      obtain ⟨hij, x, hx⟩ := nextOf_lt hn
      have hjl := (List.getElem?_eq_some_iff.1 hx).1
      have h0 : (0 : Int) ≤ (j : Int) := by omega
      have h4 : (j : Int) < (l.length : Int) := by omega
      simp (maxSteps := 4000000) only [go_sem, ↓reduceIte, reduceCtorEq, Nat.reduceEqDiff, Nat.reduceBEq, Nat.reduceAdd, Nat.reduceSub, Nat.reduceMul, Nat.reduceLT, Nat.reduceLeDiff, Nat.reduceBNe, Int.reduceBEq, Int.reduceBNe, Int.reduceLT, Int.reduceLE, Spn.a, Msg.a, Eff.a, ansR, h0, h4, gM hx, List.length_map, Int.toNat_natCast]
      simp [dead, hm, h', hn, hx]
end Go.Proofs.Ytdjkefndigijjaa
