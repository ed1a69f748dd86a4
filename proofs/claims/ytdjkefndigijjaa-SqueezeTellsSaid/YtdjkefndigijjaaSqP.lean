/-
  The law SqueezeTells on the plain machine.
-/
import Derived.Test.YtdjkefndigijjaaSqO
namespace Go.Proofs.Ytdjkefndigijjaa
open Go.RowKit
set_option linter.unusedVariables false
set_option linter.unusedSimpArgs false
set_option maxRecDepth 100000
attribute [local go_sem ↓] runOp headOp
attribute [local go_sem] ev0 ev1 ev2 ev3 evA stHOk.eq_1 stHOk.eq_2 stHSt.eq_1 stHSt.eq_2 okV valV fzV okF valF okBld valBld mxOk.eq_1 mxOk.eq_2 mxVal.eq_1 mxVal.eq_2 cellFit.eq_1 cellFit.eq_2 cellFit.eq_3 cellEq.eq_1 cellEq.eq_2 cellEq.eq_3 upd_at AV.flatB AV.flatBs binIok binIV binSok binSV cellsOk.eq_1 cellsOk.eq_2 cellsVal.eq_1 cellsVal.eq_2 objCells.eq_1 objCells.eq_2 objZ.eq_1 objZ.eq_2 objProt.eq_1 objProt.eq_2 oneObj ptrOk.eq_1 ptrOk.eq_2 ptrOk.eq_3 ptrCells.eq_1 ptrCells.eq_2 ptrCells.eq_3 lenOk.eq_1 lenOk.eq_2 lenOk.eq_3 lenOk.eq_4 lenVal.eq_1 lenVal.eq_2 lenVal.eq_3 lenVal.eq_4 faOk.eq_1 faOk.eq_2 faOk.eq_3 faVal.eq_1 faVal.eq_2 faVal.eq_3 iaOk.eq_1 iaOk.eq_2 iaOk.eq_3 iaVal.eq_1 iaVal.eq_2 iaVal.eq_3 slcLen.eq_1 slcLen.eq_2 slcLen.eq_3 slcLen.eq_4 bdOk.eq_1 bdOk.eq_2 bdVal.eq_1 bdVal.eq_2 slcOk.eq_1 slcOk.eq_2 slcOk.eq_3 slcOk.eq_4 slcVal.eq_1 slcVal.eq_2 slcVal.eq_3 slcVal.eq_4 slcFz.eq_1 slcFz.eq_2 byOk.eq_1 byOk.eq_2 byOk.eq_3 byOk.eq_4 byOk.eq_5 byVal.eq_1 byVal.eq_2 byVal.eq_3 byFz.eq_1 byFz.eq_2 byFz.eq_3 byOks byVals byFzs allOne resSt.eq_1 resSt.eq_2 resName.eq_1 resName.eq_2 stOk.eq_1 stOk.eq_2 stArr.eq_1 stArr.eq_2 stSt.eq_1 stSt.eq_2 AV.patch nameOk_none gB.eq_1 gB.eq_2 gB.eq_3 gIs.eq_1 gIs.eq_2 gIs.eq_3 retV resV resVs evalV cellsV St.byval List.getD_cons_zero List.getD_cons_succ List.getD_nil List.map_cons List.map_nil List.length_cons List.length_nil List.take_succ_cons List.take_zero List.drop_succ_cons List.drop_zero List.headD_cons List.set_cons_zero List.append_nil List.nil_append List.cons_append List.contains_cons List.contains_nil List.elem_cons List.elem_nil List.all_cons List.all_nil List.getElem?_cons_zero List.getElem?_cons_succ List.filterMap_cons List.filterMap_nil Option.isSome_some Option.isSome_none Option.map_some Option.map_none Option.some.injEq AV.int.injEq AV.bool.injEq AV.str.injEq AV.tup.injEq AV.agg.injEq AV.sl.injEq List.cons.injEq Bool.false_eq_true Bool.true_eq_false Bool.not_true Bool.not_false Bool.and_true Bool.true_and Bool.or_false Bool.or_true Bool.false_or Bool.true_or Bool.or_self Bool.and_self Bool.not_eq_true' Bool.not_eq_false' Bool.not_not beq_self_eq_true true_and and_true false_and and_false and_self not_true_eq_false not_false_eq_true forall_const true_implies false_implies implies_true imp_self Nat.lt_add_one Nat.le_refl Nat.zero_le Nat.add_zero Nat.zero_add decide_true decide_false decide_eq_true_eq decide_eq_false_iff_not exists_eq_left exists_eq_left' ge_iff_le gt_iff_lt ite_branch ite_branch' nilOk.eq_1 nilOk.eq_2 nilMay.eq_1 nilMay.eq_2 AV.isSl.eq_1 objTy'.eq_1 objTy'.eq_2 apSt.eq_1 apArr.eq_1 apArr.eq_2 slOf.eq_1 fitsV List.mem_cons List.not_mem_nil Bool.false_and Bool.and_false
attribute [local go_sem ↓] ir_sqDead
attribute [local go_sem] res_sqDead e_sqDead_0 e_sqDead_1 e_sqDead_2 e_sqDead_3 e_sqDead_4 e_sqDead_5 e_sqDead_6

/-! ### percolate/squeeze.Keys -/
def r_keys_0 : Reg := ⟨[], [⟨(.mknil 1 9), (some 2), none, [], []⟩], [2], [], false⟩
def r_keys_1 : Reg := ⟨[], [⟨(.mknil 1 9), (some 3), none, [], []⟩], [3], [], false⟩
def r_keys_2 : Reg := ⟨[], [⟨(.mv (.t 0)), (some 6), none, [], []⟩, ⟨(.len false (.t 6)), (some 7), none, [], []⟩, ⟨(.mv (.c (.int .i64 0))), (some 8), none, [], []⟩], [], [], false⟩
def r_keys_3 : Reg := ⟨[], [⟨(.bin .lss (.t 8) (.t 7)), (some 9), none, [], []⟩], [], [], false⟩
def r_keys_4 : Reg := ⟨[], [⟨(.iaddr 6 (.t 6) (.t 8)), (some 10), none, [5], []⟩, ⟨(.load 6 true (.t 10)), (some 11), none, [5], []⟩, ⟨(.alloc 6 55 (.agg [(.int .i64 0), (.int .i64 0), (.str ⟨#[]⟩), (.str ⟨#[]⟩), (.bool false), (.str ⟨#[]⟩)])), (some 5), none, [], []⟩, ⟨(.store 6 (.t 5) (.t 11)), none, none, [], []⟩], [5], [], false⟩
def r_keys_5 : Reg := ⟨[], [⟨(.faddr 1 (.t 5)), (some 12), none, [], []⟩, ⟨(.load 1 false (.t 12)), (some 13), none, [], []⟩, ⟨(.bin .neq (.t 13) (.c (.int .i64 4))), (some 14), none, [], []⟩], [], [], false⟩
def r_keys_6 : Reg := ⟨[], [⟨(.mv (.t 3)), (some 15), none, [18], []⟩, ⟨(.faddr 2 (.t 5)), (some 16), none, [18], []⟩, ⟨(.load 1 false (.t 16)), (some 17), none, [18], []⟩, ⟨(.bsl 1 9 [(.t 17)]), (some 18), none, [], []⟩, ⟨(.append 1 9 16 (.t 15) (.t 18)), (some 19), none, [], []⟩, ⟨(.mv (.t 19)), (some 3), none, [], []⟩], [18], [], false⟩
def r_keys_7 : Reg := ⟨[], [⟨(.bin .add (.t 8) (.c (.int .i64 1))), (some 20), none, [], []⟩, ⟨(.mv (.t 20)), (some 8), none, [], []⟩], [], [], false⟩
def r_keys_l8 : IR := (.seq (.reg r_keys_3)
  (.seq (.cond (.t 9) .skip
  (.exit 0))
  (.seq (.block 1 (.seq (.reg r_keys_4)
  (.seq (.reg r_keys_5)
  (.cond (.t 14) (.reg r_keys_6)
  .skip))))
  (.reg r_keys_7))))
def r_keys_9 : Reg := ⟨[], [⟨(.mv (.t 3)), (some 21), none, [22], []⟩, ⟨(.callv (.c (.clo 56 [] [])) [(.t 21)]), (some 22), none, [], []⟩, ⟨(.mv (.t 22)), (some 2), none, [], []⟩], [22], [], false⟩
def ir_keys : IR := (.seq (.reg r_keys_0)
  (.seq (.reg r_keys_1)
  (.seq (.seq (.reg r_keys_2)
  (.block 0 (.loop r_keys_l8)))
  (.seq (.reg r_keys_9)
  .ret))))
def res_keys : List RDesc := [(.tmp 2)]
theorem e_keys_0 (C : FuncId → List AV → AV → Prop) (σ : St) (K : St → Prop) : runReg C r_keys_0 σ K = runOps C [⟨(.mknil 1 9), (some 2), none, [], []⟩] (σ.kills [2]) K := rfl
theorem e_keys_1 (C : FuncId → List AV → AV → Prop) (σ : St) (K : St → Prop) : runReg C r_keys_1 σ K = runOps C [⟨(.mknil 1 9), (some 3), none, [], []⟩] (σ.kills [3]) K := rfl
theorem e_keys_2 (C : FuncId → List AV → AV → Prop) (σ : St) (K : St → Prop) : runReg C r_keys_2 σ K = runOps C [⟨(.mv (.t 0)), (some 6), none, [], []⟩, ⟨(.len false (.t 6)), (some 7), none, [], []⟩, ⟨(.mv (.c (.int .i64 0))), (some 8), none, [], []⟩] (σ.kills []) K := rfl
theorem e_keys_3 (C : FuncId → List AV → AV → Prop) (σ : St) (K : St → Prop) : runReg C r_keys_3 σ K = runOps C [⟨(.bin .lss (.t 8) (.t 7)), (some 9), none, [], []⟩] (σ.kills []) K := rfl
theorem e_keys_4 (C : FuncId → List AV → AV → Prop) (σ : St) (K : St → Prop) : runReg C r_keys_4 σ K = runOps C [⟨(.iaddr 6 (.t 6) (.t 8)), (some 10), none, [5], []⟩, ⟨(.load 6 true (.t 10)), (some 11), none, [5], []⟩, ⟨(.alloc 6 55 (.agg [(.int .i64 0), (.int .i64 0), (.str ⟨#[]⟩), (.str ⟨#[]⟩), (.bool false), (.str ⟨#[]⟩)])), (some 5), none, [], []⟩, ⟨(.store 6 (.t 5) (.t 11)), none, none, [], []⟩] (σ.kills [5]) K := rfl
theorem e_keys_5 (C : FuncId → List AV → AV → Prop) (σ : St) (K : St → Prop) : runReg C r_keys_5 σ K = runOps C [⟨(.faddr 1 (.t 5)), (some 12), none, [], []⟩, ⟨(.load 1 false (.t 12)), (some 13), none, [], []⟩, ⟨(.bin .neq (.t 13) (.c (.int .i64 4))), (some 14), none, [], []⟩] (σ.kills []) K := rfl
theorem e_keys_6 (C : FuncId → List AV → AV → Prop) (σ : St) (K : St → Prop) : runReg C r_keys_6 σ K = runOps C [⟨(.mv (.t 3)), (some 15), none, [18], []⟩, ⟨(.faddr 2 (.t 5)), (some 16), none, [18], []⟩, ⟨(.load 1 false (.t 16)), (some 17), none, [18], []⟩, ⟨(.bsl 1 9 [(.t 17)]), (some 18), none, [], []⟩, ⟨(.append 1 9 16 (.t 15) (.t 18)), (some 19), none, [], []⟩, ⟨(.mv (.t 19)), (some 3), none, [], []⟩] (σ.kills [18]) K := rfl
theorem e_keys_7 (C : FuncId → List AV → AV → Prop) (σ : St) (K : St → Prop) : runReg C r_keys_7 σ K = runOps C [⟨(.bin .add (.t 8) (.c (.int .i64 1))), (some 20), none, [], []⟩, ⟨(.mv (.t 20)), (some 8), none, [], []⟩] (σ.kills []) K := rfl
theorem e_keys_9 (C : FuncId → List AV → AV → Prop) (σ : St) (K : St → Prop) : runReg C r_keys_9 σ K = runOps C [⟨(.mv (.t 3)), (some 21), none, [22], []⟩, ⟨(.callv (.c (.clo 56 [] [])) [(.t 21)]), (some 22), none, [], []⟩, ⟨(.mv (.t 22)), (some 2), none, [], []⟩] (σ.kills [22]) K := rfl
theorem fn_keys {args : List AV} {r : AV} (ha : args.length.ble Try.f65.ntmps = true) (h : run (AFn Try.prog) ir_keys (endQ res_keys r) (initSt args)) : AFn Try.prog 65 args r :=
  AFn.of_code (hint := fun _ => []) (c := Try.f65.body.getD .skip) (by kernel_rfl) (by kernel_rfl) Try.func65 (by kernel_rfl) (by kernel_rfl) (by kernel_rfl) (of_decide_eq_true (by kernel_rfl)) (Nat.le_of_ble_eq_true ha) (run_ok h)

/-! ### percolate/percolateref01.Same -/
def r_rSameS_0 : Reg := ⟨[], [⟨(.mv (.c (.bool false))), (some 4), none, [], []⟩], [], [], false⟩
def r_rSameS_1 : Reg := ⟨[], [⟨(.mv (.t 0)), (some 6), none, [], []⟩, ⟨(.len false (.t 6)), (some 7), none, [], []⟩, ⟨(.mv (.t 1)), (some 8), none, [], []⟩, ⟨(.len false (.t 8)), (some 9), none, [], []⟩, ⟨(.bin .neq (.t 7) (.t 9)), (some 10), none, [], []⟩], [], [], false⟩
def r_rSameS_2 : Reg := ⟨[], [⟨(.mv (.c (.bool false))), (some 4), none, [], []⟩], [], [], false⟩
def r_rSameS_3 : Reg := ⟨[], [⟨(.mv (.c (.int .i64 0))), (some 5), none, [], []⟩], [], [], false⟩
def r_rSameS_4 : Reg := ⟨[], [⟨(.mv (.t 5)), (some 11), none, [], []⟩, ⟨(.mv (.t 0)), (some 12), none, [], []⟩, ⟨(.len false (.t 12)), (some 13), none, [], []⟩, ⟨(.bin .lss (.t 11) (.t 13)), (some 14), none, [], []⟩], [], [], false⟩
def r_rSameS_5 : Reg := ⟨[⟨(.mv (.t 0)), (some 17), none, [], []⟩, ⟨(.mv (.t 5)), (some 18), none, [], []⟩, ⟨(.iaddr 1 (.t 17) (.t 18)), (some 19), none, [], []⟩, ⟨(.load 1 false (.t 19)), (some 20), none, [], []⟩, ⟨(.mv (.t 1)), (some 21), none, [], []⟩, ⟨(.mv (.t 5)), (some 22), none, [], []⟩, ⟨(.iaddr 1 (.t 21) (.t 22)), (some 23), none, [], []⟩, ⟨(.load 1 false (.t 23)), (some 24), none, [], []⟩], [⟨(.bin .neq (.t 20) (.t 24)), (some 25), none, [], []⟩], [], [], true⟩
def r_rSameS_6 : Reg := ⟨[], [⟨(.mv (.c (.bool false))), (some 4), none, [], []⟩], [], [], false⟩
def r_rSameS_7 : Reg := ⟨[], [⟨(.mv (.t 5)), (some 15), none, [], []⟩, ⟨(.bin .add (.t 15) (.c (.int .i64 1))), (some 16), none, [], []⟩, ⟨(.mv (.t 16)), (some 5), none, [], []⟩], [], [], false⟩
def r_rSameS_l8 : IR := (.seq (.seq (.reg r_rSameS_4)
  (.cond (.t 14) .skip
  (.exit 0)))
  (.seq (.block 1 (.seq (.reg r_rSameS_5)
  (.cond (.t 25) (.seq (.reg r_rSameS_6)
  .ret)
  .skip)))
  (.reg r_rSameS_7)))
def r_rSameS_9 : Reg := ⟨[], [⟨(.mv (.c (.bool true))), (some 4), none, [], []⟩], [], [], false⟩
def ir_rSameS : IR := (.seq (.reg r_rSameS_0)
  (.seq (.seq (.reg r_rSameS_1)
  (.cond (.t 10) (.seq (.reg r_rSameS_2)
  .ret)
  .skip))
  (.seq (.seq (.reg r_rSameS_3)
  (.block 0 (.loop r_rSameS_l8)))
  (.seq (.reg r_rSameS_9)
  .ret))))
def res_rSameS : List RDesc := [(.tmp 4)]
theorem e_rSameS_0 (C : FuncId → List AV → AV → Prop) (σ : St) (K : St → Prop) : runReg C r_rSameS_0 σ K = runOps C [⟨(.mv (.c (.bool false))), (some 4), none, [], []⟩] (σ.kills []) K := rfl
theorem e_rSameS_1 (C : FuncId → List AV → AV → Prop) (σ : St) (K : St → Prop) : runReg C r_rSameS_1 σ K = runOps C [⟨(.mv (.t 0)), (some 6), none, [], []⟩, ⟨(.len false (.t 6)), (some 7), none, [], []⟩, ⟨(.mv (.t 1)), (some 8), none, [], []⟩, ⟨(.len false (.t 8)), (some 9), none, [], []⟩, ⟨(.bin .neq (.t 7) (.t 9)), (some 10), none, [], []⟩] (σ.kills []) K := rfl
theorem e_rSameS_2 (C : FuncId → List AV → AV → Prop) (σ : St) (K : St → Prop) : runReg C r_rSameS_2 σ K = runOps C [⟨(.mv (.c (.bool false))), (some 4), none, [], []⟩] (σ.kills []) K := rfl
theorem e_rSameS_3 (C : FuncId → List AV → AV → Prop) (σ : St) (K : St → Prop) : runReg C r_rSameS_3 σ K = runOps C [⟨(.mv (.c (.int .i64 0))), (some 5), none, [], []⟩] (σ.kills []) K := rfl
theorem e_rSameS_4 (C : FuncId → List AV → AV → Prop) (σ : St) (K : St → Prop) : runReg C r_rSameS_4 σ K = runOps C [⟨(.mv (.t 5)), (some 11), none, [], []⟩, ⟨(.mv (.t 0)), (some 12), none, [], []⟩, ⟨(.len false (.t 12)), (some 13), none, [], []⟩, ⟨(.bin .lss (.t 11) (.t 13)), (some 14), none, [], []⟩] (σ.kills []) K := rfl
theorem e_rSameS_5 (C : FuncId → List AV → AV → Prop) (σ : St) (K : St → Prop) : runReg C r_rSameS_5 σ K = runHead C [] [⟨(.bin .neq (.t 20) (.t 24)), (some 25), none, [], []⟩] [⟨(.mv (.t 0)), (some 17), none, [], []⟩, ⟨(.mv (.t 5)), (some 18), none, [], []⟩, ⟨(.iaddr 1 (.t 17) (.t 18)), (some 19), none, [], []⟩, ⟨(.load 1 false (.t 19)), (some 20), none, [], []⟩, ⟨(.mv (.t 1)), (some 21), none, [], []⟩, ⟨(.mv (.t 5)), (some 22), none, [], []⟩, ⟨(.iaddr 1 (.t 21) (.t 22)), (some 23), none, [], []⟩, ⟨(.load 1 false (.t 23)), (some 24), none, [], []⟩] (σ.kills []) K := rfl
theorem e_rSameS_6 (C : FuncId → List AV → AV → Prop) (σ : St) (K : St → Prop) : runReg C r_rSameS_6 σ K = runOps C [⟨(.mv (.c (.bool false))), (some 4), none, [], []⟩] (σ.kills []) K := rfl
theorem e_rSameS_7 (C : FuncId → List AV → AV → Prop) (σ : St) (K : St → Prop) : runReg C r_rSameS_7 σ K = runOps C [⟨(.mv (.t 5)), (some 15), none, [], []⟩, ⟨(.bin .add (.t 15) (.c (.int .i64 1))), (some 16), none, [], []⟩, ⟨(.mv (.t 16)), (some 5), none, [], []⟩] (σ.kills []) K := rfl
theorem e_rSameS_9 (C : FuncId → List AV → AV → Prop) (σ : St) (K : St → Prop) : runReg C r_rSameS_9 σ K = runOps C [⟨(.mv (.c (.bool true))), (some 4), none, [], []⟩] (σ.kills []) K := rfl
theorem fn_rSameS {args : List AV} {r : AV} (ha : args.length.ble Try.f59.ntmps = true) (h : run (AFn Try.prog) ir_rSameS (endQ res_rSameS r) (initSt args)) : AFn Try.prog 59 args r :=
  AFn.of_code (hint := fun _ => []) (c := Try.f59.body.getD .skip) (by kernel_rfl) (by kernel_rfl) Try.func59 (by kernel_rfl) (by kernel_rfl) (by kernel_rfl) (of_decide_eq_true (by kernel_rfl)) (Nat.le_of_ble_eq_true ha) (run_ok h)

/-! ### percolate/percolatelaw49.SqueezeTells -/
def r_tells_0 : Reg := ⟨[], [⟨(.mv (.c (.bool false))), (some 4), none, [], []⟩], [], [], false⟩
def r_tells_1 : Reg := ⟨[], [⟨(.mv (.t 0)), (some 12), none, [13, 17], []⟩, ⟨(.callv (.c (.clo 26 [] [])) [(.t 12), (.c (.int .i64 2000))]), (some 13), none, [17], []⟩, ⟨(.un .not (.t 13)), (some 14), none, [17], []⟩, ⟨(.mv (.t 14)), (some 15), none, [17], []⟩, ⟨(.mv (.t 0)), (some 16), (some (15, false)), [17], []⟩, ⟨(.callv (.c (.clo 27 [] [])) [(.t 16)]), (some 17), (some (15, false)), [], []⟩, ⟨(.un .not (.t 17)), (some 18), (some (15, false)), [], []⟩, ⟨(.pick (.t 15) (.c (.bool true)) (.t 18)), (some 19), none, [], []⟩], [13, 17], [], false⟩
def r_tells_2 : Reg := ⟨[], [⟨(.callv (.c (.clo 28 [] [])) []), (some 20), none, [], []⟩, ⟨(.mv (.t 20)), (some 4), none, [], []⟩], [20], [], false⟩
def r_tells_3 : Reg := ⟨[], [⟨(.mv (.t 0)), (some 22), none, [24], []⟩, ⟨(.mv (.t 1)), (some 23), none, [24], []⟩, ⟨(.callv (.c (.clo 61 [] [])) [(.t 22), (.t 23)]), (some 24), none, [], []⟩, ⟨(.mv (.t 24)), (some 21), none, [], []⟩, ⟨(.ext 0 (.t 21)), (some 25), none, [], []⟩, ⟨(.ext 1 (.t 21)), (some 26), none, [], []⟩, ⟨(.mv (.t 25)), (some 5), none, [], []⟩, ⟨(.mv (.t 26)), (some 6), none, [], []⟩], [24], [], false⟩
def r_tells_4 : Reg := ⟨[], [⟨(.mv (.c (.int .i64 (-1)))), (some 7), none, [], []⟩], [], [], false⟩
def r_tells_5 : Reg := ⟨[], [⟨(.mv (.c (.bool false))), (some 8), none, [], []⟩], [], [], false⟩
def r_tells_6 : Reg := ⟨[], [⟨(.mv (.t 1)), (some 27), none, [], []⟩, ⟨(.bin .geq (.t 27) (.c (.int .i64 0))), (some 28), none, [], []⟩, ⟨(.mv (.t 28)), (some 29), none, [], []⟩, ⟨(.mv (.t 1)), (some 30), (some (29, true)), [], []⟩, ⟨(.mv (.t 0)), (some 31), (some (29, true)), [], []⟩, ⟨(.len false (.t 31)), (some 32), (some (29, true)), [], []⟩, ⟨(.bin .lss (.t 30) (.t 32)), (some 33), (some (29, true)), [], []⟩, ⟨(.pick (.t 29) (.t 33) (.c (.bool false))), (some 34), none, [], []⟩], [], [], false⟩
def r_tells_7 : Reg := ⟨[], [⟨(.mv (.t 0)), (some 35), none, [37], []⟩, ⟨(.mv (.t 1)), (some 36), none, [37], []⟩, ⟨(.callv (.c (.clo 62 [] [])) [(.t 35), (.t 36)]), (some 37), none, [], []⟩, ⟨(.mv (.t 37)), (some 7), none, [], []⟩], [37], [], false⟩
def r_tells_8 : Reg := ⟨[], [⟨(.mv (.t 0)), (some 38), none, [40], []⟩, ⟨(.mv (.t 1)), (some 39), none, [40], []⟩, ⟨(.callv (.c (.clo 63 [] [])) [(.t 38), (.t 39)]), (some 40), none, [], []⟩, ⟨(.mv (.t 40)), (some 8), none, [], []⟩], [40], [], false⟩
def r_tells_9 : Reg := ⟨[], [⟨(.mknil 1 9), (some 9), none, [], []⟩], [9], [], false⟩
def r_tells_10 : Reg := ⟨[], [⟨(.mv (.t 0)), (some 41), none, [], []⟩, ⟨(.len false (.t 41)), (some 42), none, [], []⟩, ⟨(.mv (.c (.int .i64 0))), (some 43), none, [], []⟩], [], [], false⟩
def r_tells_11 : Reg := ⟨[], [⟨(.bin .lss (.t 43) (.t 42)), (some 44), none, [], []⟩], [], [], false⟩
def r_tells_12 : Reg := ⟨[], [⟨(.iaddr 6 (.t 41) (.t 43)), (some 45), none, [11], []⟩, ⟨(.load 6 true (.t 45)), (some 46), none, [11], []⟩, ⟨(.alloc 6 55 (.agg [(.int .i64 0), (.int .i64 0), (.str ⟨#[]⟩), (.str ⟨#[]⟩), (.bool false), (.str ⟨#[]⟩)])), (some 11), none, [], []⟩, ⟨(.store 6 (.t 11) (.t 46)), none, none, [], []⟩], [11], [], false⟩
def r_tells_13 : Reg := ⟨[], [⟨(.faddr 1 (.t 11)), (some 47), none, [], []⟩, ⟨(.load 1 false (.t 47)), (some 48), none, [], []⟩, ⟨(.bin .neq (.t 48) (.c (.int .i64 4))), (some 49), none, [], []⟩], [], [], false⟩
def r_tells_14 : Reg := ⟨[], [⟨(.mv (.t 9)), (some 50), none, [53], []⟩, ⟨(.faddr 2 (.t 11)), (some 51), none, [53], []⟩, ⟨(.load 1 false (.t 51)), (some 52), none, [53], []⟩, ⟨(.bsl 1 9 [(.t 52)]), (some 53), none, [], []⟩, ⟨(.append 1 9 16 (.t 50) (.t 53)), (some 54), none, [], []⟩, ⟨(.mv (.t 54)), (some 9), none, [], []⟩], [53], [], false⟩
def r_tells_15 : Reg := ⟨[], [⟨(.bin .add (.t 43) (.c (.int .i64 1))), (some 55), none, [], []⟩, ⟨(.mv (.t 55)), (some 43), none, [], []⟩], [], [], false⟩
def r_tells_l16 : IR := (.seq (.reg r_tells_11)
  (.seq (.cond (.t 44) .skip
  (.exit 0))
  (.seq (.block 1 (.seq (.reg r_tells_12)
  (.seq (.reg r_tells_13)
  (.cond (.t 49) (.reg r_tells_14)
  .skip))))
  (.reg r_tells_15))))
def r_tells_17 : Reg := ⟨[], [⟨(.mv (.t 6)), (some 56), none, [79, 85, 87, 88, 91], []⟩, ⟨(.mv (.t 7)), (some 57), none, [79, 85, 87, 88, 91], []⟩, ⟨(.bin .geq (.t 57) (.c (.int .i64 0))), (some 58), none, [79, 85, 87, 88, 91], []⟩, ⟨(.beq false (.t 56) (.t 58)), (some 59), none, [79, 85, 87, 88, 91], []⟩, ⟨(.mv (.t 59)), (some 60), none, [79, 85, 87, 88, 91], []⟩, ⟨(.mv (.t 6)), (some 61), (some (60, true)), [79, 85, 87, 88, 91], []⟩, ⟨(.mv (.t 61)), (some 62), (some (60, true)), [79, 85, 87, 88, 91], []⟩, ⟨(.mv (.t 5)), (some 63), (some (62, true)), [79, 85, 87, 88, 91], []⟩, ⟨(.mv (.t 7)), (some 64), (some (62, true)), [79, 85, 87, 88, 91], []⟩, ⟨(.bin .eql (.t 63) (.t 64)), (some 65), (some (62, true)), [79, 85, 87, 88, 91], []⟩, ⟨(.pick (.t 62) (.t 65) (.c (.bool false))), (some 66), (some (60, true)), [79, 85, 87, 88, 91], []⟩, ⟨(.mv (.t 66)), (some 67), (some (60, true)), [79, 85, 87, 88, 91], []⟩, ⟨(.mv (.t 6)), (some 68), (some (67, false)), [79, 85, 87, 88, 91], []⟩, ⟨(.un .not (.t 68)), (some 69), (some (67, false)), [79, 85, 87, 88, 91], []⟩, ⟨(.mv (.t 69)), (some 70), (some (67, false)), [79, 85, 87, 88, 91], []⟩, ⟨(.mv (.t 5)), (some 71), (some (70, true)), [79, 85, 87, 88, 91], []⟩, ⟨(.bin .eql (.t 71) (.c (.int .i64 0))), (some 72), (some (70, true)), [79, 85, 87, 88, 91], []⟩, ⟨(.pick (.t 70) (.t 72) (.c (.bool false))), (some 73), (some (67, false)), [79, 85, 87, 88, 91], []⟩, ⟨(.pick (.t 67) (.c (.bool true)) (.t 73)), (some 74), (some (60, true)), [79, 85, 87, 88, 91], []⟩, ⟨(.pick (.t 60) (.t 74) (.c (.bool false))), (some 75), none, [79, 85, 87, 88, 91], []⟩, ⟨(.mv (.t 75)), (some 76), none, [79, 85, 87, 88, 91], []⟩, ⟨(.mv (.t 0)), (some 77), (some (76, true)), [79, 85, 87, 88, 91], []⟩, ⟨(.mv (.t 1)), (some 78), (some (76, true)), [79, 85, 87, 88, 91], []⟩, ⟨(.callv (.c (.clo 64 [] [])) [(.t 77), (.t 78)]), (some 79), (some (76, true)), [85, 87, 88, 91], []⟩, ⟨(.mv (.t 8)), (some 80), (some (76, true)), [85, 87, 88, 91], []⟩, ⟨(.beq false (.t 79) (.t 80)), (some 81), (some (76, true)), [85, 87, 88, 91], []⟩, ⟨(.pick (.t 76) (.t 81) (.c (.bool false))), (some 82), none, [85, 87, 88, 91], []⟩, ⟨(.mv (.t 82)), (some 83), none, [85, 87, 88, 91], []⟩, ⟨(.mv (.t 0)), (some 84), (some (83, true)), [85, 87, 88, 91], []⟩, ⟨(.callv (.c (.clo 65 [] [])) [(.t 84)]), (some 85), (some (83, true)), [87, 88, 91], []⟩, ⟨(.mv (.t 9)), (some 86), (some (83, true)), [87, 88, 91], []⟩, ⟨(.callv (.c (.clo 60 [] [])) [(.t 86)]), (some 87), (some (83, true)), [88, 91], []⟩, ⟨(.callv (.c (.clo 59 [] [])) [(.t 85), (.t 87)]), (some 88), (some (83, true)), [91], []⟩, ⟨(.pick (.t 83) (.t 88) (.c (.bool false))), (some 89), none, [91], []⟩, ⟨(.mv (.t 89)), (some 90), none, [91], []⟩, ⟨(.callv (.c (.clo 28 [] [])) []), (some 91), (some (90, true)), [], []⟩, ⟨(.pick (.t 90) (.t 91) (.c (.bool false))), (some 92), none, [], []⟩, ⟨(.mv (.t 92)), (some 4), none, [], []⟩], [79, 85, 87, 88, 91], [], false⟩
def ir_tells : IR := (.seq (.reg r_tells_0)
  (.seq (.seq (.reg r_tells_1)
  (.cond (.t 19) (.seq (.reg r_tells_2)
  .ret)
  .skip))
  (.seq (.reg r_tells_3)
  (.seq (.reg r_tells_4)
  (.seq (.reg r_tells_5)
  (.seq (.seq (.reg r_tells_6)
  (.cond (.t 34) (.seq (.reg r_tells_7)
  (.reg r_tells_8))
  .skip))
  (.seq (.reg r_tells_9)
  (.seq (.seq (.reg r_tells_10)
  (.block 0 (.loop r_tells_l16)))
  (.seq (.reg r_tells_17)
  .ret)))))))))
def res_tells : List RDesc := [(.tmp 4)]
theorem e_tells_0 (C : FuncId → List AV → AV → Prop) (σ : St) (K : St → Prop) : runReg C r_tells_0 σ K = runOps C [⟨(.mv (.c (.bool false))), (some 4), none, [], []⟩] (σ.kills []) K := rfl
theorem e_tells_1 (C : FuncId → List AV → AV → Prop) (σ : St) (K : St → Prop) : runReg C r_tells_1 σ K = runOps C [⟨(.mv (.t 0)), (some 12), none, [13, 17], []⟩, ⟨(.callv (.c (.clo 26 [] [])) [(.t 12), (.c (.int .i64 2000))]), (some 13), none, [17], []⟩, ⟨(.un .not (.t 13)), (some 14), none, [17], []⟩, ⟨(.mv (.t 14)), (some 15), none, [17], []⟩, ⟨(.mv (.t 0)), (some 16), (some (15, false)), [17], []⟩, ⟨(.callv (.c (.clo 27 [] [])) [(.t 16)]), (some 17), (some (15, false)), [], []⟩, ⟨(.un .not (.t 17)), (some 18), (some (15, false)), [], []⟩, ⟨(.pick (.t 15) (.c (.bool true)) (.t 18)), (some 19), none, [], []⟩] (σ.kills [13, 17]) K := rfl
theorem e_tells_2 (C : FuncId → List AV → AV → Prop) (σ : St) (K : St → Prop) : runReg C r_tells_2 σ K = runOps C [⟨(.callv (.c (.clo 28 [] [])) []), (some 20), none, [], []⟩, ⟨(.mv (.t 20)), (some 4), none, [], []⟩] (σ.kills [20]) K := rfl
theorem e_tells_3 (C : FuncId → List AV → AV → Prop) (σ : St) (K : St → Prop) : runReg C r_tells_3 σ K = runOps C [⟨(.mv (.t 0)), (some 22), none, [24], []⟩, ⟨(.mv (.t 1)), (some 23), none, [24], []⟩, ⟨(.callv (.c (.clo 61 [] [])) [(.t 22), (.t 23)]), (some 24), none, [], []⟩, ⟨(.mv (.t 24)), (some 21), none, [], []⟩, ⟨(.ext 0 (.t 21)), (some 25), none, [], []⟩, ⟨(.ext 1 (.t 21)), (some 26), none, [], []⟩, ⟨(.mv (.t 25)), (some 5), none, [], []⟩, ⟨(.mv (.t 26)), (some 6), none, [], []⟩] (σ.kills [24]) K := rfl
theorem e_tells_4 (C : FuncId → List AV → AV → Prop) (σ : St) (K : St → Prop) : runReg C r_tells_4 σ K = runOps C [⟨(.mv (.c (.int .i64 (-1)))), (some 7), none, [], []⟩] (σ.kills []) K := rfl
theorem e_tells_5 (C : FuncId → List AV → AV → Prop) (σ : St) (K : St → Prop) : runReg C r_tells_5 σ K = runOps C [⟨(.mv (.c (.bool false))), (some 8), none, [], []⟩] (σ.kills []) K := rfl
theorem e_tells_6 (C : FuncId → List AV → AV → Prop) (σ : St) (K : St → Prop) : runReg C r_tells_6 σ K = runOps C [⟨(.mv (.t 1)), (some 27), none, [], []⟩, ⟨(.bin .geq (.t 27) (.c (.int .i64 0))), (some 28), none, [], []⟩, ⟨(.mv (.t 28)), (some 29), none, [], []⟩, ⟨(.mv (.t 1)), (some 30), (some (29, true)), [], []⟩, ⟨(.mv (.t 0)), (some 31), (some (29, true)), [], []⟩, ⟨(.len false (.t 31)), (some 32), (some (29, true)), [], []⟩, ⟨(.bin .lss (.t 30) (.t 32)), (some 33), (some (29, true)), [], []⟩, ⟨(.pick (.t 29) (.t 33) (.c (.bool false))), (some 34), none, [], []⟩] (σ.kills []) K := rfl
theorem e_tells_7 (C : FuncId → List AV → AV → Prop) (σ : St) (K : St → Prop) : runReg C r_tells_7 σ K = runOps C [⟨(.mv (.t 0)), (some 35), none, [37], []⟩, ⟨(.mv (.t 1)), (some 36), none, [37], []⟩, ⟨(.callv (.c (.clo 62 [] [])) [(.t 35), (.t 36)]), (some 37), none, [], []⟩, ⟨(.mv (.t 37)), (some 7), none, [], []⟩] (σ.kills [37]) K := rfl
theorem e_tells_8 (C : FuncId → List AV → AV → Prop) (σ : St) (K : St → Prop) : runReg C r_tells_8 σ K = runOps C [⟨(.mv (.t 0)), (some 38), none, [40], []⟩, ⟨(.mv (.t 1)), (some 39), none, [40], []⟩, ⟨(.callv (.c (.clo 63 [] [])) [(.t 38), (.t 39)]), (some 40), none, [], []⟩, ⟨(.mv (.t 40)), (some 8), none, [], []⟩] (σ.kills [40]) K := rfl
theorem e_tells_9 (C : FuncId → List AV → AV → Prop) (σ : St) (K : St → Prop) : runReg C r_tells_9 σ K = runOps C [⟨(.mknil 1 9), (some 9), none, [], []⟩] (σ.kills [9]) K := rfl
theorem e_tells_10 (C : FuncId → List AV → AV → Prop) (σ : St) (K : St → Prop) : runReg C r_tells_10 σ K = runOps C [⟨(.mv (.t 0)), (some 41), none, [], []⟩, ⟨(.len false (.t 41)), (some 42), none, [], []⟩, ⟨(.mv (.c (.int .i64 0))), (some 43), none, [], []⟩] (σ.kills []) K := rfl
theorem e_tells_11 (C : FuncId → List AV → AV → Prop) (σ : St) (K : St → Prop) : runReg C r_tells_11 σ K = runOps C [⟨(.bin .lss (.t 43) (.t 42)), (some 44), none, [], []⟩] (σ.kills []) K := rfl
theorem e_tells_12 (C : FuncId → List AV → AV → Prop) (σ : St) (K : St → Prop) : runReg C r_tells_12 σ K = runOps C [⟨(.iaddr 6 (.t 41) (.t 43)), (some 45), none, [11], []⟩, ⟨(.load 6 true (.t 45)), (some 46), none, [11], []⟩, ⟨(.alloc 6 55 (.agg [(.int .i64 0), (.int .i64 0), (.str ⟨#[]⟩), (.str ⟨#[]⟩), (.bool false), (.str ⟨#[]⟩)])), (some 11), none, [], []⟩, ⟨(.store 6 (.t 11) (.t 46)), none, none, [], []⟩] (σ.kills [11]) K := rfl
theorem e_tells_13 (C : FuncId → List AV → AV → Prop) (σ : St) (K : St → Prop) : runReg C r_tells_13 σ K = runOps C [⟨(.faddr 1 (.t 11)), (some 47), none, [], []⟩, ⟨(.load 1 false (.t 47)), (some 48), none, [], []⟩, ⟨(.bin .neq (.t 48) (.c (.int .i64 4))), (some 49), none, [], []⟩] (σ.kills []) K := rfl
theorem e_tells_14 (C : FuncId → List AV → AV → Prop) (σ : St) (K : St → Prop) : runReg C r_tells_14 σ K = runOps C [⟨(.mv (.t 9)), (some 50), none, [53], []⟩, ⟨(.faddr 2 (.t 11)), (some 51), none, [53], []⟩, ⟨(.load 1 false (.t 51)), (some 52), none, [53], []⟩, ⟨(.bsl 1 9 [(.t 52)]), (some 53), none, [], []⟩, ⟨(.append 1 9 16 (.t 50) (.t 53)), (some 54), none, [], []⟩, ⟨(.mv (.t 54)), (some 9), none, [], []⟩] (σ.kills [53]) K := rfl
theorem e_tells_15 (C : FuncId → List AV → AV → Prop) (σ : St) (K : St → Prop) : runReg C r_tells_15 σ K = runOps C [⟨(.bin .add (.t 43) (.c (.int .i64 1))), (some 55), none, [], []⟩, ⟨(.mv (.t 55)), (some 43), none, [], []⟩] (σ.kills []) K := rfl
theorem e_tells_17 (C : FuncId → List AV → AV → Prop) (σ : St) (K : St → Prop) : runReg C r_tells_17 σ K = runOps C [⟨(.mv (.t 6)), (some 56), none, [79, 85, 87, 88, 91], []⟩, ⟨(.mv (.t 7)), (some 57), none, [79, 85, 87, 88, 91], []⟩, ⟨(.bin .geq (.t 57) (.c (.int .i64 0))), (some 58), none, [79, 85, 87, 88, 91], []⟩, ⟨(.beq false (.t 56) (.t 58)), (some 59), none, [79, 85, 87, 88, 91], []⟩, ⟨(.mv (.t 59)), (some 60), none, [79, 85, 87, 88, 91], []⟩, ⟨(.mv (.t 6)), (some 61), (some (60, true)), [79, 85, 87, 88, 91], []⟩, ⟨(.mv (.t 61)), (some 62), (some (60, true)), [79, 85, 87, 88, 91], []⟩, ⟨(.mv (.t 5)), (some 63), (some (62, true)), [79, 85, 87, 88, 91], []⟩, ⟨(.mv (.t 7)), (some 64), (some (62, true)), [79, 85, 87, 88, 91], []⟩, ⟨(.bin .eql (.t 63) (.t 64)), (some 65), (some (62, true)), [79, 85, 87, 88, 91], []⟩, ⟨(.pick (.t 62) (.t 65) (.c (.bool false))), (some 66), (some (60, true)), [79, 85, 87, 88, 91], []⟩, ⟨(.mv (.t 66)), (some 67), (some (60, true)), [79, 85, 87, 88, 91], []⟩, ⟨(.mv (.t 6)), (some 68), (some (67, false)), [79, 85, 87, 88, 91], []⟩, ⟨(.un .not (.t 68)), (some 69), (some (67, false)), [79, 85, 87, 88, 91], []⟩, ⟨(.mv (.t 69)), (some 70), (some (67, false)), [79, 85, 87, 88, 91], []⟩, ⟨(.mv (.t 5)), (some 71), (some (70, true)), [79, 85, 87, 88, 91], []⟩, ⟨(.bin .eql (.t 71) (.c (.int .i64 0))), (some 72), (some (70, true)), [79, 85, 87, 88, 91], []⟩, ⟨(.pick (.t 70) (.t 72) (.c (.bool false))), (some 73), (some (67, false)), [79, 85, 87, 88, 91], []⟩, ⟨(.pick (.t 67) (.c (.bool true)) (.t 73)), (some 74), (some (60, true)), [79, 85, 87, 88, 91], []⟩, ⟨(.pick (.t 60) (.t 74) (.c (.bool false))), (some 75), none, [79, 85, 87, 88, 91], []⟩, ⟨(.mv (.t 75)), (some 76), none, [79, 85, 87, 88, 91], []⟩, ⟨(.mv (.t 0)), (some 77), (some (76, true)), [79, 85, 87, 88, 91], []⟩, ⟨(.mv (.t 1)), (some 78), (some (76, true)), [79, 85, 87, 88, 91], []⟩, ⟨(.callv (.c (.clo 64 [] [])) [(.t 77), (.t 78)]), (some 79), (some (76, true)), [85, 87, 88, 91], []⟩, ⟨(.mv (.t 8)), (some 80), (some (76, true)), [85, 87, 88, 91], []⟩, ⟨(.beq false (.t 79) (.t 80)), (some 81), (some (76, true)), [85, 87, 88, 91], []⟩, ⟨(.pick (.t 76) (.t 81) (.c (.bool false))), (some 82), none, [85, 87, 88, 91], []⟩, ⟨(.mv (.t 82)), (some 83), none, [85, 87, 88, 91], []⟩, ⟨(.mv (.t 0)), (some 84), (some (83, true)), [85, 87, 88, 91], []⟩, ⟨(.callv (.c (.clo 65 [] [])) [(.t 84)]), (some 85), (some (83, true)), [87, 88, 91], []⟩, ⟨(.mv (.t 9)), (some 86), (some (83, true)), [87, 88, 91], []⟩, ⟨(.callv (.c (.clo 60 [] [])) [(.t 86)]), (some 87), (some (83, true)), [88, 91], []⟩, ⟨(.callv (.c (.clo 59 [] [])) [(.t 85), (.t 87)]), (some 88), (some (83, true)), [91], []⟩, ⟨(.pick (.t 83) (.t 88) (.c (.bool false))), (some 89), none, [91], []⟩, ⟨(.mv (.t 89)), (some 90), none, [91], []⟩, ⟨(.callv (.c (.clo 28 [] [])) []), (some 91), (some (90, true)), [], []⟩, ⟨(.pick (.t 90) (.t 91) (.c (.bool false))), (some 92), none, [], []⟩, ⟨(.mv (.t 92)), (some 4), none, [], []⟩] (σ.kills [79, 85, 87, 88, 91]) K := rfl
theorem fn_tells {args : List AV} {r : AV} (ha : args.length.ble Try.f10.ntmps = true) (h : run (AFn Try.prog) ir_tells (endQ res_tells r) (initSt args)) : AFn Try.prog 10 args r :=
  AFn.of_code (hint := fun _ => []) (c := Try.f10.body.getD .skip) (by kernel_rfl) (by kernel_rfl) Try.func10 (by kernel_rfl) (by kernel_rfl) (by kernel_rfl) (of_decide_eq_true (by kernel_rfl)) (Nat.le_of_ble_eq_true ha) (run_ok h)

attribute [local go_sem ↓] ir_keys
attribute [local go_sem] res_keys e_keys_0 e_keys_1 e_keys_2 e_keys_3 e_keys_4 e_keys_5 e_keys_6 e_keys_7 e_keys_9
attribute [local go_sem ↓] ir_rSameS
attribute [local go_sem] res_rSameS e_rSameS_0 e_rSameS_1 e_rSameS_2 e_rSameS_3 e_rSameS_4 e_rSameS_5 e_rSameS_6 e_rSameS_7 e_rSameS_9
attribute [local go_sem ↓] ir_tells
attribute [local go_sem] res_tells e_tells_0 e_tells_1 e_tells_2 e_tells_3 e_tells_4 e_tells_5 e_tells_6 e_tells_7 e_tells_8 e_tells_9 e_tells_10 e_tells_11 e_tells_12 e_tells_13 e_tells_14 e_tells_15 e_tells_17

theorem dead_out (l : List Msg) (i : Int) (hi : i < 0 ∨ (l.length : Int) ≤ i) : AFn Try.prog 64 [.sl (l.map Msg.a), .int .i64 i] (.bool false) := by
  refine fn_sqDead rfl ?_
  by_cases h : i < 0
  · simp (maxSteps := 4000000) only [go_sem, ↓reduceIte, reduceCtorEq, Nat.reduceEqDiff, Nat.reduceBEq, Nat.reduceAdd, Nat.reduceSub, Nat.reduceMul, Nat.reduceLT, Nat.reduceLeDiff, Nat.reduceBNe, Int.reduceBEq, Int.reduceBNe, Int.reduceLT, Int.reduceLE, Spn.a, Msg.a, Eff.a, h]
  · have h2 : (l.length : Int) ≤ i := by omega
    simp (maxSteps := 4000000) only [go_sem, ↓reduceIte, reduceCtorEq, Nat.reduceEqDiff, Nat.reduceBEq, Nat.reduceAdd, Nat.reduceSub, Nat.reduceMul, Nat.reduceLT, Nat.reduceLeDiff, Nat.reduceBNe, Int.reduceBEq, Int.reduceBNe, Int.reduceLT, Int.reduceLE, Spn.a, Msg.a, Eff.a, h, List.length_map, h2]
def sameSInv (a : List ByteArray) (k : Nat) (σ : St) : Prop :=
  ∃ j : Nat, j ≤ a.length ∧ k = a.length - j ∧ σ.T 0 = .sl (a.map .str) ∧ σ.T 1 = .sl (a.map .str) ∧ σ.T 5 = .int .i64 j
theorem refSameS_self (a : List ByteArray) (hl : a.length ≤ 281474976710656) : AFn Try.prog 59 [.sl (a.map .str), .sl (a.map .str)] (.bool true) := by
  refine fn_rSameS rfl ?_
  simp (maxSteps := 4000000) only [go_sem, ↓reduceIte, reduceCtorEq, Nat.reduceEqDiff, Nat.reduceBEq, Nat.reduceAdd, Nat.reduceSub, Nat.reduceMul, Nat.reduceLT, Nat.reduceLeDiff, Nat.reduceBNe, Int.reduceBEq, Int.reduceBNe, Int.reduceLT, Int.reduceLE, Spn.a, Msg.a, Eff.a, bne_self_eq_false]
  refine run_loop (sameSInv a) (k := a.length) ⟨0, by omega, rfl, ?_, ?_, ?_⟩ ?_
  · simp (maxSteps := 4000000) only [go_sem, ↓reduceIte, reduceCtorEq, Nat.reduceEqDiff, Nat.reduceBEq, Nat.reduceAdd, Nat.reduceSub, Nat.reduceMul, Nat.reduceLT, Nat.reduceLeDiff, Nat.reduceBNe, Int.reduceBEq, Int.reduceBNe, Int.reduceLT, Int.reduceLE, Spn.a, Msg.a, Eff.a]
  · simp (maxSteps := 4000000) only [go_sem, ↓reduceIte, reduceCtorEq, Nat.reduceEqDiff, Nat.reduceBEq, Nat.reduceAdd, Nat.reduceSub, Nat.reduceMul, Nat.reduceLT, Nat.reduceLeDiff, Nat.reduceBNe, Int.reduceBEq, Int.reduceBNe, Int.reduceLT, Int.reduceLE, Spn.a, Msg.a, Eff.a]
  · simp (maxSteps := 4000000) only [go_sem, ↓reduceIte, reduceCtorEq, Nat.reduceEqDiff, Nat.reduceBEq, Nat.reduceAdd, Nat.reduceSub, Nat.reduceMul, Nat.reduceLT, Nat.reduceLeDiff, Nat.reduceBNe, Int.reduceBEq, Int.reduceBNe, Int.reduceLT, Int.reduceLE, Spn.a, Msg.a, Eff.a]
    rfl
  rintro k σ ⟨j, hj, rfl, t0, t1, t5⟩
  simp only [r_rSameS_l8]
  by_cases hlt : j < a.length
  · have hlt' : (j : Int) < (a.length : Int) := by omega
    obtain ⟨x, hx⟩ : ∃ x, a[j]? = some x := ⟨_, List.getElem?_eq_getElem hlt⟩
    have hg : (a.map AV.str).getD j .und = .str x := by rw [List.getD_eq_getElem?_getD, List.getElem?_map, hx]; rfl
    have hw : IntKind.i64.wrap ((j : Int) + 1) = ((j + 1 : Nat) : Int) := by rw [IntWalk.i64_in _ (by omega)]; rfl
    simp (maxSteps := 4000000) only [go_sem, ↓reduceIte, reduceCtorEq, Nat.reduceEqDiff, Nat.reduceBEq, Nat.reduceAdd, Nat.reduceSub, Nat.reduceMul, Nat.reduceLT, Nat.reduceLeDiff, Nat.reduceBNe, Int.reduceBEq, Int.reduceBNe, Int.reduceLT, Int.reduceLE, Spn.a, Msg.a, Eff.a, t0, t1, t5, hlt', hg, List.length_map, Int.toNat_natCast, hw]
    (repeat refine And.intro (by omega) ?_)
    refine ⟨a.length - (j + 1), by omega, j + 1, by omega, rfl, ?_, ?_, ?_⟩ <;>
      (simp (maxSteps := 4000000) only [go_sem, ↓reduceIte, reduceCtorEq, Nat.reduceEqDiff, Nat.reduceBEq, Nat.reduceAdd, Nat.reduceSub, Nat.reduceMul, Nat.reduceLT, Nat.reduceLeDiff, Nat.reduceBNe, Int.reduceBEq, Int.reduceBNe, Int.reduceLT, Int.reduceLE, Spn.a, Msg.a, Eff.a, t0, t1, t5])
  · have hlt' : ¬ (j : Int) < (a.length : Int) := by omega
    simp (maxSteps := 4000000) only [go_sem, ↓reduceIte, reduceCtorEq, Nat.reduceEqDiff, Nat.reduceBEq, Nat.reduceAdd, Nat.reduceSub, Nat.reduceMul, Nat.reduceLT, Nat.reduceLeDiff, Nat.reduceBNe, Int.reduceBEq, Int.reduceBNe, Int.reduceLT, Int.reduceLE, Spn.a, Msg.a, Eff.a, t0, t1, t5, hlt', List.length_map]
def keysL (l : List Msg) : List ByteArray := (l.filter fun m => m.kind != 4).map Msg.key
theorem keysL_len (l : List Msg) : (keysL l).length ≤ l.length := by
  unfold keysL
  rw [List.length_map]
  exact List.length_filter_le _ _
theorem keysL_take {l : List Msg} {j : Nat} {x : Msg} (hx : l[j]? = some x) : keysL (l.take (j + 1)) = keysL (l.take j) ++ (if x.kind != 4 then [x.key] else []) := by
  rw [take_one hx]
  unfold keysL
  rw [List.filter_append, List.map_append]
  by_cases h : x.kind = 4 <;> simp [h]
theorem keysL_mem {l : List Msg} {y : ByteArray} (h : y ∈ keysL l) : ∃ m, m ∈ l ∧ m.key = y := by
  obtain ⟨m, hm, rfl⟩ := List.mem_map.1 h
  exact ⟨m, (List.mem_filter.1 hm).1, rfl⟩
def keysInv (l : List Msg) (k : Nat) (σ : St) : Prop :=
  ∃ j : Nat, j ≤ l.length ∧ k = l.length - j ∧ σ.T 6 = .sl (l.map Msg.a) ∧ σ.T 7 = .int .i64 l.length ∧ σ.T 8 = .int .i64 j ∧ σ.T 3 = .rs 3 0 (keysL (l.take j)).length ∧ σ.H 3 = some ⟨1, 9, (keysL (l.take j)).map .str, 0⟩
theorem keys_ok (l : List Msg) (hl : KOk l) : AFn Try.prog 65 [.sl (l.map Msg.a)] (.sl ((sortedL (keysL l)).map .str)) := by
  refine fn_keys rfl ?_
  simp (maxSteps := 4000000) only [go_sem, ↓reduceIte, reduceCtorEq, Nat.reduceEqDiff, Nat.reduceBEq, Nat.reduceAdd, Nat.reduceSub, Nat.reduceMul, Nat.reduceLT, Nat.reduceLeDiff, Nat.reduceBNe, Int.reduceBEq, Int.reduceBNe, Int.reduceLT, Int.reduceLE, Spn.a, Msg.a, Eff.a]
  refine run_loop (keysInv l) (k := l.length) ⟨0, by omega, rfl, ?_, ?_, ?_, ?_, ?_⟩ ?_
  · simp (maxSteps := 4000000) only [go_sem, ↓reduceIte, reduceCtorEq, Nat.reduceEqDiff, Nat.reduceBEq, Nat.reduceAdd, Nat.reduceSub, Nat.reduceMul, Nat.reduceLT, Nat.reduceLeDiff, Nat.reduceBNe, Int.reduceBEq, Int.reduceBNe, Int.reduceLT, Int.reduceLE, Spn.a, Msg.a, Eff.a]
  · simp (maxSteps := 4000000) only [go_sem, ↓reduceIte, reduceCtorEq, Nat.reduceEqDiff, Nat.reduceBEq, Nat.reduceAdd, Nat.reduceSub, Nat.reduceMul, Nat.reduceLT, Nat.reduceLeDiff, Nat.reduceBNe, Int.reduceBEq, Int.reduceBNe, Int.reduceLT, Int.reduceLE, Spn.a, Msg.a, Eff.a, List.length_map]
  · simp (maxSteps := 4000000) only [go_sem, ↓reduceIte, reduceCtorEq, Nat.reduceEqDiff, Nat.reduceBEq, Nat.reduceAdd, Nat.reduceSub, Nat.reduceMul, Nat.reduceLT, Nat.reduceLeDiff, Nat.reduceBNe, Int.reduceBEq, Int.reduceBNe, Int.reduceLT, Int.reduceLE, Spn.a, Msg.a, Eff.a]
    rfl
  · simp (maxSteps := 4000000) only [go_sem, ↓reduceIte, reduceCtorEq, Nat.reduceEqDiff, Nat.reduceBEq, Nat.reduceAdd, Nat.reduceSub, Nat.reduceMul, Nat.reduceLT, Nat.reduceLeDiff, Nat.reduceBNe, Int.reduceBEq, Int.reduceBNe, Int.reduceLT, Int.reduceLE, Spn.a, Msg.a, Eff.a]
    rfl
  · simp (maxSteps := 4000000) only [go_sem, ↓reduceIte, reduceCtorEq, Nat.reduceEqDiff, Nat.reduceBEq, Nat.reduceAdd, Nat.reduceSub, Nat.reduceMul, Nat.reduceLT, Nat.reduceLeDiff, Nat.reduceBNe, Int.reduceBEq, Int.reduceBNe, Int.reduceLT, Int.reduceLE, Spn.a, Msg.a, Eff.a]
    rfl
  rintro k σ ⟨j, hj, rfl, t6, t7, t8, t3, o3⟩
  simp only [r_keys_l8]
  have hl1 := hl.1
  have hto : ∀ j, ((keysL (l.take j)).map AV.str).take (keysL (l.take j)).length = (keysL (l.take j)).map AV.str := fun j => List.take_of_length_le (by rw [List.length_map]; exact Nat.le_refl _)
  by_cases hlt : j < l.length
  · have hlt' : (j : Int) < (l.length : Int) := by omega
    obtain ⟨x, hx⟩ := getM hlt
    have hw := wS (j := j) (by omega)
    have hk := keysL_take hx
    have hkl : (keysL (l.take j)).length ≤ 1000000 := Nat.le_trans (keysL_len _) (by rw [List.length_take]; omega)
    cases h4 : (x.kind != 4) with
    | false =>
      rw [h4, if_neg (by simp), List.append_nil] at hk
      simp (maxSteps := 4000000) only [go_sem, ↓reduceIte, reduceCtorEq, Nat.reduceEqDiff, Nat.reduceBEq, Nat.reduceAdd, Nat.reduceSub, Nat.reduceMul, Nat.reduceLT, Nat.reduceLeDiff, Nat.reduceBNe, Int.reduceBEq, Int.reduceBNe, Int.reduceLT, Int.reduceLE, Spn.a, Msg.a, Eff.a, t6, t7, t8, t3, o3, hlt', gM hx, h4, List.length_map, Int.toNat_natCast, hw]
      (repeat refine And.intro (by omega) ?_)
      refine ⟨l.length - (j + 1), by omega, j + 1, by omega, rfl, ?_, ?_, ?_, ?_, ?_⟩ <;>
        (simp (maxSteps := 4000000) only [go_sem, ↓reduceIte, reduceCtorEq, Nat.reduceEqDiff, Nat.reduceBEq, Nat.reduceAdd, Nat.reduceSub, Nat.reduceMul, Nat.reduceLT, Nat.reduceLeDiff, Nat.reduceBNe, Int.reduceBEq, Int.reduceBNe, Int.reduceLT, Int.reduceLE, Spn.a, Msg.a, Eff.a, t6, t7, t8, t3, o3, hk])
    | true =>
      rw [h4, if_pos rfl] at hk
      simp (maxSteps := 4000000) only [go_sem, ↓reduceIte, reduceCtorEq, Nat.reduceEqDiff, Nat.reduceBEq, Nat.reduceAdd, Nat.reduceSub, Nat.reduceMul, Nat.reduceLT, Nat.reduceLeDiff, Nat.reduceBNe, Int.reduceBEq, Int.reduceBNe, Int.reduceLT, Int.reduceLE, Spn.a, Msg.a, Eff.a, t6, t7, t8, t3, o3, hlt', gM hx, h4, List.length_map, Int.toNat_natCast, hw]
      (repeat refine And.intro (by omega) ?_)
      refine ⟨⟨⟨by omega, by omega⟩, fun d hd => by rcases hd with rfl | hd; exact ⟨rfl, rfl⟩; cases hd⟩, l.length - (j + 1), by omega, j + 1, by omega, rfl, ?_, ?_, ?_, ?_, ?_⟩ <;>
        (simp (maxSteps := 4000000) only [go_sem, ↓reduceIte, reduceCtorEq, Nat.reduceEqDiff, Nat.reduceBEq, Nat.reduceAdd, Nat.reduceSub, Nat.reduceMul, Nat.reduceLT, Nat.reduceLeDiff, Nat.reduceBNe, Int.reduceBEq, Int.reduceBNe, Int.reduceLT, Int.reduceLE, Spn.a, Msg.a, Eff.a, t6, t7, t8, t3, o3, hk, hto, List.length_append, List.map_append])
  · have hlt' : ¬ (j : Int) < (l.length : Int) := by omega
    have hs : ∀ x, x ∈ keysL l → x.size ≤ 281474976710656 := fun x hx => by
      obtain ⟨m, hm, rfl⟩ := keysL_mem hx
      have := hl.2 m hm; omega
    have hto2 := hto l.length
    rw [List.take_length] at hto2
    simp (maxSteps := 4000000) only [go_sem, ↓reduceIte, reduceCtorEq, Nat.reduceEqDiff, Nat.reduceBEq, Nat.reduceAdd, Nat.reduceSub, Nat.reduceMul, Nat.reduceLT, Nat.reduceLeDiff, Nat.reduceBNe, Int.reduceBEq, Int.reduceBNe, Int.reduceLT, Int.reduceLE, Spn.a, Msg.a, Eff.a, t6, t7, t8, t3, o3, hlt', List.length_map, List.take_of_length_le (show l.length ≤ j by omega), hto2]
    (first | refine calling (keySorted (keysL l) (Nat.le_trans (keysL_len _) hl1) hs) ?_ | refine callingH (keySorted (keysL l) (Nat.le_trans (keysL_len _) hl1) hs) ?_)
    simp (maxSteps := 4000000) only [go_sem, ↓reduceIte, reduceCtorEq, Nat.reduceEqDiff, Nat.reduceBEq, Nat.reduceAdd, Nat.reduceSub, Nat.reduceMul, Nat.reduceLT, Nat.reduceLeDiff, Nat.reduceBNe, Int.reduceBEq, Int.reduceBNe, Int.reduceLT, Int.reduceLE, Spn.a, Msg.a, Eff.a]

def telInv (l : List Msg) (i j0 want : Int) (ok dd : Bool) (k : Nat) (σ : St) : Prop :=
  ∃ j : Nat, j ≤ l.length ∧ k = l.length - j ∧ σ.T 0 = .sl (l.map Msg.a) ∧ σ.T 1 = .int .i64 i ∧ σ.T 5 = .int .i64 j0 ∧ σ.T 6 = .bool ok ∧ σ.T 7 = .int .i64 want ∧ σ.T 8 = .bool dd ∧
    σ.T 41 = .sl (l.map Msg.a) ∧ σ.T 42 = .int .i64 l.length ∧ σ.T 43 = .int .i64 j ∧ σ.T 9 = .rs 9 0 (keysL (l.take j)).length ∧ σ.H 9 = some ⟨1, 9, (keysL (l.take j)).map .str, 0⟩
theorem tells_end (l : List Msg) (hok : KOk l) (i j0 want : Int) (ok dd : Bool) (hj : ok = decide (0 ≤ want)) (hw : if ok then j0 = want else j0 = 0) (hD : AFn Try.prog 64 [.sl (l.map Msg.a), .int .i64 i] (.bool dd))
    (σ : St) (t0 : σ.T 0 = .sl (l.map Msg.a)) (t1 : σ.T 1 = .int .i64 i) (t5 : σ.T 5 = .int .i64 j0) (t6 : σ.T 6 = .bool ok) (t7 : σ.T 7 = .int .i64 want) (t8 : σ.T 8 = .bool dd) (t9 : σ.T 9 = .rs 9 0 0) (o9 : σ.H 9 = some ⟨1, 9, [], 0⟩) (t41 : σ.T 41 = .sl (l.map Msg.a)) (t42 : σ.T 42 = .int .i64 l.length) (t43 : σ.T 43 = .int .i64 0) :
    awp (AFn Try.prog) (.loop r_tells_l16) (blockQ 0 (thenQ (run (AFn Try.prog) (.seq (.reg r_tells_17) .ret) (endQ [.tmp 4] (.bool true))) (endQ [.tmp 4] (.bool true)))) σ := by
  refine run_loop (telInv l i j0 want ok dd) (k := l.length) ⟨0, by omega, rfl, t0, t1, t5, t6, t7, t8, t41, t42, t43, t9, o9⟩ ?_
  rintro k σ ⟨j, hjl, rfl, t0, t1, t5, t6, t7, t8, t41, t42, t43, t9, o9⟩
  simp only [r_tells_l16]
  have hl1 := hok.1
  have hto : ∀ j, ((keysL (l.take j)).map AV.str).take (keysL (l.take j)).length = (keysL (l.take j)).map AV.str := fun j => List.take_of_length_le (by rw [List.length_map]; exact Nat.le_refl _)
  by_cases hlt : j < l.length
  · have hlt' : (j : Int) < (l.length : Int) := by omega
    obtain ⟨x, hx⟩ := getM hlt
    have hww := wS (j := j) (by omega)
    have hk := keysL_take hx
    have hkl : (keysL (l.take j)).length ≤ 1000000 := Nat.le_trans (keysL_len _) (by rw [List.length_take]; omega)
    cases h4 : (x.kind != 4) with
    | false =>
      rw [h4, if_neg (by simp), List.append_nil] at hk
      simp (maxSteps := 4000000) only [go_sem, ↓reduceIte, reduceCtorEq, Nat.reduceEqDiff, Nat.reduceBEq, Nat.reduceAdd, Nat.reduceSub, Nat.reduceMul, Nat.reduceLT, Nat.reduceLeDiff, Nat.reduceBNe, Int.reduceBEq, Int.reduceBNe, Int.reduceLT, Int.reduceLE, Spn.a, Msg.a, Eff.a, t41, t42, t43, t9, o9, hlt', gM hx, h4, List.length_map, Int.toNat_natCast, hww]
      (repeat refine And.intro (by omega) ?_)
      refine ⟨l.length - (j + 1), by omega, j + 1, by omega, rfl, ?_, ?_, ?_, ?_, ?_, ?_, ?_, ?_, ?_, ?_, ?_⟩ <;>
        (simp (maxSteps := 4000000) only [go_sem, ↓reduceIte, reduceCtorEq, Nat.reduceEqDiff, Nat.reduceBEq, Nat.reduceAdd, Nat.reduceSub, Nat.reduceMul, Nat.reduceLT, Nat.reduceLeDiff, Nat.reduceBNe, Int.reduceBEq, Int.reduceBNe, Int.reduceLT, Int.reduceLE, Spn.a, Msg.a, Eff.a, t0, t1, t5, t6, t7, t8, t41, t42, t43, t9, o9, hk])
    | true =>
      rw [h4, if_pos rfl] at hk
      simp (maxSteps := 4000000) only [go_sem, ↓reduceIte, reduceCtorEq, Nat.reduceEqDiff, Nat.reduceBEq, Nat.reduceAdd, Nat.reduceSub, Nat.reduceMul, Nat.reduceLT, Nat.reduceLeDiff, Nat.reduceBNe, Int.reduceBEq, Int.reduceBNe, Int.reduceLT, Int.reduceLE, Spn.a, Msg.a, Eff.a, t41, t42, t43, t9, o9, hlt', gM hx, h4, List.length_map, Int.toNat_natCast, hww]
      (repeat refine And.intro (by omega) ?_)
      refine ⟨⟨⟨by omega, by omega⟩, fun d hd => by rcases hd with rfl | hd; exact ⟨rfl, rfl⟩; cases hd⟩, l.length - (j + 1), by omega, j + 1, by omega, rfl, ?_, ?_, ?_, ?_, ?_, ?_, ?_, ?_, ?_, ?_, ?_⟩ <;>
        (simp (maxSteps := 4000000) only [go_sem, ↓reduceIte, reduceCtorEq, Nat.reduceEqDiff, Nat.reduceBEq, Nat.reduceAdd, Nat.reduceSub, Nat.reduceMul, Nat.reduceLT, Nat.reduceLeDiff, Nat.reduceBNe, Int.reduceBEq, Int.reduceBNe, Int.reduceLT, Int.reduceLE, Spn.a, Msg.a, Eff.a, t0, t1, t5, t6, t7, t8, t41, t42, t43, t9, o9, hk, hto, List.length_append, List.map_append])
  · have hlt' : ¬ (j : Int) < (l.length : Int) := by omega
    have hs : ∀ x, x ∈ keysL l → x.size ≤ 281474976710656 := fun x hx => by
      obtain ⟨m, hm, rfl⟩ := keysL_mem hx
      have := hok.2 m hm; omega
    have hto2 := hto l.length
    rw [List.take_length] at hto2
    have hss : (sortedL (keysL l)).length ≤ 281474976710656 := by have := sortedL_len (keysL l); have := keysL_len l; omega
    have hst : ((sortedL (keysL l)).map AV.str).take (sortedL (keysL l)).length = (sortedL (keysL l)).map AV.str := List.take_of_length_le (by rw [List.length_map]; exact Nat.le_refl _)
    cases hok2 : ok with
    | true =>
      rw [hok2] at hj hw
      rw [if_pos rfl] at hw
      have hw0 : 0 ≤ want := of_decide_eq_true hj.symm
      simp (maxSteps := 4000000) only [go_sem, ↓reduceIte, reduceCtorEq, Nat.reduceEqDiff, Nat.reduceBEq, Nat.reduceAdd, Nat.reduceSub, Nat.reduceMul, Nat.reduceLT, Nat.reduceLeDiff, Nat.reduceBNe, Int.reduceBEq, Int.reduceBNe, Int.reduceLT, Int.reduceLE, Spn.a, Msg.a, Eff.a, t0, t1, t5, t6, t7, t8, t41, t42, t43, t9, o9, hlt', hok2, hw, hw0, List.length_map, List.take_of_length_le (show l.length ≤ j by omega), hto2]
      (first | refine calling hD ?_ | refine callingH hD ?_)
      simp (maxSteps := 4000000) only [go_sem, ↓reduceIte, reduceCtorEq, Nat.reduceEqDiff, Nat.reduceBEq, Nat.reduceAdd, Nat.reduceSub, Nat.reduceMul, Nat.reduceLT, Nat.reduceLeDiff, Nat.reduceBNe, Int.reduceBEq, Int.reduceBNe, Int.reduceLT, Int.reduceLE, Spn.a, Msg.a, Eff.a, t0, t8, t9, o9, List.length_map, List.take_of_length_le (show l.length ≤ j by omega), hto2]
      (first | refine calling (keys_ok l hok) ?_ | refine callingH (keys_ok l hok) ?_)
      simp (maxSteps := 4000000) only [go_sem, ↓reduceIte, reduceCtorEq, Nat.reduceEqDiff, Nat.reduceBEq, Nat.reduceAdd, Nat.reduceSub, Nat.reduceMul, Nat.reduceLT, Nat.reduceLeDiff, Nat.reduceBNe, Int.reduceBEq, Int.reduceBNe, Int.reduceLT, Int.reduceLE, Spn.a, Msg.a, Eff.a, t9, o9, List.length_map, List.take_of_length_le (show l.length ≤ j by omega), hto2]
      (first | refine calling (refSorted (keysL l) (Nat.le_trans (keysL_len _) hl1) hs) ?_ | refine callingH (refSorted (keysL l) (Nat.le_trans (keysL_len _) hl1) hs) ?_)
      simp (maxSteps := 4000000) only [go_sem, ↓reduceIte, reduceCtorEq, Nat.reduceEqDiff, Nat.reduceBEq, Nat.reduceAdd, Nat.reduceSub, Nat.reduceMul, Nat.reduceLT, Nat.reduceLeDiff, Nat.reduceBNe, Int.reduceBEq, Int.reduceBNe, Int.reduceLT, Int.reduceLE, Spn.a, Msg.a, Eff.a, List.length_map, hst]
      (first | refine calling (refSameS_self (sortedL (keysL l)) hss) ?_ | refine callingH (refSameS_self (sortedL (keysL l)) hss) ?_)
      simp (maxSteps := 4000000) only [go_sem, ↓reduceIte, reduceCtorEq, Nat.reduceEqDiff, Nat.reduceBEq, Nat.reduceAdd, Nat.reduceSub, Nat.reduceMul, Nat.reduceLT, Nat.reduceLeDiff, Nat.reduceBNe, Int.reduceBEq, Int.reduceBNe, Int.reduceLT, Int.reduceLE, Spn.a, Msg.a, Eff.a]
      (first | refine calling awake_ok ?_ | refine callingH awake_ok ?_)
      simp (maxSteps := 4000000) only [go_sem, ↓reduceIte, reduceCtorEq, Nat.reduceEqDiff, Nat.reduceBEq, Nat.reduceAdd, Nat.reduceSub, Nat.reduceMul, Nat.reduceLT, Nat.reduceLeDiff, Nat.reduceBNe, Int.reduceBEq, Int.reduceBNe, Int.reduceLT, Int.reduceLE, Spn.a, Msg.a, Eff.a]
    | false =>
      rw [hok2] at hj hw
      rw [if_neg (by simp)] at hw
      have hw0 : ¬ 0 ≤ want := of_decide_eq_false hj.symm
      simp (maxSteps := 4000000) only [go_sem, ↓reduceIte, reduceCtorEq, Nat.reduceEqDiff, Nat.reduceBEq, Nat.reduceAdd, Nat.reduceSub, Nat.reduceMul, Nat.reduceLT, Nat.reduceLeDiff, Nat.reduceBNe, Int.reduceBEq, Int.reduceBNe, Int.reduceLT, Int.reduceLE, Spn.a, Msg.a, Eff.a, t0, t1, t5, t6, t7, t8, t41, t42, t43, t9, o9, hlt', hok2, hw, hw0, List.length_map, List.take_of_length_le (show l.length ≤ j by omega), hto2]
      (first | refine calling hD ?_ | refine callingH hD ?_)
      simp (maxSteps := 4000000) only [go_sem, ↓reduceIte, reduceCtorEq, Nat.reduceEqDiff, Nat.reduceBEq, Nat.reduceAdd, Nat.reduceSub, Nat.reduceMul, Nat.reduceLT, Nat.reduceLeDiff, Nat.reduceBNe, Int.reduceBEq, Int.reduceBNe, Int.reduceLT, Int.reduceLE, Spn.a, Msg.a, Eff.a, t0, t8, t9, o9, List.length_map, List.take_of_length_le (show l.length ≤ j by omega), hto2]
      (first | refine calling (keys_ok l hok) ?_ | refine callingH (keys_ok l hok) ?_)
      simp (maxSteps := 4000000) only [go_sem, ↓reduceIte, reduceCtorEq, Nat.reduceEqDiff, Nat.reduceBEq, Nat.reduceAdd, Nat.reduceSub, Nat.reduceMul, Nat.reduceLT, Nat.reduceLeDiff, Nat.reduceBNe, Int.reduceBEq, Int.reduceBNe, Int.reduceLT, Int.reduceLE, Spn.a, Msg.a, Eff.a, t9, o9, List.length_map, List.take_of_length_le (show l.length ≤ j by omega), hto2]
      (first | refine calling (refSorted (keysL l) (Nat.le_trans (keysL_len _) hl1) hs) ?_ | refine callingH (refSorted (keysL l) (Nat.le_trans (keysL_len _) hl1) hs) ?_)
      simp (maxSteps := 4000000) only [go_sem, ↓reduceIte, reduceCtorEq, Nat.reduceEqDiff, Nat.reduceBEq, Nat.reduceAdd, Nat.reduceSub, Nat.reduceMul, Nat.reduceLT, Nat.reduceLeDiff, Nat.reduceBNe, Int.reduceBEq, Int.reduceBNe, Int.reduceLT, Int.reduceLE, Spn.a, Msg.a, Eff.a, List.length_map, hst]
      (first | refine calling (refSameS_self (sortedL (keysL l)) hss) ?_ | refine callingH (refSameS_self (sortedL (keysL l)) hss) ?_)
      simp (maxSteps := 4000000) only [go_sem, ↓reduceIte, reduceCtorEq, Nat.reduceEqDiff, Nat.reduceBEq, Nat.reduceAdd, Nat.reduceSub, Nat.reduceMul, Nat.reduceLT, Nat.reduceLeDiff, Nat.reduceBNe, Int.reduceBEq, Int.reduceBNe, Int.reduceLT, Int.reduceLE, Spn.a, Msg.a, Eff.a]
      (first | refine calling awake_ok ?_ | refine callingH awake_ok ?_)
      simp (maxSteps := 4000000) only [go_sem, ↓reduceIte, reduceCtorEq, Nat.reduceEqDiff, Nat.reduceBEq, Nat.reduceAdd, Nat.reduceSub, Nat.reduceMul, Nat.reduceLT, Nat.reduceLeDiff, Nat.reduceBNe, Int.reduceBEq, Int.reduceBNe, Int.reduceLT, Int.reduceLE, Spn.a, Msg.a, Eff.a]
theorem tells_law (l : List Msg) (i : Int) (hb : MBig l) : AFn Try.prog 10 [.sl (l.map Msg.a), .int .i64 i] (.bool true) := by
  refine fn_tells rfl ?_
  simp (maxSteps := 4000000) only [go_sem, ↓reduceIte, reduceCtorEq, Nat.reduceEqDiff, Nat.reduceBEq, Nat.reduceAdd, Nat.reduceSub, Nat.reduceMul, Nat.reduceLT, Nat.reduceLeDiff, Nat.reduceBNe, Int.reduceBEq, Int.reduceBNe, Int.reduceLT, Int.reduceLE, Spn.a, Msg.a, Eff.a]
  (first | refine calling (refFew l 2000 (by omega) (by omega) hb.2 hb.1) ?_ | refine callingH (refFew l 2000 (by omega) (by omega) hb.2 hb.1) ?_)
  cases hf : decide ((bulks l : Int) ≤ 2000) with
  | false =>
    simp (maxSteps := 4000000) only [go_sem, ↓reduceIte, reduceCtorEq, Nat.reduceEqDiff, Nat.reduceBEq, Nat.reduceAdd, Nat.reduceSub, Nat.reduceMul, Nat.reduceLT, Nat.reduceLeDiff, Nat.reduceBNe, Int.reduceBEq, Int.reduceBNe, Int.reduceLT, Int.reduceLE, Spn.a, Msg.a, Eff.a, hf]
    (first | refine calling awake_ok ?_ | refine callingH awake_ok ?_)
    simp (maxSteps := 4000000) only [go_sem, ↓reduceIte, reduceCtorEq, Nat.reduceEqDiff, Nat.reduceBEq, Nat.reduceAdd, Nat.reduceSub, Nat.reduceMul, Nat.reduceLT, Nat.reduceLeDiff, Nat.reduceBNe, Int.reduceBEq, Int.reduceBNe, Int.reduceLT, Int.reduceLE, Spn.a, Msg.a, Eff.a, hf]
  | true =>
    have hf' : bulks l ≤ 2000 := by have := of_decide_eq_true hf; omega
    obtain ⟨hok, hsm⟩ := kok_few hf'
    simp (maxSteps := 4000000) only [go_sem, ↓reduceIte, reduceCtorEq, Nat.reduceEqDiff, Nat.reduceBEq, Nat.reduceAdd, Nat.reduceSub, Nat.reduceMul, Nat.reduceLT, Nat.reduceLeDiff, Nat.reduceBNe, Int.reduceBEq, Int.reduceBNe, Int.reduceLT, Int.reduceLE, Spn.a, Msg.a, Eff.a, hf]
    (first | refine calling (refAll l hok.1 (fun m hm => by have := hok.2 m hm; omega)) ?_ | refine callingH (refAll l hok.1 (fun m hm => by have := hok.2 m hm; omega)) ?_)
    cases ha : AllProp l with
    | false =>
      simp (maxSteps := 4000000) only [go_sem, ↓reduceIte, reduceCtorEq, Nat.reduceEqDiff, Nat.reduceBEq, Nat.reduceAdd, Nat.reduceSub, Nat.reduceMul, Nat.reduceLT, Nat.reduceLeDiff, Nat.reduceBNe, Int.reduceBEq, Int.reduceBNe, Int.reduceLT, Int.reduceLE, Spn.a, Msg.a, Eff.a, hf, ha]
      (first | refine calling awake_ok ?_ | refine callingH awake_ok ?_)
      simp (maxSteps := 4000000) only [go_sem, ↓reduceIte, reduceCtorEq, Nat.reduceEqDiff, Nat.reduceBEq, Nat.reduceAdd, Nat.reduceSub, Nat.reduceMul, Nat.reduceLT, Nat.reduceLeDiff, Nat.reduceBNe, Int.reduceBEq, Int.reduceBNe, Int.reduceLT, Int.reduceLE, Spn.a, Msg.a, Eff.a, hf, ha]
    | true =>
      by_cases hin : 0 ≤ i ∧ i < l.length
      · obtain ⟨n, rfl⟩ : ∃ n : Nat, i = n := ⟨i.toNat, by omega⟩
        have hn : n < l.length := by omega
        simp (maxSteps := 4000000) only [go_sem, ↓reduceIte, reduceCtorEq, Nat.reduceEqDiff, Nat.reduceBEq, Nat.reduceAdd, Nat.reduceSub, Nat.reduceMul, Nat.reduceLT, Nat.reduceLeDiff, Nat.reduceBNe, Int.reduceBEq, Int.reduceBNe, Int.reduceLT, Int.reduceLE, Spn.a, Msg.a, Eff.a, hf, ha]
        have hmo : MOk l := ⟨hok.1, fun m hm => by have := hok.2 m hm; omega⟩
        (first | refine calling (next_in l n hmo hn) ?_ | refine callingH (next_in l n hmo hn) ?_)
        have h2 : (0 : Int) ≤ (n : Int) := by omega
        have h3 : (n : Int) < (l.length : Int) := by omega
        cases hx : nextOf l n with
        | none =>
          simp (maxSteps := 4000000) only [go_sem, ↓reduceIte, reduceCtorEq, Nat.reduceEqDiff, Nat.reduceBEq, Nat.reduceAdd, Nat.reduceSub, Nat.reduceMul, Nat.reduceLT, Nat.reduceLeDiff, Nat.reduceBNe, Int.reduceBEq, Int.reduceBNe, Int.reduceLT, Int.reduceLE, Spn.a, Msg.a, Eff.a, ansOf, h2, h3, List.length_map]
          (first | refine calling (ref49Next l n hok hn) ?_ | refine callingH (ref49Next l n hok hn) ?_)
          simp (maxSteps := 4000000) only [go_sem, ↓reduceIte, reduceCtorEq, Nat.reduceEqDiff, Nat.reduceBEq, Nat.reduceAdd, Nat.reduceSub, Nat.reduceMul, Nat.reduceLT, Nat.reduceLeDiff, Nat.reduceBNe, Int.reduceBEq, Int.reduceBNe, Int.reduceLT, Int.reduceLE, Spn.a, Msg.a, Eff.a, ansR, hx]
          (first | refine calling (ref49Dead l n hok hn) ?_ | refine callingH (ref49Dead l n hok hn) ?_)
          simp (maxSteps := 4000000) only [go_sem, ↓reduceIte, reduceCtorEq, Nat.reduceEqDiff, Nat.reduceBEq, Nat.reduceAdd, Nat.reduceSub, Nat.reduceMul, Nat.reduceLT, Nat.reduceLeDiff, Nat.reduceBNe, Int.reduceBEq, Int.reduceBNe, Int.reduceLT, Int.reduceLE, Spn.a, Msg.a, Eff.a, ansR, hx]
          refine tells_end l hok n 0 (-1) false (dead l n) rfl rfl (dead_in l n hmo hn) _ ?_ ?_ ?_ ?_ ?_ ?_ ?_ ?_ ?_ ?_ ?_ <;>
            (simp (maxSteps := 4000000) only [go_sem, ↓reduceIte, reduceCtorEq, Nat.reduceEqDiff, Nat.reduceBEq, Nat.reduceAdd, Nat.reduceSub, Nat.reduceMul, Nat.reduceLT, Nat.reduceLeDiff, Nat.reduceBNe, Int.reduceBEq, Int.reduceBNe, Int.reduceLT, Int.reduceLE, Spn.a, Msg.a, Eff.a, ansR, List.length_map])
        | some j =>
          have hj0 : (0 : Int) ≤ (j : Int) := by omega
          simp (maxSteps := 4000000) only [go_sem, ↓reduceIte, reduceCtorEq, Nat.reduceEqDiff, Nat.reduceBEq, Nat.reduceAdd, Nat.reduceSub, Nat.reduceMul, Nat.reduceLT, Nat.reduceLeDiff, Nat.reduceBNe, Int.reduceBEq, Int.reduceBNe, Int.reduceLT, Int.reduceLE, Spn.a, Msg.a, Eff.a, ansOf, h2, h3, List.length_map]
          (first | refine calling (ref49Next l n hok hn) ?_ | refine callingH (ref49Next l n hok hn) ?_)
          simp (maxSteps := 4000000) only [go_sem, ↓reduceIte, reduceCtorEq, Nat.reduceEqDiff, Nat.reduceBEq, Nat.reduceAdd, Nat.reduceSub, Nat.reduceMul, Nat.reduceLT, Nat.reduceLeDiff, Nat.reduceBNe, Int.reduceBEq, Int.reduceBNe, Int.reduceLT, Int.reduceLE, Spn.a, Msg.a, Eff.a, ansR, hx]
          (first | refine calling (ref49Dead l n hok hn) ?_ | refine callingH (ref49Dead l n hok hn) ?_)
          simp (maxSteps := 4000000) only [go_sem, ↓reduceIte, reduceCtorEq, Nat.reduceEqDiff, Nat.reduceBEq, Nat.reduceAdd, Nat.reduceSub, Nat.reduceMul, Nat.reduceLT, Nat.reduceLeDiff, Nat.reduceBNe, Int.reduceBEq, Int.reduceBNe, Int.reduceLT, Int.reduceLE, Spn.a, Msg.a, Eff.a, ansR, hx]
          refine tells_end l hok n j j true (dead l n) (decide_eq_true hj0).symm rfl (dead_in l n hmo hn) _ ?_ ?_ ?_ ?_ ?_ ?_ ?_ ?_ ?_ ?_ ?_ <;>
            (simp (maxSteps := 4000000) only [go_sem, ↓reduceIte, reduceCtorEq, Nat.reduceEqDiff, Nat.reduceBEq, Nat.reduceAdd, Nat.reduceSub, Nat.reduceMul, Nat.reduceLT, Nat.reduceLeDiff, Nat.reduceBNe, Int.reduceBEq, Int.reduceBNe, Int.reduceLT, Int.reduceLE, Spn.a, Msg.a, Eff.a, ansR, List.length_map])
      · simp (maxSteps := 4000000) only [go_sem, ↓reduceIte, reduceCtorEq, Nat.reduceEqDiff, Nat.reduceBEq, Nat.reduceAdd, Nat.reduceSub, Nat.reduceMul, Nat.reduceLT, Nat.reduceLeDiff, Nat.reduceBNe, Int.reduceBEq, Int.reduceBNe, Int.reduceLT, Int.reduceLE, Spn.a, Msg.a, Eff.a, hf, ha]
        (first | refine calling (next_out l i (by omega)) ?_ | refine callingH (next_out l i (by omega)) ?_)
        have hd := dead_out l i (by omega)
        by_cases h2 : 0 ≤ i
        · have h3 : ¬ i < (l.length : Int) := by omega
          simp (maxSteps := 4000000) only [go_sem, ↓reduceIte, reduceCtorEq, Nat.reduceEqDiff, Nat.reduceBEq, Nat.reduceAdd, Nat.reduceSub, Nat.reduceMul, Nat.reduceLT, Nat.reduceLeDiff, Nat.reduceBNe, Int.reduceBEq, Int.reduceBNe, Int.reduceLT, Int.reduceLE, Spn.a, Msg.a, Eff.a, h2, h3, List.length_map]
          refine tells_end l hok i 0 (-1) false false rfl rfl hd _ ?_ ?_ ?_ ?_ ?_ ?_ ?_ ?_ ?_ ?_ ?_ <;>
            (simp (maxSteps := 4000000) only [go_sem, ↓reduceIte, reduceCtorEq, Nat.reduceEqDiff, Nat.reduceBEq, Nat.reduceAdd, Nat.reduceSub, Nat.reduceMul, Nat.reduceLT, Nat.reduceLeDiff, Nat.reduceBNe, Int.reduceBEq, Int.reduceBNe, Int.reduceLT, Int.reduceLE, Spn.a, Msg.a, Eff.a, List.length_map])
        · simp (maxSteps := 4000000) only [go_sem, ↓reduceIte, reduceCtorEq, Nat.reduceEqDiff, Nat.reduceBEq, Nat.reduceAdd, Nat.reduceSub, Nat.reduceMul, Nat.reduceLT, Nat.reduceLeDiff, Nat.reduceBNe, Int.reduceBEq, Int.reduceBNe, Int.reduceLT, Int.reduceLE, Spn.a, Msg.a, Eff.a, h2, List.length_map]
          refine tells_end l hok i 0 (-1) false false rfl rfl hd _ ?_ ?_ ?_ ?_ ?_ ?_ ?_ ?_ ?_ ?_ ?_ <;>
            (simp (maxSteps := 4000000) only [go_sem, ↓reduceIte, reduceCtorEq, Nat.reduceEqDiff, Nat.reduceBEq, Nat.reduceAdd, Nat.reduceSub, Nat.reduceMul, Nat.reduceLT, Nat.reduceLeDiff, Nat.reduceBNe, Int.reduceBEq, Int.reduceBNe, Int.reduceLT, Int.reduceLE, Spn.a, Msg.a, Eff.a, List.length_map])
theorem tells_walk (v : Value) (l : List Msg) (i : Int) (w : World) (h : Sl msgE w v l) (hi : -9223372036854775808 ≤ i ∧ i ≤ 9223372036854775807) : Calls Try.prog 10 #[v, .int .i64 i] w fun e w' => e = .returned (.bool true) ∧ Below w.heap.size w w' :=
  run_args (vs := [v, .int .i64 i]) rfl (fun j d u hj hu => by
    cases j with
    | zero => cases hj; cases hu; exact VR.of_msgs h
    | succ j =>
      cases j with
      | zero => cases hj; cases hu; exact .int _ _
      | succ j => simp at hj) (tells_law l i (big_of h))
end Go.Proofs.Ytdjkefndigijjaa
