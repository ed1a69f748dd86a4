/-
  The law SqueezeOnce on the plain machine.
-/
import Derived.Test.YtdjkefndigijjaaSqF
namespace Go.Proofs.Ytdjkefndigijjaa
open Go.RowKit
set_option linter.unusedVariables false
set_option linter.unusedSimpArgs false
set_option maxRecDepth 100000
attribute [local go_sem ↓] runOp headOp
attribute [local go_sem] ev0 ev1 ev2 ev3 evA stHOk.eq_1 stHOk.eq_2 stHSt.eq_1 stHSt.eq_2 okV valV fzV okF valF okBld valBld mxOk.eq_1 mxOk.eq_2 mxVal.eq_1 mxVal.eq_2 cellFit.eq_1 cellFit.eq_2 cellFit.eq_3 cellEq.eq_1 cellEq.eq_2 cellEq.eq_3 upd_at AV.flatB AV.flatBs binIok binIV binSok binSV cellsOk.eq_1 cellsOk.eq_2 cellsVal.eq_1 cellsVal.eq_2 objCells.eq_1 objCells.eq_2 objZ.eq_1 objZ.eq_2 objProt.eq_1 objProt.eq_2 oneObj ptrOk.eq_1 ptrOk.eq_2 ptrOk.eq_3 ptrCells.eq_1 ptrCells.eq_2 ptrCells.eq_3 lenOk.eq_1 lenOk.eq_2 lenOk.eq_3 lenOk.eq_4 lenVal.eq_1 lenVal.eq_2 lenVal.eq_3 lenVal.eq_4 faOk.eq_1 faOk.eq_2 faOk.eq_3 faVal.eq_1 faVal.eq_2 faVal.eq_3 iaOk.eq_1 iaOk.eq_2 iaOk.eq_3 iaVal.eq_1 iaVal.eq_2 iaVal.eq_3 slcLen.eq_1 slcLen.eq_2 slcLen.eq_3 slcLen.eq_4 bdOk.eq_1 bdOk.eq_2 bdVal.eq_1 bdVal.eq_2 slcOk.eq_1 slcOk.eq_2 slcOk.eq_3 slcOk.eq_4 slcVal.eq_1 slcVal.eq_2 slcVal.eq_3 slcVal.eq_4 slcFz.eq_1 slcFz.eq_2 byOk.eq_1 byOk.eq_2 byOk.eq_3 byOk.eq_4 byOk.eq_5 byVal.eq_1 byVal.eq_2 byVal.eq_3 byFz.eq_1 byFz.eq_2 byFz.eq_3 byOks byVals byFzs allOne resSt.eq_1 resSt.eq_2 resName.eq_1 resName.eq_2 stOk.eq_1 stOk.eq_2 stArr.eq_1 stArr.eq_2 stSt.eq_1 stSt.eq_2 AV.patch nameOk_none gB.eq_1 gB.eq_2 gB.eq_3 gIs.eq_1 gIs.eq_2 gIs.eq_3 retV resV resVs evalV cellsV St.byval List.getD_cons_zero List.getD_cons_succ List.getD_nil List.map_cons List.map_nil List.length_cons List.length_nil List.take_succ_cons List.take_zero List.drop_succ_cons List.drop_zero List.headD_cons List.set_cons_zero List.append_nil List.nil_append List.cons_append List.contains_cons List.contains_nil List.elem_cons List.elem_nil List.all_cons List.all_nil List.getElem?_cons_zero List.getElem?_cons_succ List.filterMap_cons List.filterMap_nil Option.isSome_some Option.isSome_none Option.map_some Option.map_none Option.some.injEq AV.int.injEq AV.bool.injEq AV.str.injEq AV.tup.injEq AV.agg.injEq AV.sl.injEq List.cons.injEq Bool.false_eq_true Bool.true_eq_false Bool.not_true Bool.not_false Bool.and_true Bool.true_and Bool.or_false Bool.or_true Bool.false_or Bool.true_or Bool.or_self Bool.and_self Bool.not_eq_true' Bool.not_eq_false' Bool.not_not beq_self_eq_true true_and and_true false_and and_false and_self not_true_eq_false not_false_eq_true forall_const true_implies false_implies implies_true imp_self Nat.lt_add_one Nat.le_refl Nat.zero_le Nat.add_zero Nat.zero_add decide_true decide_false decide_eq_true_eq decide_eq_false_iff_not exists_eq_left exists_eq_left' ge_iff_le gt_iff_lt ite_branch ite_branch' nilOk.eq_1 nilOk.eq_2 nilMay.eq_1 nilMay.eq_2 AV.isSl.eq_1 objTy'.eq_1 objTy'.eq_2 apSt.eq_1 apArr.eq_1 apArr.eq_2 slOf.eq_1 fitsV List.mem_cons List.not_mem_nil Bool.false_and Bool.and_false
/-! ### percolate/percolatelaw49.awake -/
def r_awake_0 : Reg := ⟨[], [⟨(.mv (.c (.bool false))), (some 0), none, [], []⟩], [], [], false⟩
def r_awake_1 : Reg := ⟨[], [⟨(.bld [(.int .i64 0), (.int .i64 0), (.str ⟨#[]⟩), (.str ⟨#[]⟩), (.bool false), (.str ⟨#[]⟩)] [⟨0, 1, (.c (.int .i64 1))⟩, ⟨1, 1, (.c (.int .i64 1))⟩, ⟨2, 1, (.c (.str ⟨#[97]⟩))⟩, ⟨5, 1, (.c (.str ⟨#[49]⟩))⟩]), (some 2), none, [6, 7], []⟩, ⟨(.bld [(.int .i64 0), (.int .i64 0), (.str ⟨#[]⟩), (.str ⟨#[]⟩), (.bool false), (.str ⟨#[]⟩)] [⟨0, 1, (.c (.int .i64 2))⟩, ⟨1, 1, (.c (.int .i64 2))⟩, ⟨2, 1, (.c (.str ⟨#[97]⟩))⟩, ⟨5, 1, (.c (.str ⟨#[50]⟩))⟩]), (some 3), none, [6, 7], []⟩, ⟨(.bld [(.int .i64 0), (.int .i64 0), (.str ⟨#[]⟩), (.str ⟨#[]⟩), (.bool false), (.str ⟨#[]⟩)] [⟨0, 1, (.c (.int .i64 3))⟩, ⟨1, 1, (.c (.int .i64 3))⟩, ⟨2, 1, (.c (.str ⟨#[98]⟩))⟩]), (some 4), none, [6, 7], []⟩, ⟨(.bld [(.int .i64 0), (.int .i64 0), (.str ⟨#[]⟩), (.str ⟨#[]⟩), (.bool false), (.str ⟨#[]⟩)] [⟨0, 1, (.c (.int .i64 4))⟩, ⟨1, 1, (.c (.int .i64 4))⟩, ⟨2, 1, (.c (.str ⟨#[98]⟩))⟩, ⟨3, 1, (.c (.str ⟨#[99]⟩))⟩]), (some 5), none, [6, 7], []⟩, ⟨(.bsl 6 55 [(.t 2), (.t 3), (.t 4), (.t 5)]), (some 6), none, [7], []⟩, ⟨(.callv (.c (.clo 29 [] [])) [(.t 6)]), (some 7), none, [], []⟩, ⟨(.mv (.t 7)), (some 1), none, [], []⟩], [6, 7], [], false⟩
def r_awake_2 : Reg := ⟨[], [⟨(.mv (.t 1)), (some 8), none, [], []⟩, ⟨(.len false (.t 8)), (some 9), none, [], []⟩, ⟨(.bin .eql (.t 9) (.c (.int .i64 2))), (some 10), none, [], []⟩, ⟨(.mv (.t 10)), (some 11), none, [], []⟩, ⟨(.mv (.t 1)), (some 12), (some (11, true)), [], []⟩, ⟨(.iaddr 6 (.t 12) (.c (.int .i64 0))), (some 13), (some (11, true)), [], []⟩, ⟨(.load 6 true (.t 13)), (some 14), (some (11, true)), [], []⟩, ⟨(.bld [(.int .i64 0), (.int .i64 0), (.str ⟨#[]⟩), (.str ⟨#[]⟩), (.bool false), (.str ⟨#[]⟩)] [⟨0, 1, (.c (.int .i64 2))⟩, ⟨1, 1, (.c (.int .i64 1))⟩, ⟨2, 1, (.c (.str ⟨#[97]⟩))⟩, ⟨5, 1, (.c (.str ⟨#[49, 50]⟩))⟩]), (some 15), (some (11, true)), [], []⟩, ⟨(.feq false [(0, 0), (1, 0), (2, 1), (3, 1), (4, 2), (5, 1)] (.t 14) (.t 15)), (some 16), (some (11, true)), [], []⟩, ⟨(.pick (.t 11) (.t 16) (.c (.bool false))), (some 17), none, [], []⟩, ⟨(.mv (.t 17)), (some 18), none, [], []⟩, ⟨(.mv (.t 1)), (some 19), (some (18, true)), [], []⟩, ⟨(.iaddr 6 (.t 19) (.c (.int .i64 1))), (some 20), (some (18, true)), [], []⟩, ⟨(.faddr 0 (.t 20)), (some 21), (some (18, true)), [], []⟩, ⟨(.load 1 false (.t 21)), (some 22), (some (18, true)), [], []⟩, ⟨(.bin .eql (.t 22) (.c (.int .i64 4))), (some 23), (some (18, true)), [], []⟩, ⟨(.pick (.t 18) (.t 23) (.c (.bool false))), (some 24), none, [], []⟩, ⟨(.mv (.t 24)), (some 0), none, [], []⟩], [], [], false⟩
def ir_awake : IR := (.seq (.reg r_awake_0)
  (.seq (.reg r_awake_1)
  (.seq (.reg r_awake_2)
  .ret)))
def res_awake : List RDesc := [(.tmp 0)]
theorem e_awake_0 (C : FuncId → List AV → AV → Prop) (σ : St) (K : St → Prop) : runReg C r_awake_0 σ K = runOps C [⟨(.mv (.c (.bool false))), (some 0), none, [], []⟩] (σ.kills []) K := rfl
theorem e_awake_1 (C : FuncId → List AV → AV → Prop) (σ : St) (K : St → Prop) : runReg C r_awake_1 σ K = runOps C [⟨(.bld [(.int .i64 0), (.int .i64 0), (.str ⟨#[]⟩), (.str ⟨#[]⟩), (.bool false), (.str ⟨#[]⟩)] [⟨0, 1, (.c (.int .i64 1))⟩, ⟨1, 1, (.c (.int .i64 1))⟩, ⟨2, 1, (.c (.str ⟨#[97]⟩))⟩, ⟨5, 1, (.c (.str ⟨#[49]⟩))⟩]), (some 2), none, [6, 7], []⟩, ⟨(.bld [(.int .i64 0), (.int .i64 0), (.str ⟨#[]⟩), (.str ⟨#[]⟩), (.bool false), (.str ⟨#[]⟩)] [⟨0, 1, (.c (.int .i64 2))⟩, ⟨1, 1, (.c (.int .i64 2))⟩, ⟨2, 1, (.c (.str ⟨#[97]⟩))⟩, ⟨5, 1, (.c (.str ⟨#[50]⟩))⟩]), (some 3), none, [6, 7], []⟩, ⟨(.bld [(.int .i64 0), (.int .i64 0), (.str ⟨#[]⟩), (.str ⟨#[]⟩), (.bool false), (.str ⟨#[]⟩)] [⟨0, 1, (.c (.int .i64 3))⟩, ⟨1, 1, (.c (.int .i64 3))⟩, ⟨2, 1, (.c (.str ⟨#[98]⟩))⟩]), (some 4), none, [6, 7], []⟩, ⟨(.bld [(.int .i64 0), (.int .i64 0), (.str ⟨#[]⟩), (.str ⟨#[]⟩), (.bool false), (.str ⟨#[]⟩)] [⟨0, 1, (.c (.int .i64 4))⟩, ⟨1, 1, (.c (.int .i64 4))⟩, ⟨2, 1, (.c (.str ⟨#[98]⟩))⟩, ⟨3, 1, (.c (.str ⟨#[99]⟩))⟩]), (some 5), none, [6, 7], []⟩, ⟨(.bsl 6 55 [(.t 2), (.t 3), (.t 4), (.t 5)]), (some 6), none, [7], []⟩, ⟨(.callv (.c (.clo 29 [] [])) [(.t 6)]), (some 7), none, [], []⟩, ⟨(.mv (.t 7)), (some 1), none, [], []⟩] (σ.kills [6, 7]) K := rfl
theorem e_awake_2 (C : FuncId → List AV → AV → Prop) (σ : St) (K : St → Prop) : runReg C r_awake_2 σ K = runOps C [⟨(.mv (.t 1)), (some 8), none, [], []⟩, ⟨(.len false (.t 8)), (some 9), none, [], []⟩, ⟨(.bin .eql (.t 9) (.c (.int .i64 2))), (some 10), none, [], []⟩, ⟨(.mv (.t 10)), (some 11), none, [], []⟩, ⟨(.mv (.t 1)), (some 12), (some (11, true)), [], []⟩, ⟨(.iaddr 6 (.t 12) (.c (.int .i64 0))), (some 13), (some (11, true)), [], []⟩, ⟨(.load 6 true (.t 13)), (some 14), (some (11, true)), [], []⟩, ⟨(.bld [(.int .i64 0), (.int .i64 0), (.str ⟨#[]⟩), (.str ⟨#[]⟩), (.bool false), (.str ⟨#[]⟩)] [⟨0, 1, (.c (.int .i64 2))⟩, ⟨1, 1, (.c (.int .i64 1))⟩, ⟨2, 1, (.c (.str ⟨#[97]⟩))⟩, ⟨5, 1, (.c (.str ⟨#[49, 50]⟩))⟩]), (some 15), (some (11, true)), [], []⟩, ⟨(.feq false [(0, 0), (1, 0), (2, 1), (3, 1), (4, 2), (5, 1)] (.t 14) (.t 15)), (some 16), (some (11, true)), [], []⟩, ⟨(.pick (.t 11) (.t 16) (.c (.bool false))), (some 17), none, [], []⟩, ⟨(.mv (.t 17)), (some 18), none, [], []⟩, ⟨(.mv (.t 1)), (some 19), (some (18, true)), [], []⟩, ⟨(.iaddr 6 (.t 19) (.c (.int .i64 1))), (some 20), (some (18, true)), [], []⟩, ⟨(.faddr 0 (.t 20)), (some 21), (some (18, true)), [], []⟩, ⟨(.load 1 false (.t 21)), (some 22), (some (18, true)), [], []⟩, ⟨(.bin .eql (.t 22) (.c (.int .i64 4))), (some 23), (some (18, true)), [], []⟩, ⟨(.pick (.t 18) (.t 23) (.c (.bool false))), (some 24), none, [], []⟩, ⟨(.mv (.t 24)), (some 0), none, [], []⟩] (σ.kills []) K := rfl
theorem fn_awake {args : List AV} {r : AV} (ha : args.length.ble Try.f28.ntmps = true) (h : run (AFn Try.prog) ir_awake (endQ res_awake r) (initSt args)) : AFn Try.prog 28 args r :=
  AFn.of_code (hint := fun _ => []) (c := Try.f28.body.getD .skip) (by kernel_rfl) (by kernel_rfl) Try.func28 (by kernel_rfl) (by kernel_rfl) (by kernel_rfl) (of_decide_eq_true (by kernel_rfl)) (Nat.le_of_ble_eq_true ha) (run_ok h)

/-! ### percolate/percolatelaw49.SqueezeOnce -/
def r_once_0 : Reg := ⟨[], [⟨(.mv (.c (.bool false))), (some 2), none, [], []⟩], [], [], false⟩
def r_once_1 : Reg := ⟨[], [⟨(.mv (.t 0)), (some 8), none, [9, 13], []⟩, ⟨(.callv (.c (.clo 26 [] [])) [(.t 8), (.c (.int .i64 2000))]), (some 9), none, [13], []⟩, ⟨(.un .not (.t 9)), (some 10), none, [13], []⟩, ⟨(.mv (.t 10)), (some 11), none, [13], []⟩, ⟨(.mv (.t 0)), (some 12), (some (11, false)), [13], []⟩, ⟨(.callv (.c (.clo 27 [] [])) [(.t 12)]), (some 13), (some (11, false)), [], []⟩, ⟨(.un .not (.t 13)), (some 14), (some (11, false)), [], []⟩, ⟨(.pick (.t 11) (.c (.bool true)) (.t 14)), (some 15), none, [], []⟩], [9, 13], [], false⟩
def r_once_2 : Reg := ⟨[], [⟨(.callv (.c (.clo 28 [] [])) []), (some 16), none, [], []⟩, ⟨(.mv (.t 16)), (some 2), none, [], []⟩], [16], [], false⟩
def r_once_3 : Reg := ⟨[], [⟨(.mv (.t 0)), (some 17), none, [18], []⟩, ⟨(.callv (.c (.clo 29 [] [])) [(.t 17)]), (some 18), none, [], []⟩, ⟨(.mv (.t 18)), (some 3), none, [], []⟩], [18], [], false⟩
def r_once_4 : Reg := ⟨[], [⟨(.mv (.t 3)), (some 19), none, [], []⟩, ⟨(.len false (.t 19)), (some 20), none, [], []⟩, ⟨(.mv (.c (.int .i64 0))), (some 21), none, [], []⟩], [], [], false⟩
def r_once_5 : Reg := ⟨[], [⟨(.bin .lss (.t 21) (.t 20)), (some 22), none, [], []⟩], [], [], false⟩
def r_once_6 : Reg := ⟨[], [⟨(.mv (.t 21)), (some 23), none, [5], []⟩, ⟨(.iaddr 6 (.t 19) (.t 21)), (some 24), none, [5], []⟩, ⟨(.load 6 true (.t 24)), (some 25), none, [5], []⟩, ⟨(.alloc 6 55 (.agg [(.int .i64 0), (.int .i64 0), (.str ⟨#[]⟩), (.str ⟨#[]⟩), (.bool false), (.str ⟨#[]⟩)])), (some 5), none, [], []⟩, ⟨(.mv (.t 23)), (some 4), none, [], []⟩, ⟨(.store 6 (.t 5) (.t 25)), none, none, [], []⟩], [5], [], false⟩
def r_once_7 : Reg := ⟨[], [⟨(.mv (.t 3)), (some 26), none, [], []⟩, ⟨(.mv (.t 4)), (some 27), none, [], []⟩, ⟨(.bin .add (.t 27) (.c (.int .i64 1))), (some 28), none, [], []⟩, ⟨(.slc false 6 (.t 26) (some (.t 28)) none), (some 29), none, [], []⟩, ⟨(.len false (.t 29)), (some 30), none, [], []⟩, ⟨(.mv (.c (.int .i64 0))), (some 31), none, [], []⟩], [], [], false⟩
def r_once_8 : Reg := ⟨[], [⟨(.bin .lss (.t 31) (.t 30)), (some 32), none, [], []⟩], [], [], false⟩
def r_once_9 : Reg := ⟨[], [⟨(.iaddr 6 (.t 29) (.t 31)), (some 33), none, [7], []⟩, ⟨(.load 6 true (.t 33)), (some 34), none, [7], []⟩, ⟨(.alloc 6 55 (.agg [(.int .i64 0), (.int .i64 0), (.str ⟨#[]⟩), (.str ⟨#[]⟩), (.bool false), (.str ⟨#[]⟩)])), (some 7), none, [], []⟩, ⟨(.store 6 (.t 7) (.t 34)), none, none, [], []⟩], [7], [], false⟩
def r_once_10 : Reg := ⟨[⟨(.faddr 1 (.t 5)), (some 35), none, [40, 42, 43, 44], []⟩, ⟨(.load 1 false (.t 35)), (some 36), none, [40, 42, 43, 44], []⟩, ⟨(.bin .neq (.t 36) (.c (.int .i64 4))), (some 37), none, [40, 42, 43, 44], []⟩, ⟨(.mv (.t 37)), (some 38), none, [40, 42, 43, 44], []⟩, ⟨(.load 6 true (.t 5)), (some 39), (some (38, true)), [40, 42, 43, 44], []⟩, ⟨(.callv (.c (.clo 32 [] [])) [(.t 39)]), (some 40), (some (38, true)), [42, 43, 44], []⟩, ⟨(.load 6 true (.t 7)), (some 41), (some (38, true)), [40, 42, 43, 44], []⟩], [⟨(.callv (.c (.clo 32 [] [])) [(.t 41)]), (some 42), (some (38, true)), [43, 44], []⟩, ⟨(.callv (.c (.clo 31 [] [])) [(.t 40), (.t 42)]), (some 43), (some (38, true)), [44], []⟩, ⟨(.callv (.c (.clo 30 [] [])) [(.t 43)]), (some 44), (some (38, true)), [], []⟩, ⟨(.un .not (.t 44)), (some 45), (some (38, true)), [], []⟩, ⟨(.pick (.t 38) (.t 45) (.c (.bool false))), (some 46), none, [], []⟩], [40, 42, 43, 44], [], true⟩
def r_once_11 : Reg := ⟨[], [⟨(.mv (.c (.bool false))), (some 2), none, [], []⟩], [], [], false⟩
def r_once_12 : Reg := ⟨[], [⟨(.bin .add (.t 31) (.c (.int .i64 1))), (some 47), none, [], []⟩, ⟨(.mv (.t 47)), (some 31), none, [], []⟩], [], [], false⟩
def r_once_l13 : IR := (.seq (.reg r_once_8)
  (.seq (.cond (.t 32) .skip
  (.exit 2))
  (.seq (.block 3 (.seq (.reg r_once_9)
  (.seq (.reg r_once_10)
  (.cond (.t 46) (.seq (.reg r_once_11)
  .ret)
  .skip))))
  (.reg r_once_12))))
def r_once_14 : Reg := ⟨[], [⟨(.bin .add (.t 21) (.c (.int .i64 1))), (some 48), none, [], []⟩, ⟨(.mv (.t 48)), (some 21), none, [], []⟩], [], [], false⟩
def r_once_l15 : IR := (.seq (.reg r_once_5)
  (.seq (.cond (.t 22) .skip
  (.exit 0))
  (.seq (.block 1 (.seq (.reg r_once_6)
  (.seq (.reg r_once_7)
  (.block 2 (.loop r_once_l13)))))
  (.reg r_once_14))))
def r_once_16 : Reg := ⟨[], [⟨(.callv (.c (.clo 28 [] [])) []), (some 49), none, [], []⟩, ⟨(.mv (.t 49)), (some 2), none, [], []⟩], [49], [], false⟩
def ir_once : IR := (.seq (.reg r_once_0)
  (.seq (.seq (.reg r_once_1)
  (.cond (.t 15) (.seq (.reg r_once_2)
  .ret)
  .skip))
  (.seq (.reg r_once_3)
  (.seq (.seq (.reg r_once_4)
  (.block 0 (.loop r_once_l15)))
  (.seq (.reg r_once_16)
  .ret)))))
def res_once : List RDesc := [(.tmp 2)]
theorem e_once_0 (C : FuncId → List AV → AV → Prop) (σ : St) (K : St → Prop) : runReg C r_once_0 σ K = runOps C [⟨(.mv (.c (.bool false))), (some 2), none, [], []⟩] (σ.kills []) K := rfl
theorem e_once_1 (C : FuncId → List AV → AV → Prop) (σ : St) (K : St → Prop) : runReg C r_once_1 σ K = runOps C [⟨(.mv (.t 0)), (some 8), none, [9, 13], []⟩, ⟨(.callv (.c (.clo 26 [] [])) [(.t 8), (.c (.int .i64 2000))]), (some 9), none, [13], []⟩, ⟨(.un .not (.t 9)), (some 10), none, [13], []⟩, ⟨(.mv (.t 10)), (some 11), none, [13], []⟩, ⟨(.mv (.t 0)), (some 12), (some (11, false)), [13], []⟩, ⟨(.callv (.c (.clo 27 [] [])) [(.t 12)]), (some 13), (some (11, false)), [], []⟩, ⟨(.un .not (.t 13)), (some 14), (some (11, false)), [], []⟩, ⟨(.pick (.t 11) (.c (.bool true)) (.t 14)), (some 15), none, [], []⟩] (σ.kills [9, 13]) K := rfl
theorem e_once_2 (C : FuncId → List AV → AV → Prop) (σ : St) (K : St → Prop) : runReg C r_once_2 σ K = runOps C [⟨(.callv (.c (.clo 28 [] [])) []), (some 16), none, [], []⟩, ⟨(.mv (.t 16)), (some 2), none, [], []⟩] (σ.kills [16]) K := rfl
theorem e_once_3 (C : FuncId → List AV → AV → Prop) (σ : St) (K : St → Prop) : runReg C r_once_3 σ K = runOps C [⟨(.mv (.t 0)), (some 17), none, [18], []⟩, ⟨(.callv (.c (.clo 29 [] [])) [(.t 17)]), (some 18), none, [], []⟩, ⟨(.mv (.t 18)), (some 3), none, [], []⟩] (σ.kills [18]) K := rfl
theorem e_once_4 (C : FuncId → List AV → AV → Prop) (σ : St) (K : St → Prop) : runReg C r_once_4 σ K = runOps C [⟨(.mv (.t 3)), (some 19), none, [], []⟩, ⟨(.len false (.t 19)), (some 20), none, [], []⟩, ⟨(.mv (.c (.int .i64 0))), (some 21), none, [], []⟩] (σ.kills []) K := rfl
theorem e_once_5 (C : FuncId → List AV → AV → Prop) (σ : St) (K : St → Prop) : runReg C r_once_5 σ K = runOps C [⟨(.bin .lss (.t 21) (.t 20)), (some 22), none, [], []⟩] (σ.kills []) K := rfl
theorem e_once_6 (C : FuncId → List AV → AV → Prop) (σ : St) (K : St → Prop) : runReg C r_once_6 σ K = runOps C [⟨(.mv (.t 21)), (some 23), none, [5], []⟩, ⟨(.iaddr 6 (.t 19) (.t 21)), (some 24), none, [5], []⟩, ⟨(.load 6 true (.t 24)), (some 25), none, [5], []⟩, ⟨(.alloc 6 55 (.agg [(.int .i64 0), (.int .i64 0), (.str ⟨#[]⟩), (.str ⟨#[]⟩), (.bool false), (.str ⟨#[]⟩)])), (some 5), none, [], []⟩, ⟨(.mv (.t 23)), (some 4), none, [], []⟩, ⟨(.store 6 (.t 5) (.t 25)), none, none, [], []⟩] (σ.kills [5]) K := rfl
theorem e_once_7 (C : FuncId → List AV → AV → Prop) (σ : St) (K : St → Prop) : runReg C r_once_7 σ K = runOps C [⟨(.mv (.t 3)), (some 26), none, [], []⟩, ⟨(.mv (.t 4)), (some 27), none, [], []⟩, ⟨(.bin .add (.t 27) (.c (.int .i64 1))), (some 28), none, [], []⟩, ⟨(.slc false 6 (.t 26) (some (.t 28)) none), (some 29), none, [], []⟩, ⟨(.len false (.t 29)), (some 30), none, [], []⟩, ⟨(.mv (.c (.int .i64 0))), (some 31), none, [], []⟩] (σ.kills []) K := rfl
theorem e_once_8 (C : FuncId → List AV → AV → Prop) (σ : St) (K : St → Prop) : runReg C r_once_8 σ K = runOps C [⟨(.bin .lss (.t 31) (.t 30)), (some 32), none, [], []⟩] (σ.kills []) K := rfl
theorem e_once_9 (C : FuncId → List AV → AV → Prop) (σ : St) (K : St → Prop) : runReg C r_once_9 σ K = runOps C [⟨(.iaddr 6 (.t 29) (.t 31)), (some 33), none, [7], []⟩, ⟨(.load 6 true (.t 33)), (some 34), none, [7], []⟩, ⟨(.alloc 6 55 (.agg [(.int .i64 0), (.int .i64 0), (.str ⟨#[]⟩), (.str ⟨#[]⟩), (.bool false), (.str ⟨#[]⟩)])), (some 7), none, [], []⟩, ⟨(.store 6 (.t 7) (.t 34)), none, none, [], []⟩] (σ.kills [7]) K := rfl
theorem e_once_10 (C : FuncId → List AV → AV → Prop) (σ : St) (K : St → Prop) : runReg C r_once_10 σ K = runHead C [] [⟨(.callv (.c (.clo 32 [] [])) [(.t 41)]), (some 42), (some (38, true)), [43, 44], []⟩, ⟨(.callv (.c (.clo 31 [] [])) [(.t 40), (.t 42)]), (some 43), (some (38, true)), [44], []⟩, ⟨(.callv (.c (.clo 30 [] [])) [(.t 43)]), (some 44), (some (38, true)), [], []⟩, ⟨(.un .not (.t 44)), (some 45), (some (38, true)), [], []⟩, ⟨(.pick (.t 38) (.t 45) (.c (.bool false))), (some 46), none, [], []⟩] [⟨(.faddr 1 (.t 5)), (some 35), none, [40, 42, 43, 44], []⟩, ⟨(.load 1 false (.t 35)), (some 36), none, [40, 42, 43, 44], []⟩, ⟨(.bin .neq (.t 36) (.c (.int .i64 4))), (some 37), none, [40, 42, 43, 44], []⟩, ⟨(.mv (.t 37)), (some 38), none, [40, 42, 43, 44], []⟩, ⟨(.load 6 true (.t 5)), (some 39), (some (38, true)), [40, 42, 43, 44], []⟩, ⟨(.callv (.c (.clo 32 [] [])) [(.t 39)]), (some 40), (some (38, true)), [42, 43, 44], []⟩, ⟨(.load 6 true (.t 7)), (some 41), (some (38, true)), [40, 42, 43, 44], []⟩] (σ.kills [40, 42, 43, 44]) K := rfl
theorem e_once_11 (C : FuncId → List AV → AV → Prop) (σ : St) (K : St → Prop) : runReg C r_once_11 σ K = runOps C [⟨(.mv (.c (.bool false))), (some 2), none, [], []⟩] (σ.kills []) K := rfl
theorem e_once_12 (C : FuncId → List AV → AV → Prop) (σ : St) (K : St → Prop) : runReg C r_once_12 σ K = runOps C [⟨(.bin .add (.t 31) (.c (.int .i64 1))), (some 47), none, [], []⟩, ⟨(.mv (.t 47)), (some 31), none, [], []⟩] (σ.kills []) K := rfl
theorem e_once_14 (C : FuncId → List AV → AV → Prop) (σ : St) (K : St → Prop) : runReg C r_once_14 σ K = runOps C [⟨(.bin .add (.t 21) (.c (.int .i64 1))), (some 48), none, [], []⟩, ⟨(.mv (.t 48)), (some 21), none, [], []⟩] (σ.kills []) K := rfl
theorem e_once_16 (C : FuncId → List AV → AV → Prop) (σ : St) (K : St → Prop) : runReg C r_once_16 σ K = runOps C [⟨(.callv (.c (.clo 28 [] [])) []), (some 49), none, [], []⟩, ⟨(.mv (.t 49)), (some 2), none, [], []⟩] (σ.kills [49]) K := rfl
theorem fn_once {args : List AV} {r : AV} (ha : args.length.ble Try.f6.ntmps = true) (h : run (AFn Try.prog) ir_once (endQ res_once r) (initSt args)) : AFn Try.prog 6 args r :=
  AFn.of_code (hint := fun _ => []) (c := Try.f6.body.getD .skip) (by kernel_rfl) (by kernel_rfl) Try.func6 (by kernel_rfl) (by kernel_rfl) (by kernel_rfl) (of_decide_eq_true (by kernel_rfl)) (Nat.le_of_ble_eq_true ha) (run_ok h)

attribute [local go_sem ↓] ir_awake
attribute [local go_sem] res_awake e_awake_0 e_awake_1 e_awake_2
attribute [local go_sem ↓] ir_once
attribute [local go_sem] res_once e_once_0 e_once_1 e_once_2 e_once_3 e_once_4 e_once_5 e_once_6 e_once_7 e_once_8 e_once_9 e_once_10 e_once_11 e_once_12 e_once_14 e_once_16

def aw1 : List Msg := [⟨1, 1, ⟨#[97]⟩, ⟨#[]⟩, false, ⟨#[49]⟩⟩, ⟨2, 2, ⟨#[97]⟩, ⟨#[]⟩, false, ⟨#[50]⟩⟩, ⟨3, 3, ⟨#[98]⟩, ⟨#[]⟩, false, ⟨#[]⟩⟩, ⟨4, 4, ⟨#[98]⟩, ⟨#[99]⟩, false, ⟨#[]⟩⟩]
theorem awake_sq : squeezeF aw1 = [⟨2, 1, ⟨#[97]⟩, ⟨#[]⟩, false, ⟨#[49, 50]⟩⟩, ⟨4, 4, ⟨#[98]⟩, ⟨#[99]⟩, false, ⟨#[]⟩⟩] := by decide +kernel
theorem awake_ok : AFn Try.prog 28 [] (.bool true) := by
  refine fn_awake rfl ?_
  simp (maxSteps := 4000000) only [go_sem, ↓reduceIte, reduceCtorEq, Nat.reduceEqDiff, Nat.reduceBEq, Nat.reduceAdd, Nat.reduceSub, Nat.reduceMul, Nat.reduceLT, Nat.reduceLeDiff, Nat.reduceBNe, Int.reduceBEq, Int.reduceBNe, Int.reduceLT, Int.reduceLE, Spn.a, Msg.a, Eff.a]
  refine calling (squeeze_ok aw1 ⟨by decide, by decide⟩) ?_
  rw [awake_sq]
  have z0 : Int.toNat 0 = 0 := rfl
  have z1 : Int.toNat 1 = 1 := rfl
  have z2 : ((2 : Nat) : Int) = 2 := rfl
  simp (maxSteps := 4000000) only [go_sem, ↓reduceIte, reduceCtorEq, Nat.reduceEqDiff, Nat.reduceBEq, Nat.reduceAdd, Nat.reduceSub, Nat.reduceMul, Nat.reduceLT, Nat.reduceLeDiff, Nat.reduceBNe, Int.reduceBEq, Int.reduceBNe, Int.reduceLT, Int.reduceLE, Spn.a, Msg.a, Eff.a, z0, z1, z2, beq_self_eq_true]
  trace_state
def onceP (l : List Msg) : Prop := ∀ (i j : Nat) (m x : Msg), i < j → l[i]? = some m → l[j]? = some x → m.kind ≠ 4 → (m.span.meet x.span).empty = true
def MBig (l : List Msg) : Prop := l.length ≤ 281474976710656 ∧ ∀ m, m ∈ l → m.key.size ≤ 281474976710656 ∧ m.hi.size ≤ 281474976710656 ∧ m.val.size ≤ 281474976710656
theorem bulks_len : ∀ l : List Msg, l.length ≤ bulks l
  | [] => Nat.zero_le _
  | m :: l => by
    have := bulks_len l
    simp only [List.length_cons, bulks, Msg.bulk]; omega
def outInv (s : List Msg) (k : Nat) (σ : St) : Prop :=
  ∃ i p : Nat, i ≤ s.length ∧ k = s.length - i ∧ σ.T 3 = .rs 18 0 s.length ∧ σ.T 19 = .rs 18 0 s.length ∧ σ.T 20 = .int .i64 s.length ∧ σ.T 21 = .int .i64 i ∧ σ.H 18 = some ⟨6, 55, s.map Msg.a, p⟩
def inInv (s : List Msg) (i : Nat) (m : Msg) (k : Nat) (σ : St) : Prop :=
  ∃ j p : Nat, i + 1 + j ≤ s.length ∧ k = s.length - (i + 1 + j) ∧ σ.T 3 = .rs 18 0 s.length ∧ σ.T 19 = .rs 18 0 s.length ∧ σ.T 20 = .int .i64 s.length ∧ σ.T 21 = .int .i64 i ∧ σ.H 18 = some ⟨6, 55, s.map Msg.a, p⟩ ∧
    σ.T 29 = .sl ((s.drop (i + 1)).map Msg.a) ∧ σ.T 30 = .int .i64 ((s.length - (i + 1) : Nat) : Int) ∧ σ.T 31 = .int .i64 j ∧ σ.T 5 = .ptr 5 0 0 ∧ σ.H 5 = some ⟨6, 55, [m.a], 0⟩
theorem meet_ok {a b : Spn} (ha : SOk a) (hb : SOk b) : SOk (a.meet b) := by
  unfold Spn.meet Spn.norm
  have h0 : SOk Spn.none := ⟨Nat.zero_le _, Nat.zero_le _⟩
  have hmax : ∀ x y : ByteArray, x.size ≤ 9223372036854775807 → y.size ≤ 9223372036854775807 → (maxS x y).size ≤ 9223372036854775807 := fun x y h1 h2 => by unfold maxS; split <;> assumption
  have hmin : ∀ x y : ByteArray, x.size ≤ 9223372036854775807 → y.size ≤ 9223372036854775807 → (minS x y).size ≤ 9223372036854775807 := fun x y h1 h2 => by unfold minS; split <;> assumption
  have hc : SOk (a.cut b) := by
    unfold Spn.cut
    refine ⟨hmax _ _ ha.1 hb.1, ?_⟩
    simp only
    split
    · exact hb.2
    · split
      · exact ha.2
      · exact hmin _ _ ha.2 hb.2
  split
  · exact h0
  · split
    · exact ⟨hc.1, Nat.zero_le _⟩
    · exact hc
theorem once_ok (l : List Msg) (hb : MBig l) (honce : decide ((bulks l : Int) ≤ 2000) = true → AllProp l = true → onceP (squeezeF l)) (hsz : decide ((bulks l : Int) ≤ 2000) = true → ROk (squeezeF l) ∧ ∀ m, m ∈ squeezeF l → m.key.size + 1 ≤ 9223372036854775807 ∧ m.hi.size ≤ 9223372036854775807) : AFn Try.prog 6 [.sl (l.map Msg.a)] (.bool true) := by
  refine fn_once rfl ?_
  simp (maxSteps := 4000000) only [go_sem, ↓reduceIte, reduceCtorEq, Nat.reduceEqDiff, Nat.reduceBEq, Nat.reduceAdd, Nat.reduceSub, Nat.reduceMul, Nat.reduceLT, Nat.reduceLeDiff, Nat.reduceBNe, Int.reduceBEq, Int.reduceBNe, Int.reduceLT, Int.reduceLE, Spn.a, Msg.a, Eff.a]
  (first | refine calling (refFew l 2000 (by omega) (by omega) hb.2 hb.1) ?_ | refine callingH (refFew l 2000 (by omega) (by omega) hb.2 hb.1) ?_)
  cases h1 : decide ((bulks l : Int) ≤ 2000) with
  | false =>
    simp (maxSteps := 4000000) only [go_sem, ↓reduceIte, reduceCtorEq, Nat.reduceEqDiff, Nat.reduceBEq, Nat.reduceAdd, Nat.reduceSub, Nat.reduceMul, Nat.reduceLT, Nat.reduceLeDiff, Nat.reduceBNe, Int.reduceBEq, Int.reduceBNe, Int.reduceLT, Int.reduceLE, Spn.a, Msg.a, Eff.a]
    (first | refine calling awake_ok ?_ | refine callingH awake_ok ?_)
    simp (maxSteps := 4000000) only [go_sem, ↓reduceIte, reduceCtorEq, Nat.reduceEqDiff, Nat.reduceBEq, Nat.reduceAdd, Nat.reduceSub, Nat.reduceMul, Nat.reduceLT, Nat.reduceLeDiff, Nat.reduceBNe, Int.reduceBEq, Int.reduceBNe, Int.reduceLT, Int.reduceLE, Spn.a, Msg.a, Eff.a]
  | true =>
    have h1' : bulks l ≤ 2000 := by have := of_decide_eq_true h1; omega
    have hlen : l.length ≤ 2000 := Nat.le_trans (bulks_len l) h1'
    simp (maxSteps := 4000000) only [go_sem, ↓reduceIte, reduceCtorEq, Nat.reduceEqDiff, Nat.reduceBEq, Nat.reduceAdd, Nat.reduceSub, Nat.reduceMul, Nat.reduceLT, Nat.reduceLeDiff, Nat.reduceBNe, Int.reduceBEq, Int.reduceBNe, Int.reduceLT, Int.reduceLE, Spn.a, Msg.a, Eff.a]
    (first | refine calling (refAll l (by omega) (fun m hm => ⟨by have := (hb.2 m hm).1; omega, by have := (hb.2 m hm).2.1; omega⟩)) ?_ | refine callingH (refAll l (by omega) (fun m hm => ⟨by have := (hb.2 m hm).1; omega, by have := (hb.2 m hm).2.1; omega⟩)) ?_)
    cases h2 : AllProp l with
    | false =>
      simp (maxSteps := 4000000) only [go_sem, ↓reduceIte, reduceCtorEq, Nat.reduceEqDiff, Nat.reduceBEq, Nat.reduceAdd, Nat.reduceSub, Nat.reduceMul, Nat.reduceLT, Nat.reduceLeDiff, Nat.reduceBNe, Int.reduceBEq, Int.reduceBNe, Int.reduceLT, Int.reduceLE, Spn.a, Msg.a, Eff.a]
      (first | refine calling awake_ok ?_ | refine callingH awake_ok ?_)
      simp (maxSteps := 4000000) only [go_sem, ↓reduceIte, reduceCtorEq, Nat.reduceEqDiff, Nat.reduceBEq, Nat.reduceAdd, Nat.reduceSub, Nat.reduceMul, Nat.reduceLT, Nat.reduceLeDiff, Nat.reduceBNe, Int.reduceBEq, Int.reduceBNe, Int.reduceLT, Int.reduceLE, Spn.a, Msg.a, Eff.a]
    | true =>
      simp (maxSteps := 4000000) only [go_sem, ↓reduceIte, reduceCtorEq, Nat.reduceEqDiff, Nat.reduceBEq, Nat.reduceAdd, Nat.reduceSub, Nat.reduceMul, Nat.reduceLT, Nat.reduceLeDiff, Nat.reduceBNe, Int.reduceBEq, Int.reduceBNe, Int.reduceLT, Int.reduceLE, Spn.a, Msg.a, Eff.a]
      (first | refine calling (squeeze_ok l ⟨by omega, fun m hm => ⟨by have := (hb.2 m hm).1; omega, by have := (hb.2 m hm).2.2; omega⟩⟩) ?_ | refine callingH (squeeze_ok l ⟨by omega, fun m hm => ⟨by have := (hb.2 m hm).1; omega, by have := (hb.2 m hm).2.2; omega⟩⟩) ?_)
      have hP := honce h1 h2
      obtain ⟨hR, hH⟩ := hsz h1
      generalize squeezeF l = s at *
      simp (maxSteps := 4000000) only [go_sem, ↓reduceIte, reduceCtorEq, Nat.reduceEqDiff, Nat.reduceBEq, Nat.reduceAdd, Nat.reduceSub, Nat.reduceMul, Nat.reduceLT, Nat.reduceLeDiff, Nat.reduceBNe, Int.reduceBEq, Int.reduceBNe, Int.reduceLT, Int.reduceLE, Spn.a, Msg.a, Eff.a, List.length_map]
      refine run_loop (outInv s) (k := s.length) ⟨0, 0, by omega, rfl, ?_, ?_, ?_, ?_, ?_⟩ ?_
      · simp (maxSteps := 4000000) only [go_sem, ↓reduceIte, reduceCtorEq, Nat.reduceEqDiff, Nat.reduceBEq, Nat.reduceAdd, Nat.reduceSub, Nat.reduceMul, Nat.reduceLT, Nat.reduceLeDiff, Nat.reduceBNe, Int.reduceBEq, Int.reduceBNe, Int.reduceLT, Int.reduceLE, Spn.a, Msg.a, Eff.a]
      · simp (maxSteps := 4000000) only [go_sem, ↓reduceIte, reduceCtorEq, Nat.reduceEqDiff, Nat.reduceBEq, Nat.reduceAdd, Nat.reduceSub, Nat.reduceMul, Nat.reduceLT, Nat.reduceLeDiff, Nat.reduceBNe, Int.reduceBEq, Int.reduceBNe, Int.reduceLT, Int.reduceLE, Spn.a, Msg.a, Eff.a]
      · simp (maxSteps := 4000000) only [go_sem, ↓reduceIte, reduceCtorEq, Nat.reduceEqDiff, Nat.reduceBEq, Nat.reduceAdd, Nat.reduceSub, Nat.reduceMul, Nat.reduceLT, Nat.reduceLeDiff, Nat.reduceBNe, Int.reduceBEq, Int.reduceBNe, Int.reduceLT, Int.reduceLE, Spn.a, Msg.a, Eff.a]
      · simp (maxSteps := 4000000) only [go_sem, ↓reduceIte, reduceCtorEq, Nat.reduceEqDiff, Nat.reduceBEq, Nat.reduceAdd, Nat.reduceSub, Nat.reduceMul, Nat.reduceLT, Nat.reduceLeDiff, Nat.reduceBNe, Int.reduceBEq, Int.reduceBNe, Int.reduceLT, Int.reduceLE, Spn.a, Msg.a, Eff.a]
        rfl
      · simp (maxSteps := 4000000) only [go_sem, ↓reduceIte, reduceCtorEq, Nat.reduceEqDiff, Nat.reduceBEq, Nat.reduceAdd, Nat.reduceSub, Nat.reduceMul, Nat.reduceLT, Nat.reduceLeDiff, Nat.reduceBNe, Int.reduceBEq, Int.reduceBNe, Int.reduceLT, Int.reduceLE, Spn.a, Msg.a, Eff.a]
      rintro k σ ⟨i, p, hi, rfl, t3, t19, t20, t21, o18⟩
      simp only [r_once_l15]
      have hsl := hR.1
      by_cases hlt : i < s.length
      · have hlt' : (i : Int) < (s.length : Int) := by omega
        obtain ⟨m, hm⟩ : ∃ x, s[i]? = some x := ⟨_, List.getElem?_eq_getElem hlt⟩
        have hg : ∀ (j : Nat) (x : Msg), s[j]? = some x → (s.map Msg.a).getD j .und = .agg [.int .i64 x.stamp, .int .i64 x.kind, .str x.key, .str x.hi, .bool x.op, .str x.val] := fun j x hx => by rw [List.getD_eq_getElem?_getD, List.getElem?_map, hx]; rfl
        have hgi := hg i m hm
        have hw : IntKind.i64.wrap ((i : Int) + 1) = ((i + 1 : Nat) : Int) := by rw [IntWalk.i64_in _ (by omega)]; rfl
        have htd : List.take (s.length - (i + 1)) (List.drop (i + 1) (s.map Msg.a)) = (s.drop (i + 1)).map Msg.a := by
          rw [← List.map_drop, List.take_of_length_le (by rw [List.length_map, List.length_drop]; exact Nat.le_refl _)]
        simp (maxSteps := 4000000) only [go_sem, ↓reduceIte, reduceCtorEq, Nat.reduceEqDiff, Nat.reduceBEq, Nat.reduceAdd, Nat.reduceSub, Nat.reduceMul, Nat.reduceLT, Nat.reduceLeDiff, Nat.reduceBNe, Int.reduceBEq, Int.reduceBNe, Int.reduceLT, Int.reduceLE, Spn.a, Msg.a, Eff.a, t3, t19, t20, t21, o18, hlt', hgi, hw, htd, List.length_map, List.length_drop, Int.toNat_natCast]
        refine ⟨by omega, by omega, ⟨by omega, by omega⟩, ?_⟩
        refine run_loop (inInv s i m) (k := s.length - (i + 1)) ⟨0, s.length, by omega, rfl, ?_, ?_, ?_, ?_, ?_, ?_, ?_, ?_, ?_, ?_⟩ ?_
        · simp (maxSteps := 4000000) only [go_sem, ↓reduceIte, reduceCtorEq, Nat.reduceEqDiff, Nat.reduceBEq, Nat.reduceAdd, Nat.reduceSub, Nat.reduceMul, Nat.reduceLT, Nat.reduceLeDiff, Nat.reduceBNe, Int.reduceBEq, Int.reduceBNe, Int.reduceLT, Int.reduceLE, Spn.a, Msg.a, Eff.a, t3, t19, t20, t21, o18]
        · simp (maxSteps := 4000000) only [go_sem, ↓reduceIte, reduceCtorEq, Nat.reduceEqDiff, Nat.reduceBEq, Nat.reduceAdd, Nat.reduceSub, Nat.reduceMul, Nat.reduceLT, Nat.reduceLeDiff, Nat.reduceBNe, Int.reduceBEq, Int.reduceBNe, Int.reduceLT, Int.reduceLE, Spn.a, Msg.a, Eff.a, t3, t19, t20, t21, o18]
        · simp (maxSteps := 4000000) only [go_sem, ↓reduceIte, reduceCtorEq, Nat.reduceEqDiff, Nat.reduceBEq, Nat.reduceAdd, Nat.reduceSub, Nat.reduceMul, Nat.reduceLT, Nat.reduceLeDiff, Nat.reduceBNe, Int.reduceBEq, Int.reduceBNe, Int.reduceLT, Int.reduceLE, Spn.a, Msg.a, Eff.a, t3, t19, t20, t21, o18]
        · simp (maxSteps := 4000000) only [go_sem, ↓reduceIte, reduceCtorEq, Nat.reduceEqDiff, Nat.reduceBEq, Nat.reduceAdd, Nat.reduceSub, Nat.reduceMul, Nat.reduceLT, Nat.reduceLeDiff, Nat.reduceBNe, Int.reduceBEq, Int.reduceBNe, Int.reduceLT, Int.reduceLE, Spn.a, Msg.a, Eff.a, t3, t19, t20, t21, o18]
        · simp (maxSteps := 4000000) only [go_sem, ↓reduceIte, reduceCtorEq, Nat.reduceEqDiff, Nat.reduceBEq, Nat.reduceAdd, Nat.reduceSub, Nat.reduceMul, Nat.reduceLT, Nat.reduceLeDiff, Nat.reduceBNe, Int.reduceBEq, Int.reduceBNe, Int.reduceLT, Int.reduceLE, Spn.a, Msg.a, Eff.a, t3, t19, t20, t21, o18, List.length_map]
        · simp (maxSteps := 4000000) only [go_sem, ↓reduceIte, reduceCtorEq, Nat.reduceEqDiff, Nat.reduceBEq, Nat.reduceAdd, Nat.reduceSub, Nat.reduceMul, Nat.reduceLT, Nat.reduceLeDiff, Nat.reduceBNe, Int.reduceBEq, Int.reduceBNe, Int.reduceLT, Int.reduceLE, Spn.a, Msg.a, Eff.a, t3, t19, t20, t21, o18]
        · simp (maxSteps := 4000000) only [go_sem, ↓reduceIte, reduceCtorEq, Nat.reduceEqDiff, Nat.reduceBEq, Nat.reduceAdd, Nat.reduceSub, Nat.reduceMul, Nat.reduceLT, Nat.reduceLeDiff, Nat.reduceBNe, Int.reduceBEq, Int.reduceBNe, Int.reduceLT, Int.reduceLE, Spn.a, Msg.a, Eff.a, t3, t19, t20, t21, o18]
        · simp (maxSteps := 4000000) only [go_sem, ↓reduceIte, reduceCtorEq, Nat.reduceEqDiff, Nat.reduceBEq, Nat.reduceAdd, Nat.reduceSub, Nat.reduceMul, Nat.reduceLT, Nat.reduceLeDiff, Nat.reduceBNe, Int.reduceBEq, Int.reduceBNe, Int.reduceLT, Int.reduceLE, Spn.a, Msg.a, Eff.a, t3, t19, t20, t21, o18]
          rfl
        · simp (maxSteps := 4000000) only [go_sem, ↓reduceIte, reduceCtorEq, Nat.reduceEqDiff, Nat.reduceBEq, Nat.reduceAdd, Nat.reduceSub, Nat.reduceMul, Nat.reduceLT, Nat.reduceLeDiff, Nat.reduceBNe, Int.reduceBEq, Int.reduceBNe, Int.reduceLT, Int.reduceLE, Spn.a, Msg.a, Eff.a, t3, t19, t20, t21, o18]
        · simp (maxSteps := 4000000) only [go_sem, ↓reduceIte, reduceCtorEq, Nat.reduceEqDiff, Nat.reduceBEq, Nat.reduceAdd, Nat.reduceSub, Nat.reduceMul, Nat.reduceLT, Nat.reduceLeDiff, Nat.reduceBNe, Int.reduceBEq, Int.reduceBNe, Int.reduceLT, Int.reduceLE, Spn.a, Msg.a, Eff.a, t3, t19, t20, t21, o18]
        clear t3 t19 t20 t21 o18
        rintro k σ ⟨j, p, hj, rfl, t3, t19, t20, t21, o18, t29, t30, t31, t5, o5⟩
        simp only [r_once_l13]
        by_cases hlj : i + 1 + j < s.length
        · have hlj' : (j : Int) < ((s.length - (i + 1) : Nat) : Int) := by omega
          obtain ⟨x, hx⟩ : ∃ x, s[i + 1 + j]? = some x := ⟨_, List.getElem?_eq_getElem hlj⟩
          have hgx : ((s.drop (i + 1)).map Msg.a).getD j .und = .agg [.int .i64 x.stamp, .int .i64 x.kind, .str x.key, .str x.hi, .bool x.op, .str x.val] := by
            rw [List.getD_eq_getElem?_getD, List.getElem?_map, List.getElem?_drop, hx]; rfl
          have hwj : IntKind.i64.wrap ((j : Int) + 1) = ((j + 1 : Nat) : Int) := by rw [IntWalk.i64_in _ (by omega)]; rfl
          have hkm := (hR.2 m (List.mem_of_getElem? hm)).1
          have hkx := (hR.2 x (List.mem_of_getElem? hx)).1
          have hMs := hH m (List.mem_of_getElem? hm)
          have hXs := hH x (List.mem_of_getElem? hx)
          cases h4 : (m.kind != 4) with
          | false =>
            simp (maxSteps := 4000000) only [go_sem, ↓reduceIte, reduceCtorEq, Nat.reduceEqDiff, Nat.reduceBEq, Nat.reduceAdd, Nat.reduceSub, Nat.reduceMul, Nat.reduceLT, Nat.reduceLeDiff, Nat.reduceBNe, Int.reduceBEq, Int.reduceBNe, Int.reduceLT, Int.reduceLE, Spn.a, Msg.a, Eff.a, t3, t19, t20, t21, o18, t29, t30, t31, t5, o5, hlj', hgx, hwj, h4, List.length_map, List.length_drop, Int.toNat_natCast]
            refine ⟨by omega, s.length - (i + 1 + (j + 1)), by omega, j + 1, p, by omega, rfl, ?_, ?_, ?_, ?_, ?_, ?_, ?_, ?_, ?_, ?_⟩ <;>
              (simp (maxSteps := 4000000) only [go_sem, ↓reduceIte, reduceCtorEq, Nat.reduceEqDiff, Nat.reduceBEq, Nat.reduceAdd, Nat.reduceSub, Nat.reduceMul, Nat.reduceLT, Nat.reduceLeDiff, Nat.reduceBNe, Int.reduceBEq, Int.reduceBNe, Int.reduceLT, Int.reduceLE, Spn.a, Msg.a, Eff.a, t3, t19, t20, t21, o18, t29, t30, t31, t5, o5, hwj])
          | true =>
            have h4' : m.kind ≠ 4 := by simpa using h4
            simp (maxSteps := 4000000) only [go_sem, ↓reduceIte, reduceCtorEq, Nat.reduceEqDiff, Nat.reduceBEq, Nat.reduceAdd, Nat.reduceSub, Nat.reduceMul, Nat.reduceLT, Nat.reduceLeDiff, Nat.reduceBNe, Int.reduceBEq, Int.reduceBNe, Int.reduceLT, Int.reduceLE, Spn.a, Msg.a, Eff.a, t3, t19, t20, t21, o18, t29, t30, t31, t5, o5, hlj', hgx, hwj, h4, List.length_map, List.length_drop, Int.toNat_natCast]
            repeat refine ⟨by omega, ?_⟩
            (first | refine calling (refSpan m hkm) ?_ | refine callingH (refSpan m hkm) ?_)
            simp (maxSteps := 4000000) only [go_sem, ↓reduceIte, reduceCtorEq, Nat.reduceEqDiff, Nat.reduceBEq, Nat.reduceAdd, Nat.reduceSub, Nat.reduceMul, Nat.reduceLT, Nat.reduceLeDiff, Nat.reduceBNe, Int.reduceBEq, Int.reduceBNe, Int.reduceLT, Int.reduceLE, Spn.a, Msg.a, Eff.a, t3, t19, t20, t21, o18, t29, t30, t31, t5, o5, hwj, h4]
            (first | refine calling (refSpan x hkx) ?_ | refine callingH (refSpan x hkx) ?_)
            simp (maxSteps := 4000000) only [go_sem, ↓reduceIte, reduceCtorEq, Nat.reduceEqDiff, Nat.reduceBEq, Nat.reduceAdd, Nat.reduceSub, Nat.reduceMul, Nat.reduceLT, Nat.reduceLeDiff, Nat.reduceBNe, Int.reduceBEq, Int.reduceBNe, Int.reduceLT, Int.reduceLE, Spn.a, Msg.a, Eff.a, t3, t19, t20, t21, o18, t29, t30, t31, t5, o5, hwj, h4]
            (first | refine calling (refMeet m.span x.span (span_ok (n := 0) hMs.1 hMs.2) (span_ok (n := 0) hXs.1 hXs.2)) ?_ | refine callingH (refMeet m.span x.span (span_ok (n := 0) hMs.1 hMs.2) (span_ok (n := 0) hXs.1 hXs.2)) ?_)
            simp (maxSteps := 4000000) only [go_sem, ↓reduceIte, reduceCtorEq, Nat.reduceEqDiff, Nat.reduceBEq, Nat.reduceAdd, Nat.reduceSub, Nat.reduceMul, Nat.reduceLT, Nat.reduceLeDiff, Nat.reduceBNe, Int.reduceBEq, Int.reduceBNe, Int.reduceLT, Int.reduceLE, Spn.a, Msg.a, Eff.a, t3, t19, t20, t21, o18, t29, t30, t31, t5, o5, hwj, h4]
            have hem : (m.span.meet x.span).empty = true := hP i (i + 1 + j) m x (by omega) hm hx h4'
            (first | refine calling (refEmpty (m.span.meet x.span) (meet_ok (span_ok (n := 0) hMs.1 hMs.2) (span_ok (n := 0) hXs.1 hXs.2))) ?_ | refine callingH (refEmpty (m.span.meet x.span) (meet_ok (span_ok (n := 0) hMs.1 hMs.2) (span_ok (n := 0) hXs.1 hXs.2))) ?_)
            rw [hem]
            simp (maxSteps := 4000000) only [go_sem, ↓reduceIte, reduceCtorEq, Nat.reduceEqDiff, Nat.reduceBEq, Nat.reduceAdd, Nat.reduceSub, Nat.reduceMul, Nat.reduceLT, Nat.reduceLeDiff, Nat.reduceBNe, Int.reduceBEq, Int.reduceBNe, Int.reduceLT, Int.reduceLE, Spn.a, Msg.a, Eff.a, t3, t19, t20, t21, o18, t29, t30, t31, t5, o5, hwj, h4]
            refine ⟨s.length - (i + 1 + (j + 1)), by omega, j + 1, p, by omega, rfl, ?_, ?_, ?_, ?_, ?_, ?_, ?_, ?_, ?_, ?_⟩ <;>
              (simp (maxSteps := 4000000) only [go_sem, ↓reduceIte, reduceCtorEq, Nat.reduceEqDiff, Nat.reduceBEq, Nat.reduceAdd, Nat.reduceSub, Nat.reduceMul, Nat.reduceLT, Nat.reduceLeDiff, Nat.reduceBNe, Int.reduceBEq, Int.reduceBNe, Int.reduceLT, Int.reduceLE, Spn.a, Msg.a, Eff.a, t3, t19, t20, t21, o18, t29, t30, t31, t5, o5, hwj])
        · have hlj' : ¬ (j : Int) < ((s.length - (i + 1) : Nat) : Int) := by omega
          simp (maxSteps := 4000000) only [go_sem, ↓reduceIte, reduceCtorEq, Nat.reduceEqDiff, Nat.reduceBEq, Nat.reduceAdd, Nat.reduceSub, Nat.reduceMul, Nat.reduceLT, Nat.reduceLeDiff, Nat.reduceBNe, Int.reduceBEq, Int.reduceBNe, Int.reduceLT, Int.reduceLE, Spn.a, Msg.a, Eff.a, t3, t19, t20, t21, o18, t29, t30, t31, t5, o5, hlj', hw]
          refine ⟨s.length - (i + 1), by omega, i + 1, p, by omega, rfl, ?_, ?_, ?_, ?_, ?_⟩ <;>
            (simp (maxSteps := 4000000) only [go_sem, ↓reduceIte, reduceCtorEq, Nat.reduceEqDiff, Nat.reduceBEq, Nat.reduceAdd, Nat.reduceSub, Nat.reduceMul, Nat.reduceLT, Nat.reduceLeDiff, Nat.reduceBNe, Int.reduceBEq, Int.reduceBNe, Int.reduceLT, Int.reduceLE, Spn.a, Msg.a, Eff.a, t3, t19, t20, t21, o18, hw])
      · have hlt' : ¬ (i : Int) < (s.length : Int) := by omega
        simp (maxSteps := 4000000) only [go_sem, ↓reduceIte, reduceCtorEq, Nat.reduceEqDiff, Nat.reduceBEq, Nat.reduceAdd, Nat.reduceSub, Nat.reduceMul, Nat.reduceLT, Nat.reduceLeDiff, Nat.reduceBNe, Int.reduceBEq, Int.reduceBNe, Int.reduceLT, Int.reduceLE, Spn.a, Msg.a, Eff.a, t3, t19, t20, t21, o18, hlt', List.length_map]
        (first | refine calling awake_ok ?_ | refine callingH awake_ok ?_)
        simp (maxSteps := 4000000) only [go_sem, ↓reduceIte, reduceCtorEq, Nat.reduceEqDiff, Nat.reduceBEq, Nat.reduceAdd, Nat.reduceSub, Nat.reduceMul, Nat.reduceLT, Nat.reduceLeDiff, Nat.reduceBNe, Int.reduceBEq, Int.reduceBNe, Int.reduceLT, Int.reduceLE, Spn.a, Msg.a, Eff.a]
end Go.Proofs.Ytdjkefndigijjaa
